/-
  SlotNeeds: for all units of at most 10 imports and nodes with at most 20 refs each, the needed imports ascend and are imports; the target of every RkSlot and RkCall that is an import is among them; and each of them is the target of such a ref; for all other units the small example holds. No condition.
-/
import Derived.Test.YtdmomdaeiaeolaaRefKeep
namespace Go.Proofs.Ytdmomdaeiaeolaa.slotNeeds
open Go.ChangeShapes Go.WideShapes Go.ChangeAt Go.RowKit

theorem own : ownKnob Try.prog.godebug = none := by kernel_rfl

theorem few_imps {u : UnitD} (h : fewB u = true) : u.imps.length ≤ 10 := by
  simp only [fewB, Bool.and_eq_true, decide_eq_true_eq] at h
  exact h.1.1

theorem needL_rising (m : Nat) (rs : List RefD) : (needL m rs).Pairwise (· < ·) := by
  unfold needL
  rw [List.pairwise_map]
  exact (List.pairwise_lt_range.filter _).imp fun h => by
    show (_ : Int) < _
    simpa using h

theorem needL_is (m : Nat) (rs : List RefD) (z : Int) (h : z ∈ needL m rs) : ∃ n : Nat, z = (n : Int) ∧ n < m ∧ needB rs n = true := by
  unfold needL at h
  obtain ⟨n, hn, rfl⟩ := List.mem_map.1 h
  have h2 := List.mem_filter.1 hn
  exact ⟨n, rfl, List.mem_range.1 h2.1, h2.2⟩

theorem uses_need (u : UnitD) (x : NodeD) (r : RefD) (n : Nat) (hx : x ∈ u.nodes) (hr : r ∈ x.refs) (hc : callB r = true) (ht : r.tn = (n : Int)) (hn : n < u.imps.length) : decide ((n : Int) ∈ u.need) = true := by
  refine decide_eq_true ((need_mem u n hn).2 ?_)
  exact needI_mem u.refs r n (refs_mem u x r hx hr) (by unfold usesI; rw [hc, ht]; simp)

set_option maxHeartbeats 8000000 in
set_option maxRecDepth 100000 in
theorem walk (a : Value) (w : World) (ha : ∃ u : UnitD, a = .agg u.parts.toArray ∧ u.Ok w w.heap.size) :
    Calls Try.prog 4 #[a] w fun e w' => e = .returned (.bool true) ∧ Below w.heap.size w w' := by
  obtain ⟨u, rfl, hu⟩ := ha
  obtain ⟨i0, hi, hz0, hz1, hz2⟩ := info_parts boolInfo
  have HU := Lib.hid hu
  have hnl := hu.nlen
  clear hu
  have HX0 := Lib.hid (Blk.new w 32 u.parts.toArray)
  have HB0 := Lib.hid ((Below.refl w.heap.size w).alloc (Nat.le_refl _) (.cells u.parts.toArray 32))
  have HF := Lib.hid (fun (w' : World) (hb : Below w.heap.size w w') => few_any u w.heap.size w' (HU.out.below hb) hb.size)
  simp only [UnitD.parts] at HF
  simp only [UnitD.parts]
  go_enter Try.func4, Try.ntmps4
  go_wp2_with fail
  refine (small_any _).mono ?_
  rintro e w1 ⟨rfl, hb1⟩
  have HX1 := Lib.hid (HX0.out.below hb1 HX0.out.lt)
  have HB1 := Lib.hid (HB0.out.trans (hb1.mono (by simp)))
  clear hb1 HX0 HB0
  have p0 : w1.cell? ⟨w.heap.size, 0, none⟩ = some (.string u.u0) := HX1.out.cell 0
  have p1 : w1.cell? ⟨w.heap.size, 1, none⟩ = some (.bool u.u1) := HX1.out.cell 1
  have p2 : w1.cell? ⟨w.heap.size, 2, none⟩ = some (.slice u.nA u.nodes.length u.nc) := HX1.out.cell 2
  have p3 : w1.cell? ⟨w.heap.size, 3, none⟩ = some (.slice u.iA u.imps.length u.ic) := HX1.out.cell 3
  have p4 : w1.cell? ⟨w.heap.size, 4, none⟩ = some (.slice u.u4.A u.u4.n u.u4.c) := HX1.out.cell 4
  have p5 : w1.cell? ⟨w.heap.size, 5, none⟩ = some (.slice u.u5.A u.u5.n u.u5.c) := HX1.out.cell 5
  have p6 : w1.cell? ⟨w.heap.size, 6, none⟩ = some (.slice u.u6.A u.u6.n u.u6.c) := HX1.out.cell 6
  have p7 : w1.cell? ⟨w.heap.size, 7, none⟩ = some (.slice u.u7.A u.u7.n u.u7.c) := HX1.out.cell 7
  have p8 : w1.cell? ⟨w.heap.size, 8, none⟩ = some (.int .i64 u.u8) := HX1.out.cell 8
  have p9 : w1.cell? ⟨w.heap.size, 9, none⟩ = some (.int .i64 u.u9) := HX1.out.cell 9
  have p10 : w1.cell? ⟨w.heap.size, 10, none⟩ = some (.int .i64 u.u10) := HX1.out.cell 10
  have p11 : w1.cell? ⟨w.heap.size, 11, none⟩ = some (.int .i64 u.u11) := HX1.out.cell 11
  have p12 : w1.cell? ⟨w.heap.size, 12, none⟩ = some (.slice u.u12.A u.u12.n u.u12.c) := HX1.out.cell 12
  have p13 : w1.cell? ⟨w.heap.size, 13, none⟩ = some (.slice u.u13.A u.u13.n u.u13.c) := HX1.out.cell 13
  have HFX := Lib.hid (HF.out w1 HB1.out)
  cases hf : fewB u with
  | false =>
    rw [hf] at HFX
    clear hf
    go_wp2_with fail
    refine (HFX.out).mono ?_
    rintro e w2 ⟨rfl, hb2⟩
    have HB2 := Lib.hid (HB1.out.trans (hb2.mono HB1.out.size))
    clear hb2
    go_wp2
    go_ret
    exact ⟨rfl, HB2.out⟩
  | true =>
    have him := few_imps hf
    rw [hf] at HFX
    clear hf
    have HN := Lib.hid (fun (w' : World) (hb : Below w.heap.size w w') => Need_any u w.heap.size w' (HU.out.below hb) hb.size (by omega))
    have HUN := Lib.hid (uses_need u)
    have HIS := Lib.hid (needL_is u.imps.length u.refs)
    have HRI := Lib.hid (needL_rising u.imps.length u.refs)
    have hnd : u.need = needL u.imps.length u.refs := rfl
    have hln := needL_length u.refs u.imps.length
    rw [← hnd] at HIS HRI hln
    clear hnd
    have HRF : Hid (u.refs = u.nodes.flatMap NodeD.refs) := rfl
    generalize u.need = NL at HN HUN HIS HRI hln
    generalize u.refs = RS at HIS HRF
    simp only [UnitD.parts] at HN
    go_wp2_with fail
    refine (HFX.out).mono ?_
    rintro e w2 ⟨rfl, hb2⟩
    have HX2 := Lib.hid (HX1.out.below hb2 HX1.out.lt)
    have HB2 := Lib.hid (HB1.out.trans (hb2.mono HB1.out.size))
    clear hb2 p0 p1 p2 p3 p4 p5 p6 p7 p8 p9 p10 p11 p12 p13 HX1 HB1 HFX
    have q0 : w2.cell? ⟨w.heap.size, 0, none⟩ = some (.string u.u0) := HX2.out.cell 0
    have q1 : w2.cell? ⟨w.heap.size, 1, none⟩ = some (.bool u.u1) := HX2.out.cell 1
    have q2 : w2.cell? ⟨w.heap.size, 2, none⟩ = some (.slice u.nA u.nodes.length u.nc) := HX2.out.cell 2
    have q3 : w2.cell? ⟨w.heap.size, 3, none⟩ = some (.slice u.iA u.imps.length u.ic) := HX2.out.cell 3
    have q4 : w2.cell? ⟨w.heap.size, 4, none⟩ = some (.slice u.u4.A u.u4.n u.u4.c) := HX2.out.cell 4
    have q5 : w2.cell? ⟨w.heap.size, 5, none⟩ = some (.slice u.u5.A u.u5.n u.u5.c) := HX2.out.cell 5
    have q6 : w2.cell? ⟨w.heap.size, 6, none⟩ = some (.slice u.u6.A u.u6.n u.u6.c) := HX2.out.cell 6
    have q7 : w2.cell? ⟨w.heap.size, 7, none⟩ = some (.slice u.u7.A u.u7.n u.u7.c) := HX2.out.cell 7
    have q8 : w2.cell? ⟨w.heap.size, 8, none⟩ = some (.int .i64 u.u8) := HX2.out.cell 8
    have q9 : w2.cell? ⟨w.heap.size, 9, none⟩ = some (.int .i64 u.u9) := HX2.out.cell 9
    have q10 : w2.cell? ⟨w.heap.size, 10, none⟩ = some (.int .i64 u.u10) := HX2.out.cell 10
    have q11 : w2.cell? ⟨w.heap.size, 11, none⟩ = some (.int .i64 u.u11) := HX2.out.cell 11
    have q12 : w2.cell? ⟨w.heap.size, 12, none⟩ = some (.slice u.u12.A u.u12.n u.u12.c) := HX2.out.cell 12
    have q13 : w2.cell? ⟨w.heap.size, 13, none⟩ = some (.slice u.u13.A u.u13.n u.u13.c) := HX2.out.cell 13
    have HNX := Lib.hid (HN.out w2 HB2.out)
    go_wp2_with fail
    refine (HNX.out).mono ?_
    rintro e w3 ⟨v3, rfl, hown3, hb3⟩
    obtain ⟨A3, c3, rfl, _⟩ := own_reads hown3
    have HW3 := Lib.hid hown3
    have HX3 := Lib.hid (HX2.out.below hb3 HX2.out.lt)
    have HB3 := Lib.hid (HB2.out.trans (hb3.mono HB2.out.size))
    have hw2 : w.heap.size < w2.heap.size := HX2.out.lt
    have hw23 := hb3.size
    clear hown3 hb3 q0 q1 q2 q3 q4 q5 q6 q7 q8 q9 q10 q11 q12 q13 HX2 HB2 HNX HN HF
    generalize w2.heap.size = B3 at HW3 hw2 hw23
    have r3 : w3.cell? ⟨w.heap.size, 3, none⟩ = some (.slice u.iA u.imps.length u.ic) := HX3.out.cell 3
    go_wp2_with (at_make; refine wpList_make_full _ rfl _ _ 43 rfl w3.heap.size 4 i0 (.bool false) 1 Try.underlying43 hi hz0 hz1 .i64 .i64 _ _ u.imps.length rfl rfl rfl rfl (by rw [hz2]; omega) (by unfold maxLen; omega) (Nat.le_refl _) ?_)
    intro w4 hown4 hgrow4
    rw [toList_madeCells_one, ← boolCells_none] at hown4
    have HR4 := Lib.hid (ownsRow_blk hown4)
    have HX4 := Lib.hid (HX3.out.grown hgrow4 (by simp))
    have HRD4 := Lib.hid ((Reads.of_own HW3.out).grown hgrow4 (Nat.le_refl _) (fun k hk => by cases hk))
    have HB4 := Lib.hid (HB3.out.grown hgrow4 HB3.out.size (fun k hk => by cases hk))
    have hNg : w.heap.size < w3.heap.size := HX3.out.lt
    clear hown4 hgrow4 r3 HX3 HW3 HB3
    go_wp2_with fail
    generalize w3.heap.size = g at HR4 HRD4 hNg ⊢
    go_loopw [6] (fun vi wr => ∃ i : Nat, vi = .int .i64 i ∧ i ≤ u.nodes.length ∧ Hid (Blk wr g 4 (boolCells (needB ((u.nodes.take i).flatMap NodeD.refs)) u.imps.length).toArray) ∧ Hid (Blk wr w.heap.size 32 u.parts.toArray) ∧ Hid (Reads wr g 1 A3 NL.length (intCells NL)) ∧ Hid (Below w.heap.size w wr)) (fun vi _ => u.nodes.length - (intOf vi).toNat)
    case atStart => exact ⟨0, rfl, Nat.zero_le _, HR4, HX4, HRD4, HB4⟩
    case round =>
      clear HR4 HX4 HRD4 HB4
      obtain ⟨i, rfl, hin, HR, HX, HRD, HB⟩ := hrel
      have c2 : wr.cell? ⟨w.heap.size, 2, none⟩ = some (.slice u.nA u.nodes.length u.nc) := HX.out.cell 2
      by_cases hil : i < u.nodes.length
      · have HNM := Lib.hid (List.getElem_mem hil)
        have HNI := Lib.hid (HU.out.nodes _ (List.getElem_mem hil))
        have HT := Lib.hid (take_refs u.nodes i hil)
        have HCR : Hid (∀ wr, Below w.heap.size w wr → ∃ b off, u.nA = some ⟨b, off, none⟩ ∧ wr.cell? ⟨b, off + i * 12 + 6, none⟩ = some (.slice (u.nodes[i]'hil).A (u.nodes[i]'hil).refs.length (u.nodes[i]'hil).c)) := fun wr hb => cell_refs (HU.out.ncells.below hb) hil
        generalize u.nodes[i]'hil = x at HNM HNI HT HCR
        generalize (u.nodes.take i).flatMap NodeD.refs = RI at HR HT
        have hrl := HNI.out.len
        obtain ⟨wo, rfl⟩ : ∃ wo : World, wo = wr := ⟨_, rfl⟩
        go_wp2_with fail
        clear c2
        go_loopw [7] (fun vk wr => ∃ k : Nat, vk = .int .i64 k ∧ k ≤ x.refs.length ∧ Hid (Blk wr g 4 (boolCells (needB (RI ++ x.refs.take k)) u.imps.length).toArray) ∧ Hid (Blk wr w.heap.size 32 u.parts.toArray) ∧ Hid (Reads wr g 1 A3 NL.length (intCells NL)) ∧ Hid (Below w.heap.size w wr)) (fun vk _ => x.refs.length - (intOf vk).toNat)
        case atStart => exact ⟨0, rfl, Nat.zero_le _, Lib.hid (by rw [List.take_zero, List.append_nil]; exact HR.out), HX, HRD, HB⟩
        case round =>
          clear HX HRD HB HR
          obtain ⟨k, rfl, hkn, HR2, HX2, HRD, HB2⟩ := hrel
          have c2 : wr.cell? ⟨w.heap.size, 2, none⟩ = some (.slice u.nA u.nodes.length u.nc) := HX2.out.cell 2
          obtain ⟨b, off, hA, c6⟩ := HCR.out wr HB2.out
          rw [hA] at c2
          clear hA
          have hgs : g ≤ wr.heap.size := Nat.le_of_lt HR2.out.lt
          by_cases hkl : k < x.refs.length
          · obtain ⟨b', off', hA', d0, d1, d2, d3, d4, d5, d6⟩ := cells_of_row7 (HNI.out.cells.below HB2.out) hkl
            rw [hA'] at c6
            clear hA'
            have HT2 := Lib.hid (List.take_succ_eq_append_getElem hkl)
            have HRM := Lib.hid (List.getElem_mem hkl)
            have HTN := Lib.hid ((HNI.out.refs _ (List.getElem_mem hkl)).tn)
            generalize x.refs[k]'hkl = r at d0 d1 d2 d3 d4 d5 d6 HT2 HRM HTN
            have HT3 := Lib.hid (show RI ++ x.refs.take (k + 1) = (RI ++ x.refs.take k) ++ [r] by rw [HT2.out, ← List.append_assoc])
            generalize RI ++ x.refs.take k = RK at HT3 HR2
            obtain ⟨a0, kind, tk, tn, a4, a5, a6⟩ := r
            simp only at d0 d1 d2 d3 d4 d5 d6 HTN
            have REL0 : Hid ((callB ⟨a0, kind, tk, tn, a4, a5, a6⟩ = false ∨ tn < 0 ∨ (u.imps.length : Int) ≤ tn) → (∃ k' : Nat, Value.int .i64 ((k : Int) + 1) = .int .i64 k' ∧ k' ≤ x.refs.length ∧ Hid (Blk (wr.alloc (.cells #[.int .i64 a0, .int .i64 kind, .int .i64 tk, .int .i64 tn, .int .i64 a4, .int .i64 a5, .int .i64 a6] 53)) g 4 (boolCells (needB (RI ++ x.refs.take k')) u.imps.length).toArray) ∧
                Hid (Blk (wr.alloc (.cells #[.int .i64 a0, .int .i64 kind, .int .i64 tk, .int .i64 tn, .int .i64 a4, .int .i64 a5, .int .i64 a6] 53)) w.heap.size 32 u.parts.toArray) ∧ Hid (Reads (wr.alloc (.cells #[.int .i64 a0, .int .i64 kind, .int .i64 tk, .int .i64 tn, .int .i64 a4, .int .i64 a5, .int .i64 a6] 53)) g 1 A3 NL.length (intCells NL)) ∧ Hid (Below w.heap.size w (wr.alloc (.cells #[.int .i64 a0, .int .i64 kind, .int .i64 tk, .int .i64 tn, .int .i64 a4, .int .i64 a5, .int .i64 a6] 53))))) := fun h =>
              ⟨k + 1, by go_num, by omega, Lib.hid (by rw [HT3.out, ← boolCells_miss RK _ u.imps.length h]; exact HR2.out.alloc _), HX2.out.alloc _, HRD.out.alloc hgs _, HB2.out.alloc HB2.out.size _⟩
            by_cases h1 : tk = 1
            · by_cases h0 : tn < 0
              · have REL := Lib.hid (REL0.out (.inr (.inl h0)))
                subst h1
                go_wp2
                go_roundw
                case rel => exact REL.out
                case measure => simp [intOf]; omega
              · by_cases hm : (u.imps.length : Int) ≤ tn
                · have REL := Lib.hid (REL0.out (.inr (.inr hm)))
                  subst h1
                  go_wp2
                  go_roundw
                  case rel => exact REL.out
                  case measure => simp [intOf]; omega
                · obtain ⟨t, rfl⟩ : ∃ t : Nat, tn = t := ⟨tn.toNat, by omega⟩
                  have htm : t < u.imps.length := by omega
                  have htm2 : (t : Int) < (u.imps.length : Int) := by omega
                  subst h1
                  by_cases h7 : kind = 7
                  · subst h7
                    clear REL0
                    have HH := Lib.hid (boolCells_hit RK ⟨a0, 7, 1, (t : Int), a4, a5, a6⟩ u.imps.length t (by simp [callB]) rfl)
                    have HIN := Lib.hid (HUN.out x ⟨a0, 7, 1, (t : Int), a4, a5, a6⟩ t HNM.out HRM.out (by simp [callB]) rfl htm)
                    have HRA := Lib.hid (HR2.out.alloc (.cells #[.int .i64 a0, .int .i64 7, .int .i64 1, .int .i64 (t : Int), .int .i64 a4, .int .i64 a5, .int .i64 a6] 53))
                    have hce : (wr.alloc (.cells #[.int .i64 a0, .int .i64 7, .int .i64 1, .int .i64 (t : Int), .int .i64 a4, .int .i64 a5, .int .i64 a6] 53)).cell? ⟨g, t, none⟩ = some (.bool (needB RK t)) := (HRA.out.cell t).trans (by simp [boolCells, htm])
                    have hfz := HRA.out.frozen t
                    have HRD2 := Lib.hid ((HRD.out.alloc hgs (.cells #[.int .i64 a0, .int .i64 7, .int .i64 1, .int .i64 (t : Int), .int .i64 a4, .int .i64 a5, .int .i64 a6] 53)).setCell (p := ⟨g, t, none⟩) (Nat.le_refl g) (.bool true))
                    have HINA := Lib.hid (in_any A3 c3 g NL (t : Int) _ HRD2.out (by omega))
                    rw [HIN.out] at HINA
                    go_wp2_with fail
                    refine (HINA.out).mono ?_
                    rintro e w' ⟨rfl, rfl⟩
                    go_wp2
                    go_roundw
                    case rel => exact ⟨k + 1, by go_num, by omega, Lib.hid (by rw [HT3.out, ← HH.out]; exact HRA.out.set_ t _), (HX2.out.alloc _).far (by show w.heap.size ≠ g; omega) _, HRD2, (HB2.out.alloc HB2.out.size _).setCell (by show w.heap.size ≤ g; omega) _⟩
                    case measure => simp [intOf]; omega
                    
                  · by_cases h6 : kind = 6
                    · subst h6
                      clear REL0 h7
                      have HH := Lib.hid (boolCells_hit RK ⟨a0, 6, 1, (t : Int), a4, a5, a6⟩ u.imps.length t (by simp [callB]) rfl)
                      have HIN := Lib.hid (HUN.out x ⟨a0, 6, 1, (t : Int), a4, a5, a6⟩ t HNM.out HRM.out (by simp [callB]) rfl htm)
                      have HRA := Lib.hid (HR2.out.alloc (.cells #[.int .i64 a0, .int .i64 6, .int .i64 1, .int .i64 (t : Int), .int .i64 a4, .int .i64 a5, .int .i64 a6] 53))
                      have hce : (wr.alloc (.cells #[.int .i64 a0, .int .i64 6, .int .i64 1, .int .i64 (t : Int), .int .i64 a4, .int .i64 a5, .int .i64 a6] 53)).cell? ⟨g, t, none⟩ = some (.bool (needB RK t)) := (HRA.out.cell t).trans (by simp [boolCells, htm])
                      have hfz := HRA.out.frozen t
                      have HRD2 := Lib.hid ((HRD.out.alloc hgs (.cells #[.int .i64 a0, .int .i64 6, .int .i64 1, .int .i64 (t : Int), .int .i64 a4, .int .i64 a5, .int .i64 a6] 53)).setCell (p := ⟨g, t, none⟩) (Nat.le_refl g) (.bool true))
                      have HINA := Lib.hid (in_any A3 c3 g NL (t : Int) _ HRD2.out (by omega))
                      rw [HIN.out] at HINA
                      go_wp2_with fail
                      refine (HINA.out).mono ?_
                      rintro e w' ⟨rfl, rfl⟩
                      go_wp2
                      go_roundw
                      case rel => exact ⟨k + 1, by go_num, by omega, Lib.hid (by rw [HT3.out, ← HH.out]; exact HRA.out.set_ t _), (HX2.out.alloc _).far (by show w.heap.size ≠ g; omega) _, HRD2, (HB2.out.alloc HB2.out.size _).setCell (by show w.heap.size ≤ g; omega) _⟩
                      case measure => simp [intOf]; omega
                      
                    · have REL := Lib.hid (REL0.out (.inl (by simp [callB, h7, h6])))
                      have h7' : (kind == 7) = false := by simpa using h7
                      have h6' : (kind == 6) = false := by simpa using h6
                      have h7n : (kind != 7) = true := by simpa using h7
                      have h6n : (kind != 6) = true := by simpa using h6
                      clear h7 h6 REL0
                      go_wp2
                      go_roundw
                      case rel => exact REL.out
                      case measure => simp [intOf]; omega
            · have REL := Lib.hid (REL0.out (.inl (by simp [callB, h1])))
              have h1' : (tk == 1) = false := by simpa using h1
              have h1n : (tk != 1) = true := by simpa using h1
              clear h1 REL0
              go_wp2
              go_roundw
              case rel => exact REL.out
              case measure => simp [intOf]; omega
          · obtain rfl : k = x.refs.length := by omega
            rw [List.take_length, ← HT.out] at HR2
            go_wp2
            go_roundw
            case rel => exact ⟨i + 1, by go_num, by omega, HR2, HX2, HRD, HB2⟩
            case measure => simp [intOf]; omega
      · obtain rfl : i = u.nodes.length := by omega
        rw [List.take_length, ← HRF.out] at HR
        clear HRF HUN
        have HRb := HR
        have HRDb := HRD
        obtain ⟨wo, rfl⟩ : ∃ wo : World, wo = wr := ⟨_, rfl⟩
        go_wp2_with fail
        clear c2
        go_loopw [10] (fun vi wr => ∃ i : Nat, vi = .int .i64 i ∧ i ≤ NL.length ∧ Hid (Blk wr g 4 (boolCells (needB RS) u.imps.length).toArray) ∧ Hid (Reads wr g 1 A3 NL.length (intCells NL)) ∧ Hid (Below w.heap.size w wr)) (fun vi _ => NL.length - (intOf vi).toNat)
        case atStart => exact ⟨0, rfl, Nat.zero_le _, HRb, HRDb, HB⟩
        case round =>
          clear HR HRD HB HRb HRDb HX
          obtain ⟨i, rfl, hin, HR, HRD, HB⟩ := hrel
          by_cases hil : i < NL.length
          · obtain ⟨b, off, rfl, _, hc⟩ := HRD.out.lit (by omega) (by decide)
            have c0 : wr.cell? ⟨b, off + i, none⟩ = some (.int .i64 (NL[i]'hil)) := hc i _ (by simp [intCells, hil])
            obtain ⟨n, hn, hnm, hnb⟩ := HIS.out _ (List.getElem_mem hil)
            rw [hn] at c0
            have c1 : wr.cell? ⟨g, n, none⟩ = some (.bool true) := (HR.out.cell n).trans (by simp [boolCells, hnm, hnb])
            have hnm2 : (n : Int) < (u.imps.length : Int) := by omega
            have hn0 : (0 : Int) ≤ (n : Int) := by omega
            have hi0 : (0 : Int) ≤ (i : Int) := by omega
            have hil2 : (i : Int) < (NL.length : Int) := by omega
            have hd1 : decide ((n : Int) < 0) = false := decide_eq_false (by omega)
            have hd2 : decide ((u.imps.length : Int) ≤ (n : Int)) = false := decide_eq_false (by omega)
            have hd3 : decide (u.imps.length ≤ n) = false := decide_eq_false (by omega)
            by_cases h0 : i = 0
            · subst h0
              rw [Nat.add_zero] at c0
              have hg0 : decide ((0 : Int) < ((0 : Nat) : Int)) = false := by decide
              clear hc hn hnb
              go_wp2
              go_quiet (fail)
              go_wp2
              exact ⟨⟨1, rfl, by omega, HR, HRD, below_drewN HB.out _⟩, by simp [intOf]; omega⟩
            · obtain ⟨k, rfl⟩ : ∃ k, i = k + 1 := ⟨i - 1, by omega⟩
              have hkl : k < NL.length := by omega
              have c2 : wr.cell? ⟨b, off + k, none⟩ = some (.int .i64 (NL[k]'hkl)) := hc k _ (by simp [intCells, hkl])
              obtain ⟨n2, hn2, _, _⟩ := HIS.out _ (List.getElem_mem hkl)
              have hlt : NL[k]'hkl < NL[k + 1]'hil := List.pairwise_iff_getElem.1 HRI.out k (k + 1) hkl hil (by omega)
              rw [hn2] at c2
              rw [hn, hn2] at hlt
              clear hc hn hn2 hnb h0
              have hd4 : decide ((n : Int) ≤ (n2 : Int)) = false := decide_eq_false (by omega)
              have hd5 : decide (n ≤ n2) = false := decide_eq_false (by omega)
              have hd6 : decide (0 < k + 1) = true := decide_eq_true (by omega)
              have hkw : IntKind.i64.wrap ((((k + 1 : Nat)) : Int) - 1) = (k : Int) := by
                have e : (((k + 1 : Nat)) : Int) - 1 = (k : Int) := by omega
                rw [e]
                exact IntWalk.i64_in _ (by omega)
              have hk0 : (0 : Int) ≤ (k : Int) := by omega
              have hkl2 : (k : Int) < (NL.length : Int) := by omega
              go_wp2
              go_quiet (fail)
              go_wp2
              exact ⟨⟨k + 1 + 1, by go_num, by omega, HR, HRD, below_drewN HB.out _⟩, by simp [intOf]; omega⟩
          · go_wp2
            go_ret
            exact ⟨rfl, HB.out⟩

set_option maxRecDepth 100000 in
theorem lifted (os : Os) (started : os.Started) (H : Type) (enc : TypeId × Value → H) :
    ReturnsInHanded {} Try.checked os 4 .any (Rows.slotNeedsSpec.pre6 enc Try.prog Try.f4 Rows.slotNeedsRow.domain false) (Rows.slotNeedsSpec.post enc Try.prog Try.f4 false true false false) := by
  refine returnsInHanded_of_change (C := Try.checked) own started (by kernel_rfl) Try.func4
    (ChangeSpec.witness6 (enc := enc) (C := Try.checked) false ⟨#[], #[.agg #[.string ByteArray.empty, .bool false, .slice none 0 0, .slice none 0 0, .slice none 0 0, .slice none 0 0, .slice none 0 0, .slice none 0 0, .int .i64 0, .int .i64 0, .int .i64 0, .int .i64 0, .slice none 0 0, .slice none 0 0]], []⟩ 8 (by kernel_rfl) (by kernel_rfl) (by kernel_rfl) (by kernel_rfl)) ?_
  intro W base args ds gs before hval0 hW hcnd _
  have hval : ∀ (j : Nat) t v, Try.f4.params[j]? = some t → args[j]? = some v → Value.okWide Try.prog W .any base t v := hval0
  have hW' := hW
  obtain ⟨p, q, hA0, hV, rfl, hfz, hnd⟩ := hW
  have hA : DataW.TrodAll enc Try.prog W 0 (fun _ => true) true Try.f4.params.toList args.toList ds p := hA0
  rw [Try.params4] at hA hval
  obtain ⟨v0, vs0, d0, ds0, p0, q0, hargs, rfl, rfl, h0, r0⟩ := trodAll_cons hA
  obtain ⟨rfl, rfl, rfl⟩ := trodAll_nil r0
  obtain rfl : args = #[v0] := by cases args; simp_all
  obtain ⟨rfl, rfl⟩ := trodVars_none hV
  have k0 := h0
  have lt0 : ∀ x ∈ p0, x.block < W.heap.size := by obtain ⟨m, hm⟩ := k0; exact DataW.trod_lt m _ _ _ hm
  have o0 := openUnit (hval 0 32 v0 rfl rfl) h0
  clear hA0 hval0
  refine (walk v0 W o0).mono fun e W' ⟨he, bel⟩ => ?_
  subst he
  exact ⟨_, rfl, _, _, _, [], _, [], hW', trodAll_mk1 (shut_bool Try.underlying4 _), (trodAll_cons_mk (Below.trod laidOut (by kernel_rfl) (of_decide_eq_true (by kernel_rfl)) k0 bel lt0) trodAll_mk0), rfl, bel.frame _, fun h => by cases h⟩

theorem over : Rows.slotNeedsRow.holds Try.pinned (OpenSpec.ofChange Rows.slotNeedsSpec) :=
  OpenClaim.holds_of_wide 4 Try.f4 rfl rfl rfl rfl rfl rfl rfl ⟨rfl, rfl, rfl, rfl, rfl⟩ rfl rfl rfl rfl rfl (by kernel_rfl) Try.func4 (by kernel_rfl)
    (of_decide_eq_true (by kernel_rfl)) (by unfold Func.isWrapper; first | (rw [if_pos (by decide +kernel)]; kernel_rfl) | (rw [if_neg (by decide +kernel)]; exact ⟨rfl, rfl⟩))
    (fun os started H enc _ => lifted os started H enc)

/-- The statement. -/
theorem proved : Rows.SlotNeedsSaid := over
#print axioms proved
end Go.Proofs.Ytdmomdaeiaeolaa.slotNeeds
