/-
  Contracts of the reference's Needs and Need. Condition of Need: at most 2^20 imports.
-/
import Derived.Test.YtdmomdaeiaeolaaSmall2
namespace Go.Proofs.Ytdmomdaeiaeolaa
open Go.RowKit

def usesI (r : RefD) (n : Int) : Bool := callB r && r.tn == n
def needI (rs : List RefD) (n : Int) : Bool := rs.any fun r => usesI r n
theorem needI_nat (rs : List RefD) (n : Nat) : needI rs n = needB rs n := rfl
theorem needI_snoc (rs : List RefD) (r : RefD) (n : Int) : needI (rs ++ [r]) n = (needI rs n || usesI r n) := by simp [needI]
theorem needI_mem (rs : List RefD) (r : RefD) (n : Int) (h : r ∈ rs) (hu : usesI r n = true) : needI rs n = true := List.any_eq_true.2 ⟨r, h, hu⟩
theorem refs_mem (u : UnitD) (x : NodeD) (r : RefD) (hx : x ∈ u.nodes) (hr : r ∈ x.refs) : r ∈ u.refs := List.mem_flatMap.2 ⟨x, hx, hr⟩

theorem cells_of_row7 {w : World} {B : Nat} {A : Option Addr} {xs : List RefD} (h : Reads w B 7 A xs.length (xs.flatMap RefD.parts)) {i : Nat} (hi : i < xs.length) :
    ∃ b off, A = some ⟨b, off, none⟩ ∧ w.cell? ⟨b, off + i * 7, none⟩ = some (.int .i64 (xs[i]'hi).a0) ∧ w.cell? ⟨b, off + i * 7 + 1, none⟩ = some (.int .i64 (xs[i]'hi).kind) ∧ w.cell? ⟨b, off + i * 7 + 2, none⟩ = some (.int .i64 (xs[i]'hi).tk) ∧
      w.cell? ⟨b, off + i * 7 + 3, none⟩ = some (.int .i64 (xs[i]'hi).tn) ∧ w.cell? ⟨b, off + i * 7 + 4, none⟩ = some (.int .i64 (xs[i]'hi).a4) ∧ w.cell? ⟨b, off + i * 7 + 5, none⟩ = some (.int .i64 (xs[i]'hi).a5) ∧ w.cell? ⟨b, off + i * 7 + 6, none⟩ = some (.int .i64 (xs[i]'hi).a6) := by
  obtain ⟨b, off, hA, _, hc⟩ := h.lit (by omega) (by decide)
  have hcc : ∀ (j : Nat) (x : Value), j < 7 → (xs[i]'hi).parts[j]? = some x → w.cell? ⟨b, off + i * 7 + j, none⟩ = some x := fun j x hj hx => by
    rw [Nat.add_assoc]
    exact hc (i * 7 + j) x ((flat_at _ 7 RefD.parts_length xs i j hi hj).trans hx)
  exact ⟨b, off, hA, hcc 0 _ (by decide) rfl, hcc 1 _ (by decide) rfl, hcc 2 _ (by decide) rfl, hcc 3 _ (by decide) rfl, hcc 4 _ (by decide) rfl, hcc 5 _ (by decide) rfl, hcc 6 _ (by decide) rfl⟩
/-- The refs of a node of a slice. -/
theorem cell_refs {w : World} {B : Nat} {A : Option Addr} {xs : List NodeD} (h : Reads w B 12 A xs.length (xs.flatMap NodeD.parts)) {i : Nat} (hi : i < xs.length) :
    ∃ b off, A = some ⟨b, off, none⟩ ∧ w.cell? ⟨b, off + i * 12 + 6, none⟩ = some (.slice (xs[i]'hi).A (xs[i]'hi).refs.length (xs[i]'hi).c) := by
  obtain ⟨b, off, hA, _, hc⟩ := h.lit (by omega) (by decide)
  refine ⟨b, off, hA, ?_⟩
  rw [Nat.add_assoc]
  exact hc (i * 12 + 6) _ ((flat_at _ 12 NodeD.parts_length xs i 6 hi (by decide)).trans rfl)

set_option maxHeartbeats 8000000 in
set_option maxRecDepth 100000 in
theorem refNeeds_any (u : UnitD) (n : Int) (B : Nat) (w : World) (h : u.Ok w B) (hB : B ≤ w.heap.size) :
    Calls Try.prog 19 #[.agg u.parts.toArray, .int .i64 n] w fun e w' => e = .returned (.bool (needI u.refs n)) ∧ Below w.heap.size w w' := by
  have HU := Lib.hid h
  have hnl := h.nlen
  clear h
  have HB0 := Lib.hid ((Below.refl w.heap.size w).alloc (Nat.le_refl _) (.cells u.parts.toArray 32))
  have HX0 := Lib.hid (Blk.new w 32 u.parts.toArray)
  have HMEM := Lib.hid (fun x r hx hr (hu : usesI r n = true) => needI_mem u.refs r n (refs_mem u x r hx hr) hu)
  have HRF : Hid (u.refs = u.nodes.flatMap NodeD.refs) := rfl
  generalize u.refs = RS at HMEM HRF
  simp only [UnitD.parts]
  go_enter Try.func19, Try.ntmps19
  go_wp2_with fail
  go_loopw [5] (fun vi wr => ∃ i : Nat, vi = .int .i64 i ∧ i ≤ u.nodes.length ∧ Hid (needI ((u.nodes.take i).flatMap NodeD.refs) n = false) ∧ Hid (Blk wr w.heap.size 32 u.parts.toArray) ∧ Hid (Below w.heap.size w wr)) (fun vi _ => u.nodes.length - (intOf vi).toNat)
  case atStart => exact ⟨0, rfl, Nat.zero_le _, Lib.hid rfl, HX0, HB0⟩
  case round =>
    obtain ⟨i, rfl, hin, HF, HX, HB⟩ := hrel
    have c2 : wr.cell? ⟨w.heap.size, 2, none⟩ = some (.slice u.nA u.nodes.length u.nc) := HX.out.cell 2
    by_cases hil : i < u.nodes.length
    · have HNM := Lib.hid (List.getElem_mem hil)
      have HNI := Lib.hid (HU.out.nodes _ (List.getElem_mem hil))
      have HT := Lib.hid (take_refs u.nodes i hil)
      have HCR : Hid (∀ wr, Below w.heap.size w wr → ∃ b off, u.nA = some ⟨b, off, none⟩ ∧ wr.cell? ⟨b, off + i * 12 + 6, none⟩ = some (.slice (u.nodes[i]'hil).A (u.nodes[i]'hil).refs.length (u.nodes[i]'hil).c)) := fun wr hb => cell_refs (HU.out.ncells.below (hb.mono hB)) hil
      generalize u.nodes[i]'hil = x at HNM HNI HT HCR
      generalize (u.nodes.take i).flatMap NodeD.refs = RI at HF HT
      have hrl := HNI.out.len
      obtain ⟨wo, rfl⟩ : ∃ wo : World, wo = wr := ⟨_, rfl⟩
      go_wp2_with fail
      clear c2
      go_loopw [6] (fun vk wr => ∃ k : Nat, vk = .int .i64 k ∧ k ≤ x.refs.length ∧ Hid (needI (RI ++ x.refs.take k) n = false) ∧ Hid (Blk wr w.heap.size 32 u.parts.toArray) ∧ Hid (Below w.heap.size w wr)) (fun vk _ => x.refs.length - (intOf vk).toNat)
      case atStart => exact ⟨0, rfl, Nat.zero_le _, Lib.hid (by rw [List.take_zero, List.append_nil]; exact HF.out), HX, HB⟩
      case round =>
        obtain ⟨k, rfl, hkn, HF2, HX2, HB2⟩ := hrel
        have c2 : wr.cell? ⟨w.heap.size, 2, none⟩ = some (.slice u.nA u.nodes.length u.nc) := HX2.out.cell 2
        obtain ⟨b, off, hA, c6⟩ := HCR.out wr HB2.out
        rw [hA] at c2
        clear hA
        by_cases hkl : k < x.refs.length
        · obtain ⟨b', off', hA', d0, d1, d2, d3, d4, d5, d6⟩ := cells_of_row7 (HNI.out.cells.below (HB2.out.mono hB)) hkl
          rw [hA'] at c6
          clear hA'
          have HT2 := Lib.hid (List.take_succ_eq_append_getElem hkl)
          have HRM := Lib.hid (HMEM.out x (x.refs[k]'hkl) HNM.out (List.getElem_mem hkl))
          generalize x.refs[k]'hkl = r at d0 d1 d2 d3 d4 d5 d6 HT2 HRM
          have HT3 := Lib.hid (show needI (RI ++ x.refs.take (k + 1)) n = (needI (RI ++ x.refs.take k) n || usesI r n) by rw [HT2.out, ← List.append_assoc, needI_snoc])
          obtain ⟨a0, kind, tk, tn, a4, a5, a6⟩ := r
          simp only at d0 d1 d2 d3 d4 d5 d6
          have hN : w.heap.size < wr.heap.size := HX2.out.lt
          have HBA := Lib.hid (HB2.out.alloc HB2.out.size (.cells #[.int .i64 a0, .int .i64 kind, .int .i64 tk, .int .i64 tn, .int .i64 a4, .int .i64 a5, .int .i64 a6] 53))
          cases hu : usesI ⟨a0, kind, tk, tn, a4, a5, a6⟩ n with
          | true =>
            have HR := Lib.hid (HRM.out hu)
            have hc : tk = 1 ∧ (kind = 7 ∨ kind = 6) ∧ tn = n := by simpa [usesI, callB, and_assoc] using hu
            clear hu
            obtain ⟨rfl, hk, rfl⟩ := hc
            rcases hk with rfl | rfl
            · go_wp2
              go_ret
              exact ⟨by rw [HR.out]; rfl, HBA.out⟩
            · go_wp2
              go_ret
              exact ⟨by rw [HR.out]; rfl, HBA.out⟩
          | false =>
            have HF3 := Lib.hid (HT3.out.trans (show _ = false by rw [HF2.out, hu]; rfl))
            have REL : Hid (∃ k' : Nat, Value.int .i64 ((k : Int) + 1) = .int .i64 k' ∧ k' ≤ x.refs.length ∧ Hid (needI (RI ++ x.refs.take k') n = false) ∧ Hid (Blk (wr.alloc (.cells #[.int .i64 a0, .int .i64 kind, .int .i64 tk, .int .i64 tn, .int .i64 a4, .int .i64 a5, .int .i64 a6] 53)) w.heap.size 32 u.parts.toArray) ∧ Hid (Below w.heap.size w (wr.alloc (.cells #[.int .i64 a0, .int .i64 kind, .int .i64 tk, .int .i64 tn, .int .i64 a4, .int .i64 a5, .int .i64 a6] 53)))) := ⟨k + 1, by go_num, by omega, HF3, HX2.out.alloc _, HBA⟩
            by_cases h7 : kind = 7
            · subst h7
              by_cases h1 : tk = 1
              · subst h1
                have hne : (tn == n) = false := by simpa [usesI, callB] using hu
                clear hu
                go_wp2
                go_roundw
                case rel => exact REL.out
                case measure => simp [intOf]; omega
              · have h1' : (tk == 1) = false := by simpa using h1
                clear hu h1
                go_wp2
                go_roundw
                case rel => exact REL.out
                case measure => simp [intOf]; omega
            · by_cases h6 : kind = 6
              · subst h6
                by_cases h1 : tk = 1
                · subst h1
                  have hne : (tn == n) = false := by simpa [usesI, callB] using hu
                  clear hu h7
                  go_wp2
                  go_roundw
                  case rel => exact REL.out
                  case measure => simp [intOf]; omega
                · have h1' : (tk == 1) = false := by simpa using h1
                  clear hu h1 h7
                  go_wp2
                  go_roundw
                  case rel => exact REL.out
                  case measure => simp [intOf]; omega
              · have h7' : (kind == 7) = false := by simpa using h7
                have h6' : (kind == 6) = false := by simpa using h6
                clear hu h7 h6
                go_wp2
                go_roundw
                case rel => exact REL.out
                case measure => simp [intOf]; omega
        · obtain rfl : k = x.refs.length := by omega
          rw [List.take_length, ← HT.out] at HF2
          go_wp2
          go_roundw
          case rel => exact ⟨i + 1, by go_num, by omega, HF2, HX2, HB2⟩
          case measure => simp [intOf]; omega
    · obtain rfl : i = u.nodes.length := by omega
      rw [List.take_length, ← HRF.out] at HF
      go_wp2
      go_ret
      exact ⟨by rw [HF.out]; rfl, HB.out⟩

theorem ownsRow_below {w w' : World} {B : Nat} {e : TypeId} {v : Value} {n : Nat} {xs : List Value} (h : w.ownsRow B e 1 v n xs) (hb : Below w.heap.size w w') : w'.ownsRow B e 1 v n xs :=
  h.kept (grown_of hb (some w.heap.size)) (.inr (fun e => by have := (h.lt _ e).2; omega))

set_option maxHeartbeats 8000000 in
set_option maxRecDepth 100000 in
theorem refNeed_any (u : UnitD) (B : Nat) (w : World) (h : u.Ok w B) (hB : B ≤ w.heap.size) (hm : u.imps.length ≤ 1048576) :
    Calls Try.prog 12 #[.agg u.parts.toArray] w fun e w' => ∃ v, e = .returned v ∧ w'.ownsRow w.heap.size 3 1 v u.need.length (intCells u.need) ∧ Below w.heap.size w w' := by
  obtain ⟨k0, hk, hy0, hy1, hy2⟩ := info_parts intInfo
  have HU := Lib.hid h
  clear h
  have HB0 := Lib.hid ((Below.refl w.heap.size w).alloc (Nat.le_refl _) (.cells u.parts.toArray 32))
  have HX0 := Lib.hid (Blk.new w 32 u.parts.toArray)
  have HN := Lib.hid (fun (w' : World) (n : Nat) (hb : Below w.heap.size w w') => refNeeds_any u n B w' (HU.out.below (hb.mono hB)) (Nat.le_trans hB hb.size))
  have HND : Hid (u.need = needL u.imps.length u.refs) := rfl
  generalize u.need = L at HND
  generalize u.refs = RS at HND HN
  simp only [UnitD.parts] at HN ⊢
  go_enter Try.func12, Try.ntmps12
  go_wp2_with fail
  go_loopw [3, 4] (fun vo vn wr => ∃ j : Nat, vn = .int .i64 j ∧ j ≤ u.imps.length ∧ wr.ownsRow (w.heap.size + 1) 3 1 vo (needL j RS).length (intCells (needL j RS)) ∧ Hid (Blk wr w.heap.size 32 u.parts.toArray) ∧ Hid (Below w.heap.size w wr)) (fun _ vn _ => u.imps.length - (intOf vn).toNat)
  case atStart => exact ⟨0, rfl, Nat.zero_le _, World.ownsRow_nil _ _ _ _, HX0, HB0⟩
  case round =>
    obtain ⟨j, rfl, hjm, hown, HX, HB⟩ := hrel
    have hln := needL_length RS j
    have HS := Lib.hid (needL_step RS j)
    have HOW := Lib.hid hown
    clear hown
    have c0 : wr.cell? ⟨w.heap.size, 0, none⟩ = some (.string u.u0) := HX.out.cell 0
    have c1 : wr.cell? ⟨w.heap.size, 1, none⟩ = some (.bool u.u1) := HX.out.cell 1
    have c2 : wr.cell? ⟨w.heap.size, 2, none⟩ = some (.slice u.nA u.nodes.length u.nc) := HX.out.cell 2
    have c3 : wr.cell? ⟨w.heap.size, 3, none⟩ = some (.slice u.iA u.imps.length u.ic) := HX.out.cell 3
    have c4 : wr.cell? ⟨w.heap.size, 4, none⟩ = some (.slice u.u4.A u.u4.n u.u4.c) := HX.out.cell 4
    have c5 : wr.cell? ⟨w.heap.size, 5, none⟩ = some (.slice u.u5.A u.u5.n u.u5.c) := HX.out.cell 5
    have c6 : wr.cell? ⟨w.heap.size, 6, none⟩ = some (.slice u.u6.A u.u6.n u.u6.c) := HX.out.cell 6
    have c7 : wr.cell? ⟨w.heap.size, 7, none⟩ = some (.slice u.u7.A u.u7.n u.u7.c) := HX.out.cell 7
    have c8 : wr.cell? ⟨w.heap.size, 8, none⟩ = some (.int .i64 u.u8) := HX.out.cell 8
    have c9 : wr.cell? ⟨w.heap.size, 9, none⟩ = some (.int .i64 u.u9) := HX.out.cell 9
    have c10 : wr.cell? ⟨w.heap.size, 10, none⟩ = some (.int .i64 u.u10) := HX.out.cell 10
    have c11 : wr.cell? ⟨w.heap.size, 11, none⟩ = some (.int .i64 u.u11) := HX.out.cell 11
    have c12 : wr.cell? ⟨w.heap.size, 12, none⟩ = some (.slice u.u12.A u.u12.n u.u12.c) := HX.out.cell 12
    have c13 : wr.cell? ⟨w.heap.size, 13, none⟩ = some (.slice u.u13.A u.u13.n u.u13.c) := HX.out.cell 13
    by_cases hj : j < u.imps.length
    · have HN1 := Lib.hid (HN.out wr j HB.out)
      have hsz := HX.out.lt
      rw [needI_nat] at HN1
      cases hb : needB RS j with
      | false =>
        rw [hb] at HN1 HS
        have HS2 := Lib.hid (show needL (j + 1) RS = needL j RS by rw [HS.out]; simp)
        clear hb
        go_wp2_with fail
        refine (HN1.out).mono ?_
        rintro e w2 ⟨rfl, hb2⟩
        have HO2 := Lib.hid (ownsRow_below HOW.out hb2)
        have HX2 := Lib.hid (HX.out.below hb2 HX.out.lt)
        have HB2 := Lib.hid (HB.out.trans (hb2.mono HB.out.size))
        clear hb2
        go_wp2
        go_roundw
        case rel => exact ⟨j + 1, by go_num, by omega, by rw [HS2.out]; exact HO2.out, HX2, HB2⟩
        case measure => simp [intOf]; omega
      | true =>
        rw [hb] at HN1 HS
        have HS2 := Lib.hid (show needL (j + 1) RS = needL j RS ++ [(j : Int)] from HS.out)
        clear hb
        go_wp2_with fail
        refine (HN1.out).mono ?_
        rintro e w2 ⟨rfl, hb2⟩
        have hown := ownsRow_below HOW.out hb2
        have HX2 := Lib.hid (HX.out.below hb2 HX.out.lt)
        have HB2 := Lib.hid (HB.out.trans (hb2.mono HB.out.size))
        have hs2 := HB2.out.size
        have hx2 := HX2.out.lt
        clear hb2 HOW
        generalize needL j RS = acc at hown hln HS2
        go_wp2_with (at_builtin; refine wpList_append_own _ rfl _ _ 33 rfl (w.heap.size + 1) 3 k0 (.int .i64 0) 1 8 Try.underlying33 hk hy0 hy1 hy2 rfl (by decide) _ _ _ rfl (hown.alloc _) ⟨w2.heap.size, 0, none⟩ 1 1 [Value.int .i64 (j : Int)] rfl rfl ?c1 ?c2 ?c3 ?c4 ?c5 ?_)
        case c1 =>
          intro j' u hj'
          match j', hj' with
          | 0, hj' => simp at hj'; subst hj'; simp [Addr.add]
        case c2 => intro u hu; simp at hu; subst hu; rfl
        case c3 => unfold maxLen; omega
        case c4 => omega
        case c5 => simp; omega
        intro v' w3 hown' hgrow _
        have HX3 := Lib.hid ((HX2.out.alloc (.cells #[Value.int .i64 (j : Int)] 3)).grown hgrow (fun e => by have := (hown.lt _ e.symm).1; omega))
        have HB3 := Lib.hid ((HB2.out.alloc hs2 (.cells #[Value.int .i64 (j : Int)] 3)).grown hgrow (by simp; omega) (fun kk hkk => by have := (hown.lt kk hkk).1; omega))
        have HOW3 := Lib.hid hown'
        clear hown' hown hgrow
        go_wp2
        go_roundw
        case rel => exact ⟨j + 1, by go_num, by omega, by rw [HS2.out, intCells, List.map_append, List.length_append]; exact HOW3.out, HX3, HB3⟩
        case measure => simp [intOf]; omega
    · obtain rfl : j = u.imps.length := by omega
      rw [← HND.out] at HOW
      go_wp2
      go_ret
      exact ⟨_, rfl, HOW.out.mono (Nat.le_succ _), HB.out⟩

end Go.Proofs.Ytdmomdaeiaeolaa
