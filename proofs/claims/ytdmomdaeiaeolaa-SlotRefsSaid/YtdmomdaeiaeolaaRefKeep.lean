/-
  Contract of the reference's Keep: the list that KeepPlain says. Condition: at most 2^20 imports.
-/
import Derived.Test.YtdmomdaeiaeolaaRefNeed
namespace Go.Proofs.Ytdmomdaeiaeolaa
open Go.RowKit

theorem firstS_nonneg {ps : List (Key × Int)} {k : Key} {s : Int} (h : firstS ps k = some s) : 0 ≤ s := by
  unfold firstS at h
  obtain ⟨p, hp, rfl⟩ := Option.map_eq_some_iff.1 h
  have := List.find?_some hp
  simp at this
  exact this.2
theorem firstS_take {ps : List (Key × Int)} {k : Key} {s : Int} (i : Nat) (h : firstS (ps.take i) k = some s) : firstS ps k = some s := by
  have e : ps = ps.take i ++ ps.drop i := (List.take_append_drop i ps).symm
  unfold firstS at h ⊢
  rw [e, List.find?_append]
  obtain ⟨p, hp, rfl⟩ := Option.map_eq_some_iff.1 h
  rw [hp]
  rfl

theorem need_mem (u : UnitD) (n : Nat) (h : n < u.imps.length) : (n : Int) ∈ u.need ↔ needB u.refs n = true := by
  show (n : Int) ∈ needL _ _ ↔ _
  unfold needL
  rw [List.mem_map]
  constructor
  · rintro ⟨k, hk, he⟩
    have : k = n := by have : (k : Int) = (n : Int) := he; omega
    subst this
    exact (List.mem_filter.1 hk).2
  · intro hb
    exact ⟨n, List.mem_filter.2 ⟨List.mem_range.2 h, hb⟩, rfl⟩

/-- The reference's list, as far as n. -/
def refL (old : UnitD) (l : LayD) (u : UnitD) (n : Nat) : List Int := (List.range n).map fun (k : Nat) => if needB u.refs k then slotAt old l u k else -1
theorem refL_length (old : UnitD) (l : LayD) (u : UnitD) (n : Nat) : (refL old l u n).length = n := by simp [refL]
theorem refL_step (old : UnitD) (l : LayD) (u : UnitD) (n : Nat) : refL old l u (n + 1) = refL old l u n ++ [if needB u.refs n then slotAt old l u n else -1] := by
  unfold refL
  rw [List.range_succ, List.map_append]
  rfl
theorem refL_all (old : UnitD) (l : LayD) (u : UnitD) : refL old l u u.imps.length = keepL old l u := by
  unfold refL keepL
  apply List.map_congr_left
  intro n hn
  have := need_mem u n (List.mem_range.1 hn)
  by_cases hb : needB u.refs n = true
  · rw [if_pos hb, if_pos (this.2 hb)]
  · rw [if_neg hb, if_neg (fun c => hb (this.1 c))]

/-- The inner loop's state: the slot found so far. -/
structure Found (ps : List (Key × Int)) (key : Key) (k : Nat) (s : Int) : Prop where
  none_ : s < 0 → s = -1 ∧ firstS (ps.take k) key = none
  some_ : 0 ≤ s → firstS ps key = some s
theorem Found.start (ps : List (Key × Int)) (key : Key) : Found ps key 0 (-1) := ⟨fun _ => ⟨rfl, rfl⟩, fun h => by omega⟩
theorem Found.end_ {ps : List (Key × Int)} {key : Key} {k : Nat} {s : Int} (h : Found ps key k s) (hk : ps.length ≤ k ∨ 0 ≤ s) : (firstS ps key).getD (-1) = s := by
  by_cases hs : 0 ≤ s
  · rw [h.some_ hs]
    rfl
  · obtain ⟨rfl, h2⟩ := h.none_ (by omega)
    rw [List.take_of_length_le (by omega)] at h2
    rw [h2]
    rfl
theorem Found.hit {ps : List (Key × Int)} {key : Key} {k : Nat} {s t : Int} (h : Found ps key k s) (hs : s < 0) (hz : ps.take (k + 1) = ps.take k ++ [(key, t)]) (ht : 0 ≤ t) : Found ps key (k + 1) t := by
  refine ⟨fun c => by omega, fun _ => firstS_take (k + 1) ?_⟩
  rw [hz, firstS_snoc, (h.none_ hs).2, if_pos ⟨rfl, ht⟩]
  rfl
theorem Found.miss {ps : List (Key × Int)} {key key' : Key} {k : Nat} {s t : Int} (h : Found ps key k s) (hs : s < 0) (hz : ps.take (k + 1) = ps.take k ++ [(key', t)]) (hn : ¬ (key' = key ∧ 0 ≤ t)) : Found ps key (k + 1) s := by
  refine ⟨fun _ => ⟨(h.none_ hs).1, ?_⟩, fun c => by omega⟩
  rw [hz, firstS_snoc, (h.none_ hs).2, if_neg hn]
  rfl

theorem one_at_add {w : World} {v : Value} : ∀ (j : Nat) (u : Value), [v][j]? = some u → (w.alloc (.cells #[v] 3)).cell? ((⟨w.heap.size, 0, none⟩ : Addr).add j) = some u := by
  intro j' u hj'
  match j', hj' with
  | 0, hj' => simp at hj'; subst hj'; simp [Addr.add]

set_option maxHeartbeats 8000000 in
set_option maxRecDepth 100000 in
theorem refKeep_any (old : UnitD) (l : LayD) (u : UnitD) (B : Nat) (w : World) (ho : old.Ok w B) (hl : l.Ok w B) (hu : u.Ok w B) (hB : B ≤ w.heap.size) (hm : u.imps.length ≤ 1048576) :
    Calls Try.prog 14 #[.agg old.parts.toArray, .agg l.parts.toArray, .agg u.parts.toArray] w fun e w' => ∃ v, e = .returned v ∧ w'.ownsRow w.heap.size 3 1 v (keepL old l u).length (intCells (keepL old l u)) ∧ Below w.heap.size w w' := by
  obtain ⟨k0, hk, hy0, hy1, hy2⟩ := info_parts intInfo
  have HO := Lib.hid ho
  have HL := Lib.hid hl
  have HU := Lib.hid hu
  have hil := ho.ilen
  have hsl := hl.len
  clear ho hl hu
  have HB3 := Lib.hid ((((Below.refl w.heap.size w).alloc (Nat.le_refl _) (.cells old.parts.toArray 32)).alloc (by simp) (.cells l.parts.toArray 36)).alloc (by simp; omega) (.cells u.parts.toArray 32))
  have HX0 := Lib.hid (((Blk.new w 32 old.parts.toArray).alloc (.cells l.parts.toArray 36)).alloc (.cells u.parts.toArray 32))
  have HX1 : Hid (Blk (((w.alloc (.cells old.parts.toArray 32)).alloc (.cells l.parts.toArray 36)).alloc (.cells u.parts.toArray 32)) (w.heap.size + 1) 36 l.parts.toArray) := Lib.hid ((Blk.newAt (by simp)).alloc _)
  have HX2 : Hid (Blk (((w.alloc (.cells old.parts.toArray 32)).alloc (.cells l.parts.toArray 36)).alloc (.cells u.parts.toArray 32)) (w.heap.size + 1 + 1) 32 u.parts.toArray) := Lib.hid (Blk.newAt (by simp))
  have HKL := Lib.hid (refL_all old l u)
  have HN := Lib.hid (fun (w' : World) (n : Nat) (hb : Below w.heap.size w w') => refNeeds_any u n B w' (HU.out.below (hb.mono hB)) (Nat.le_trans hB hb.size))
  have HST := Lib.hid (refL_step old l u)
  have HLN := Lib.hid (refL_length old l u)
  have HSL : Hid (∀ (n : Nat) (h : n < u.imps.length), slotAt old l u n = (firstS (pairs old l) (u.imps[n]'h).key).getD (-1)) := fun n h => by
    unfold slotAt
    rw [List.getElem?_eq_getElem h]
  generalize keepL old l u = KL at HKL
  generalize refL old l u = RL at HKL HST HLN
  generalize slotAt old l u = SL at HST HSL
  generalize u.refs = RS at HN HST
  have hps : (pairs old l).length = min old.imps.length l.slots.length := by unfold pairs; rw [List.length_zip, List.length_map]
  have HPS := Lib.hid hps
  clear hps
  simp only [UnitD.parts, LayD.parts] at HN ⊢
  go_enter Try.func14, Try.ntmps14
  go_wp2_with fail
  go_loopw [7, 8] (fun vo vn wr => ∃ n : Nat, vn = .int .i64 n ∧ n ≤ u.imps.length ∧ Hid (wr.ownsRow (w.heap.size + 1 + 1 + 1) 3 1 vo (RL n).length (intCells (RL n))) ∧ Hid (Blk wr w.heap.size 32 old.parts.toArray) ∧ Hid (Blk wr (w.heap.size + 1) 36 l.parts.toArray) ∧
    Hid (Blk wr (w.heap.size + 1 + 1) 32 u.parts.toArray) ∧ Hid (Below w.heap.size w wr)) (fun _ vn _ => u.imps.length - (intOf vn).toNat)
  case atStart =>
    refine ⟨0, rfl, Nat.zero_le _, ?_, HX0, HX1, HX2, HB3⟩
    have e : RL 0 = [] := List.eq_nil_of_length_eq_zero (HLN.out 0)
    rw [e]
    exact World.ownsRow_nil _ _ _ _
  case round =>
    obtain ⟨n, rfl, hnm, HOW, HX, HX1, HX2, HB⟩ := hrel
    have u3 : wr.cell? ⟨w.heap.size + 1 + 1, 3, none⟩ = some (.slice u.iA u.imps.length u.ic) := HX2.out.cell 3
    by_cases hn : n < u.imps.length
    · have HSN := Lib.hid (HSL.out n hn)
      have HSTN := Lib.hid (HST.out n)
      have HCI : Hid (∀ wr, Below w.heap.size w wr → ∃ b off, u.iA = some ⟨b, off, none⟩ ∧ wr.cell? ⟨b, off + n * 5, none⟩ = some (.string ⟨(u.imps[n]'hn).name.toArray⟩) ∧ wr.cell? ⟨b, off + n * 5 + 1, none⟩ = some (.string ⟨(u.imps[n]'hn).ver.toArray⟩)) := fun wr hb => by
        obtain ⟨b, off, h1, h2, h3, -⟩ := cells_of_row5 (HU.out.icells.below (hb.mono hB)) hn
        exact ⟨b, off, h1, h2, h3⟩
      generalize u.imps[n]'hn = x at HSN HCI
      have HNn := Lib.hid (fun wr hb => HN.out wr n hb)
      obtain ⟨wo, rfl⟩ : ∃ wo : World, wo = wr := ⟨_, rfl⟩
      go_wp2_with fail
      clear u3
      have HOW0 := HOW
      go_loopw [9, 10] (fun vs vk wr => ∃ (k : Nat) (s : Int), vk = .int .i64 k ∧ vs = .int .i64 s ∧ k ≤ old.imps.length ∧ k ≤ l.slots.length ∧ Hid (needB RS n = true → Found (pairs old l) x.key k s) ∧ Hid (needB RS n = false → s = -1) ∧
        Hid (wr.ownsRow (w.heap.size + 1 + 1 + 1) 3 1 u7 (RL n).length (intCells (RL n))) ∧ Hid (Blk wr w.heap.size 32 old.parts.toArray) ∧ Hid (Blk wr (w.heap.size + 1) 36 l.parts.toArray) ∧
        Hid (Blk wr (w.heap.size + 1 + 1) 32 u.parts.toArray) ∧ Hid (Below w.heap.size w wr)) (fun _ vk _ => old.imps.length - (intOf vk).toNat)
      case atStart => exact ⟨0, -1, rfl, rfl, Nat.zero_le _, Nat.zero_le _, fun _ => Found.start _ _, fun _ => rfl, HOW, HX, HX1, HX2, HB⟩
      case round =>
        clear HOW HX HX1 HX2 HB HOW0
        obtain ⟨k, s, rfl, rfl, hk1, hk2, HF, HNF, HOW, HX, HX1, HX2, HB⟩ := hrel
        have o3 : wr.cell? ⟨w.heap.size, 3, none⟩ = some (.slice old.iA old.imps.length old.ic) := HX.out.cell 3
        have l1 : wr.cell? ⟨w.heap.size + 1, 1, none⟩ = some (.slice l.sA l.slots.length l.sc) := HX1.out.cell 1
        have HEND : Hid (((pairs old l).length ≤ k ∨ 0 ≤ s ∨ needB RS n = false) → s = if needB RS n = true then SL n else -1) := fun h => by
          cases hb : needB RS n with
          | false => rw [HNF.out hb]; rfl
          | true =>
            rw [if_pos rfl, HSN.out]
            refine ((HF.out hb).end_ ?_).symm
            rcases h with h | h | h
            · exact .inl h
            · exact .inr h
            · rw [hb] at h; cases h
        by_cases hA : k < old.imps.length
        · by_cases hB' : k < l.slots.length
          · by_cases hC : s < 0
            · have hHN := HNn.out wr HB.out
              have HHN := Lib.hid hHN
              rw [needI_nat] at HHN
              clear hHN
              have uc0 : wr.cell? ⟨w.heap.size + 1 + 1, 0, none⟩ = some (.string u.u0) := HX2.out.cell 0
              have uc1 : wr.cell? ⟨w.heap.size + 1 + 1, 1, none⟩ = some (.bool u.u1) := HX2.out.cell 1
              have uc2 : wr.cell? ⟨w.heap.size + 1 + 1, 2, none⟩ = some (.slice u.nA u.nodes.length u.nc) := HX2.out.cell 2
              have uc3 : wr.cell? ⟨w.heap.size + 1 + 1, 3, none⟩ = some (.slice u.iA u.imps.length u.ic) := HX2.out.cell 3
              have uc4 : wr.cell? ⟨w.heap.size + 1 + 1, 4, none⟩ = some (.slice u.u4.A u.u4.n u.u4.c) := HX2.out.cell 4
              have uc5 : wr.cell? ⟨w.heap.size + 1 + 1, 5, none⟩ = some (.slice u.u5.A u.u5.n u.u5.c) := HX2.out.cell 5
              have uc6 : wr.cell? ⟨w.heap.size + 1 + 1, 6, none⟩ = some (.slice u.u6.A u.u6.n u.u6.c) := HX2.out.cell 6
              have uc7 : wr.cell? ⟨w.heap.size + 1 + 1, 7, none⟩ = some (.slice u.u7.A u.u7.n u.u7.c) := HX2.out.cell 7
              have uc8 : wr.cell? ⟨w.heap.size + 1 + 1, 8, none⟩ = some (.int .i64 u.u8) := HX2.out.cell 8
              have uc9 : wr.cell? ⟨w.heap.size + 1 + 1, 9, none⟩ = some (.int .i64 u.u9) := HX2.out.cell 9
              have uc10 : wr.cell? ⟨w.heap.size + 1 + 1, 10, none⟩ = some (.int .i64 u.u10) := HX2.out.cell 10
              have uc11 : wr.cell? ⟨w.heap.size + 1 + 1, 11, none⟩ = some (.int .i64 u.u11) := HX2.out.cell 11
              have uc12 : wr.cell? ⟨w.heap.size + 1 + 1, 12, none⟩ = some (.slice u.u12.A u.u12.n u.u12.c) := HX2.out.cell 12
              have uc13 : wr.cell? ⟨w.heap.size + 1 + 1, 13, none⟩ = some (.slice u.u13.A u.u13.n u.u13.c) := HX2.out.cell 13
              cases hb : needB RS n with
              | false =>
                have HSEQ := Lib.hid (HEND.out (.inr (.inr hb)))
                rw [hb] at HHN
                clear hb
                go_wp2_with fail
                refine (HHN.out).mono ?_
                rintro e w2 ⟨rfl, hb2⟩
                have HOWe := Lib.hid (ownsRow_below HOW.out hb2)
                have HXe := Lib.hid (HX.out.below hb2 HX.out.lt)
                have HX1e := Lib.hid (HX1.out.below hb2 HX1.out.lt)
                have HX2e := Lib.hid (HX2.out.below hb2 HX2.out.lt)
                have HBe := Lib.hid (HB.out.trans (hb2.mono HB.out.size))
                clear hb2
                have hown := HOWe.out
                have hs2 := HBe.out.size
                have hx2 := HX2e.out.lt
                have hrl := HLN.out n
                clear HOWe
                generalize hacc : RL n = acc at hown hrl HSTN
                clear hacc
                have QA := Lib.hid (one_at_add (w := w2) (v := .int .i64 s))
                have QB : Hid (∀ u ∈ [Value.int .i64 s], u.oneCell' = true) := fun u hu => by simp at hu; subst hu; rfl
                have QC : Hid (acc.length + 1 ≤ maxLen) := by show _ ≤ _; unfold maxLen; omega
                have QD : Hid ((acc.length + 1) * 8 ≤ 140737488355328) := by show _ ≤ _; omega
                have QE : Hid (w.heap.size + 1 + 1 + 1 ≤ (w2.alloc (.cells #[Value.int .i64 s] 3)).heap.size) := by show _ ≤ _; simp; omega
                go_wp2_with (at_builtin; refine wpList_append_own _ rfl _ _ 33 rfl (w.heap.size + 1 + 1 + 1) 3 k0 (.int .i64 0) 1 8 Try.underlying33 hk hy0 hy1 hy2 rfl (by decide) _ _ _ rfl (hown.alloc _) ⟨w2.heap.size, 0, none⟩ 1 1 [Value.int .i64 s] rfl rfl QA.out QB.out QC.out QD.out QE.out ?_)
                intro v' w3 hown' hgrow _
                have HX3 := Lib.hid ((HXe.out.alloc (.cells #[Value.int .i64 s] 3)).grown hgrow (fun e => by have := (hown.lt _ e.symm).1; omega))
                have HX13 := Lib.hid ((HX1e.out.alloc (.cells #[Value.int .i64 s] 3)).grown hgrow (fun e => by have := (hown.lt _ e.symm).1; omega))
                have HX23 := Lib.hid ((HX2e.out.alloc (.cells #[Value.int .i64 s] 3)).grown hgrow (fun e => by have := (hown.lt _ e.symm).1; omega))
                have HB3 := Lib.hid ((HBe.out.alloc hs2 (.cells #[Value.int .i64 s] 3)).grown hgrow (by simp; omega) (fun kk hkk => by have := (hown.lt kk hkk).1; omega))
                have HOW3 : Hid (w3.ownsRow (w.heap.size + 1 + 1 + 1) 3 1 v' (RL (n + 1)).length (intCells (RL (n + 1)))) := by
                  have e1 : (RL (n + 1)).length = n + 1 := HLN.out (n + 1)
                  rw [e1, HSTN.out, ← HSEQ.out, intCells, List.map_append]
                  exact hown'
                clear hown' hown hgrow
                go_wp2
                go_roundw
                case rel => exact ⟨n + 1, by go_num, by omega, HOW3, HX3, HX13, HX23, HB3⟩
                case measure => simp [intOf]; omega

              | true =>
                have HFk := Lib.hid (HF.out hb)
                rw [hb] at HHN
                have HB1 := Lib.hid hb
                clear hb
                go_wp2_with fail
                refine (HHN.out).mono ?_
                rintro e w2 ⟨rfl, hb2⟩
                have HOWe := Lib.hid (ownsRow_below HOW.out hb2)
                have HXe := Lib.hid (HX.out.below hb2 HX.out.lt)
                have HX1e := Lib.hid (HX1.out.below hb2 HX1.out.lt)
                have HX2e := Lib.hid (HX2.out.below hb2 HX2.out.lt)
                have HBe := Lib.hid (HB.out.trans (hb2.mono HB.out.size))
                clear hb2 uc0 uc1 uc2 uc3 uc4 uc5 uc6 uc7 uc8 uc9 uc10 uc11 uc12 uc13 o3 l1
                have o3 : w2.cell? ⟨w.heap.size, 3, none⟩ = some (.slice old.iA old.imps.length old.ic) := HXe.out.cell 3
                obtain ⟨ob, oo, hAo, d0, d1, d2, d3, d4⟩ := cells_of_row5 (HO.out.icells.below (HBe.out.mono hB)) hA
                rw [hAo] at o3
                clear hAo
                have HZ : Hid ((pairs old l).take (k + 1) = (pairs old l).take k ++ [((old.imps[k]'hA).key, l.slots[k]'hB')]) := by
                  have h := zip_take_step (old.imps.map ImpD.key) l.slots k (by simpa using hA) hB'
                  rw [List.getElem_map] at h
                  exact h
                have HSC : Hid (∀ wr, Below w.heap.size w wr → ∃ b off, l.sA = some ⟨b, off, none⟩ ∧ wr.cell? ⟨b, off + k, none⟩ = some (.int .i64 (l.slots[k]'hB'))) := fun wr hb => by
                  obtain ⟨sb, so, h1, _, hc⟩ := (HL.out.cells.below (hb.mono hB)).lit (by omega) (by decide)
                  exact ⟨sb, so, h1, hc k _ (by simp [intCells, hB'])⟩
                generalize old.imps[k]'hA = y at d0 d1 d2 d3 d4 HZ
                generalize l.slots[k]'hB' = t at HZ HSC
                have HBA := Lib.hid (HBe.out.alloc HBe.out.size (.cells #[.string ⟨y.name.toArray⟩, .string ⟨y.ver.toArray⟩, .int .i64 y.c2, .bool y.c3, .bool y.c4] 57))
                have HOWA := Lib.hid (HOWe.out.alloc (.cells #[.string ⟨y.name.toArray⟩, .string ⟨y.ver.toArray⟩, .int .i64 y.c2, .bool y.c3, .bool y.c4] 57))
                have HXA := Lib.hid (HXe.out.alloc (.cells #[.string ⟨y.name.toArray⟩, .string ⟨y.ver.toArray⟩, .int .i64 y.c2, .bool y.c3, .bool y.c4] 57))
                have HX1A := Lib.hid (HX1e.out.alloc (.cells #[.string ⟨y.name.toArray⟩, .string ⟨y.ver.toArray⟩, .int .i64 y.c2, .bool y.c3, .bool y.c4] 57))
                have HX2A := Lib.hid (HX2e.out.alloc (.cells #[.string ⟨y.name.toArray⟩, .string ⟨y.ver.toArray⟩, .int .i64 y.c2, .bool y.c3, .bool y.c4] 57))
                obtain ⟨ib, io, hAi, n0, n1⟩ := HCI.out _ HBA.out
                obtain ⟨sb, so, hAs, s0⟩ := HSC.out _ HBA.out
                have u3 : (w2.alloc (.cells #[.string ⟨y.name.toArray⟩, .string ⟨y.ver.toArray⟩, .int .i64 y.c2, .bool y.c3, .bool y.c4] 57)).cell? ⟨w.heap.size + 1 + 1, 3, none⟩ = some (.slice u.iA u.imps.length u.ic) := HX2A.out.cell 3
                have l1 : (w2.alloc (.cells #[.string ⟨y.name.toArray⟩, .string ⟨y.ver.toArray⟩, .int .i64 y.c2, .bool y.c3, .bool y.c4] 57)).cell? ⟨w.heap.size + 1, 1, none⟩ = some (.slice l.sA l.slots.length l.sc) := HX1A.out.cell 1
                rw [hAi] at u3
                rw [hAs] at l1
                clear hAi hAs
                have hki : (k : Int) < (l.slots.length : Int) := by omega
                have hki0 : (0 : Int) ≤ (k : Int) := by omega
                have hni : (n : Int) < (u.imps.length : Int) := by omega
                have hni0 : (0 : Int) ≤ (n : Int) := by omega
                have MISS : Hid (¬ (y.key = x.key ∧ 0 ≤ t) → Hid (needB RS n = true → Found (pairs old l) x.key (k + 1) s)) := fun h _ => HFk.out.miss hC HZ.out h
                by_cases h1 : y.name = x.name
                · have h1b : (y.name == x.name) = true := by simpa using h1
                  by_cases h2 : y.ver = x.ver
                  · have h2b : (y.ver == x.ver) = true := by simpa using h2
                    by_cases h3 : 0 ≤ t
                    · have hke : y.key = x.key := Prod.ext h1 h2
                      have HHIT : Hid (needB RS n = true → Found (pairs old l) x.key (k + 1) t) := fun _ => HFk.out.hit hC (by rw [← hke]; exact HZ.out) h3
                      clear hke
                      clear h1 h2
                      go_wp2_with fail
                      go_quiet (fail)
                      go_wp2
                      exact ⟨⟨k + 1, t, by go_num, rfl, by omega, by omega, (fun _ => HHIT.out HB1.out), (fun h => by cases h), HOWA, HXA, HX1A, HX2A, below_drewN HBA.out _⟩, by simp [intOf]; omega⟩
                    · have HM := MISS.out (fun c => h3 c.2)
                      have h3b : decide ((0 : Int) ≤ t) = false := decide_eq_false h3
                      clear h1 h2 h3
                      go_wp2_with fail
                      go_quiet (fail)
                      go_wp2
                      exact ⟨⟨k + 1, s, by go_num, rfl, by omega, by omega, (fun _ => HM.out HB1.out), (fun h => by cases h), HOWA, HXA, HX1A, HX2A, below_drewN HBA.out _⟩, by simp [intOf]; omega⟩
                  · have HM := MISS.out (fun c => h2 (congrArg Prod.snd c.1))
                    have h2b : (y.ver == x.ver) = false := by simpa using h2
                    clear h1 h2
                    go_wp2_with fail
                    go_quiet (fail)
                    go_wp2
                    exact ⟨⟨k + 1, s, by go_num, rfl, by omega, by omega, (fun _ => HM.out HB1.out), (fun h => by cases h), HOWA, HXA, HX1A, HX2A, below_drewN HBA.out _⟩, by simp [intOf]; omega⟩
                · have HM := MISS.out (fun c => h1 (congrArg Prod.fst c.1))
                  have h1b : (y.name == x.name) = false := by simpa using h1
                  clear h1
                  go_wp2_with fail
                  go_quiet (fail)
                  go_wp2
                  exact ⟨⟨k + 1, s, by go_num, rfl, by omega, by omega, (fun _ => HM.out HB1.out), (fun h => by cases h), HOWA, HXA, HX1A, HX2A, below_drewN HBA.out _⟩, by simp [intOf]; omega⟩
            · have HSEQ := Lib.hid (HEND.out (.inr (.inl (by omega))))
              have HOWe := HOW
              have HXe := HX
              have HX1e := HX1
              have HX2e := HX2
              have HBe := HB
              have hown := HOWe.out
              have hs2 := HBe.out.size
              have hx2 := HX2e.out.lt
              have hrl := HLN.out n
              clear HOWe
              generalize hacc : RL n = acc at hown hrl HSTN
              clear hacc
              have QA := Lib.hid (one_at_add (w := wr) (v := .int .i64 s))
              have QB : Hid (∀ u ∈ [Value.int .i64 s], u.oneCell' = true) := fun u hu => by simp at hu; subst hu; rfl
              have QC : Hid (acc.length + 1 ≤ maxLen) := by show _ ≤ _; unfold maxLen; omega
              have QD : Hid ((acc.length + 1) * 8 ≤ 140737488355328) := by show _ ≤ _; omega
              have QE : Hid (w.heap.size + 1 + 1 + 1 ≤ (wr.alloc (.cells #[Value.int .i64 s] 3)).heap.size) := by show _ ≤ _; simp; omega
              go_wp2_with (at_builtin; refine wpList_append_own _ rfl _ _ 33 rfl (w.heap.size + 1 + 1 + 1) 3 k0 (.int .i64 0) 1 8 Try.underlying33 hk hy0 hy1 hy2 rfl (by decide) _ _ _ rfl (hown.alloc _) ⟨wr.heap.size, 0, none⟩ 1 1 [Value.int .i64 s] rfl rfl QA.out QB.out QC.out QD.out QE.out ?_)
              intro v' w3 hown' hgrow _
              have HX3 := Lib.hid ((HXe.out.alloc (.cells #[Value.int .i64 s] 3)).grown hgrow (fun e => by have := (hown.lt _ e.symm).1; omega))
              have HX13 := Lib.hid ((HX1e.out.alloc (.cells #[Value.int .i64 s] 3)).grown hgrow (fun e => by have := (hown.lt _ e.symm).1; omega))
              have HX23 := Lib.hid ((HX2e.out.alloc (.cells #[Value.int .i64 s] 3)).grown hgrow (fun e => by have := (hown.lt _ e.symm).1; omega))
              have HB3 := Lib.hid ((HBe.out.alloc hs2 (.cells #[Value.int .i64 s] 3)).grown hgrow (by simp; omega) (fun kk hkk => by have := (hown.lt kk hkk).1; omega))
              have HOW3 : Hid (w3.ownsRow (w.heap.size + 1 + 1 + 1) 3 1 v' (RL (n + 1)).length (intCells (RL (n + 1)))) := by
                have e1 : (RL (n + 1)).length = n + 1 := HLN.out (n + 1)
                rw [e1, HSTN.out, ← HSEQ.out, intCells, List.map_append]
                exact hown'
              clear hown' hown hgrow
              go_wp2
              go_roundw
              case rel => exact ⟨n + 1, by go_num, by omega, HOW3, HX3, HX13, HX23, HB3⟩
              case measure => simp [intOf]; omega

          · have HSEQ := Lib.hid (HEND.out (.inl (by rw [HPS.out]; omega)))
            obtain rfl : k = l.slots.length := by omega
            have HOWe := HOW
            have HXe := HX
            have HX1e := HX1
            have HX2e := HX2
            have HBe := HB
            have hown := HOWe.out
            have hs2 := HBe.out.size
            have hx2 := HX2e.out.lt
            have hrl := HLN.out n
            clear HOWe
            generalize hacc : RL n = acc at hown hrl HSTN
            clear hacc
            have QA := Lib.hid (one_at_add (w := wr) (v := .int .i64 s))
            have QB : Hid (∀ u ∈ [Value.int .i64 s], u.oneCell' = true) := fun u hu => by simp at hu; subst hu; rfl
            have QC : Hid (acc.length + 1 ≤ maxLen) := by show _ ≤ _; unfold maxLen; omega
            have QD : Hid ((acc.length + 1) * 8 ≤ 140737488355328) := by show _ ≤ _; omega
            have QE : Hid (w.heap.size + 1 + 1 + 1 ≤ (wr.alloc (.cells #[Value.int .i64 s] 3)).heap.size) := by show _ ≤ _; simp; omega
            go_wp2_with (at_builtin; refine wpList_append_own _ rfl _ _ 33 rfl (w.heap.size + 1 + 1 + 1) 3 k0 (.int .i64 0) 1 8 Try.underlying33 hk hy0 hy1 hy2 rfl (by decide) _ _ _ rfl (hown.alloc _) ⟨wr.heap.size, 0, none⟩ 1 1 [Value.int .i64 s] rfl rfl QA.out QB.out QC.out QD.out QE.out ?_)
            intro v' w3 hown' hgrow _
            have HX3 := Lib.hid ((HXe.out.alloc (.cells #[Value.int .i64 s] 3)).grown hgrow (fun e => by have := (hown.lt _ e.symm).1; omega))
            have HX13 := Lib.hid ((HX1e.out.alloc (.cells #[Value.int .i64 s] 3)).grown hgrow (fun e => by have := (hown.lt _ e.symm).1; omega))
            have HX23 := Lib.hid ((HX2e.out.alloc (.cells #[Value.int .i64 s] 3)).grown hgrow (fun e => by have := (hown.lt _ e.symm).1; omega))
            have HB3 := Lib.hid ((HBe.out.alloc hs2 (.cells #[Value.int .i64 s] 3)).grown hgrow (by simp; omega) (fun kk hkk => by have := (hown.lt kk hkk).1; omega))
            have HOW3 : Hid (w3.ownsRow (w.heap.size + 1 + 1 + 1) 3 1 v' (RL (n + 1)).length (intCells (RL (n + 1)))) := by
              have e1 : (RL (n + 1)).length = n + 1 := HLN.out (n + 1)
              rw [e1, HSTN.out, ← HSEQ.out, intCells, List.map_append]
              exact hown'
            clear hown' hown hgrow
            go_wp2
            go_roundw
            case rel => exact ⟨n + 1, by go_num, by omega, HOW3, HX3, HX13, HX23, HB3⟩
            case measure => simp [intOf]; omega

        · have HSEQ := Lib.hid (HEND.out (.inl (by rw [HPS.out]; omega)))
          obtain rfl : k = old.imps.length := by omega
          have HOWe := HOW
          have HXe := HX
          have HX1e := HX1
          have HX2e := HX2
          have HBe := HB
          have hown := HOWe.out
          have hs2 := HBe.out.size
          have hx2 := HX2e.out.lt
          have hrl := HLN.out n
          clear HOWe
          generalize hacc : RL n = acc at hown hrl HSTN
          clear hacc
          have QA := Lib.hid (one_at_add (w := wr) (v := .int .i64 s))
          have QB : Hid (∀ u ∈ [Value.int .i64 s], u.oneCell' = true) := fun u hu => by simp at hu; subst hu; rfl
          have QC : Hid (acc.length + 1 ≤ maxLen) := by show _ ≤ _; unfold maxLen; omega
          have QD : Hid ((acc.length + 1) * 8 ≤ 140737488355328) := by show _ ≤ _; omega
          have QE : Hid (w.heap.size + 1 + 1 + 1 ≤ (wr.alloc (.cells #[Value.int .i64 s] 3)).heap.size) := by show _ ≤ _; simp; omega
          go_wp2_with (at_builtin; refine wpList_append_own _ rfl _ _ 33 rfl (w.heap.size + 1 + 1 + 1) 3 k0 (.int .i64 0) 1 8 Try.underlying33 hk hy0 hy1 hy2 rfl (by decide) _ _ _ rfl (hown.alloc _) ⟨wr.heap.size, 0, none⟩ 1 1 [Value.int .i64 s] rfl rfl QA.out QB.out QC.out QD.out QE.out ?_)
          intro v' w3 hown' hgrow _
          have HX3 := Lib.hid ((HXe.out.alloc (.cells #[Value.int .i64 s] 3)).grown hgrow (fun e => by have := (hown.lt _ e.symm).1; omega))
          have HX13 := Lib.hid ((HX1e.out.alloc (.cells #[Value.int .i64 s] 3)).grown hgrow (fun e => by have := (hown.lt _ e.symm).1; omega))
          have HX23 := Lib.hid ((HX2e.out.alloc (.cells #[Value.int .i64 s] 3)).grown hgrow (fun e => by have := (hown.lt _ e.symm).1; omega))
          have HB3 := Lib.hid ((HBe.out.alloc hs2 (.cells #[Value.int .i64 s] 3)).grown hgrow (by simp; omega) (fun kk hkk => by have := (hown.lt kk hkk).1; omega))
          have HOW3 : Hid (w3.ownsRow (w.heap.size + 1 + 1 + 1) 3 1 v' (RL (n + 1)).length (intCells (RL (n + 1)))) := by
            have e1 : (RL (n + 1)).length = n + 1 := HLN.out (n + 1)
            rw [e1, HSTN.out, ← HSEQ.out, intCells, List.map_append]
            exact hown'
          clear hown' hown hgrow
          go_wp2
          go_roundw
          case rel => exact ⟨n + 1, by go_num, by omega, HOW3, HX3, HX13, HX23, HB3⟩
          case measure => simp [intOf]; omega

    · obtain rfl : n = u.imps.length := by omega
      rw [HKL.out] at HOW
      go_wp2
      go_ret
      exact ⟨_, rfl, HOW.out.mono (by omega), HB.out⟩

end Go.Proofs.Ytdmomdaeiaeolaa
