/-
  Contract of slot.Keep: the list that KeepPlain says. Condition: at most 2^20 imports.
-/
import Derived.Test.YtdmomdaeiaeolaaKeepPlain
namespace Go.Proofs.Ytdmomdaeiaeolaa
open Go.RowKit Go.Maps Go.ChangeMaps

theorem cells_of_row5 {w : World} {B : Nat} {A : Option Addr} {xs : List ImpD} (h : Reads w B 5 A xs.length (xs.flatMap ImpD.parts)) {i : Nat} (hi : i < xs.length) :
    ∃ b off, A = some ⟨b, off, none⟩ ∧ w.cell? ⟨b, off + i * 5, none⟩ = some (.string ⟨(xs[i]'hi).name.toArray⟩) ∧ w.cell? ⟨b, off + i * 5 + 1, none⟩ = some (.string ⟨(xs[i]'hi).ver.toArray⟩) ∧
      w.cell? ⟨b, off + i * 5 + 2, none⟩ = some (.int .i64 (xs[i]'hi).c2) ∧ w.cell? ⟨b, off + i * 5 + 3, none⟩ = some (.bool (xs[i]'hi).c3) ∧ w.cell? ⟨b, off + i * 5 + 4, none⟩ = some (.bool (xs[i]'hi).c4) := by
  obtain ⟨b, off, hA, _, hc⟩ := h.lit (by omega) (by decide)
  have hcc : ∀ (j : Nat) (x : Value), j < 5 → (xs[i]'hi).parts[j]? = some x → w.cell? ⟨b, off + i * 5 + j, none⟩ = some x := fun j x hj hx => by
    rw [Nat.add_assoc]
    exact hc (i * 5 + j) x ((flat_at _ 5 ImpD.parts_length xs i j hi hj).trans hx)
  exact ⟨b, off, hA, hcc 0 _ (by decide) rfl, hcc 1 _ (by decide) rfl, hcc 2 _ (by decide) rfl, hcc 3 _ (by decide) rfl, hcc 4 _ (by decide) rfl⟩

theorem zip_take_step {α β : Type} (xs : List α) (ys : List β) (i : Nat) (h1 : i < xs.length) (h2 : i < ys.length) : (xs.zip ys).take (i + 1) = (xs.zip ys).take i ++ [(xs[i]'h1, ys[i]'h2)] := by
  have h3 : i < (xs.zip ys).length := by rw [List.length_zip]; omega
  rw [List.take_succ_eq_append_getElem h3, List.getElem_zip]

theorem own_reads {w : World} {B : Nat} {e : TypeId} {v : Value} {n : Nat} {xs : List Value} (h : w.ownsRow B e 1 v n xs) : ∃ A c, v = .slice A n c ∧ Reads w w.heap.size 1 A n xs := by
  rcases h.2 with ⟨hv, h0⟩ | ⟨gg, cap, cur, hv, _⟩
  · subst h0
    obtain rfl : xs = [] := List.eq_nil_of_length_eq_zero (by simpa using h.1)
    exact ⟨none, 0, hv, Reads.none_⟩
  · subst hv
    exact ⟨_, _, rfl, Reads.of_own h⟩
theorem ownsRow_other {w w' : World} {B : Nat} {e : TypeId} {v : Value} {n : Nat} {xs : List Value} {g : Nat} (h : w.ownsRow B e 1 v n xs) (hg : w.grownBy w' (some g)) (hlt : g < B) : w'.ownsRow B e 1 v n xs := by
  refine h.kept hg ?_
  cases hv : v.ownBlock with
  | none => exact .inl rfl
  | some x =>
    refine .inr (fun he => ?_)
    have := (h.lt x hv).1
    injection he with he
    omega
theorem only_setC (w : World) (p : Addr) (u : Value) : w.grownBy (w.setCell p u) (some p.block) := ⟨rfl, rfl, rfl, by simp [World.setCell], fun i _ hne => Below.heap_setCell w p u i (fun e => hne (by rw [e]))⟩
theorem grown_of {w w' : World} (h : Below w.heap.size w w') (row : Option Nat) : w.grownBy w' row := ⟨h.os, h.tape, h.output, h.size, fun i hi _ => h.block i hi⟩

/-- The list behind j of the needed imports. -/
def outL (f : Nat → Int) (m : Nat) (L : List Int) (j : Nat) : List Int := (List.range m).map fun (n : Nat) => if (n : Int) ∈ L.take j then f n else -1
theorem outL_length (f : Nat → Int) (m : Nat) (L : List Int) (j : Nat) : (outL f m L j).length = m := by simp [outL]
theorem outL_zero (f : Nat → Int) (m : Nat) (L : List Int) : outL f m L 0 = List.replicate m (-1) := by
  apply List.ext_getElem?
  intro k
  by_cases hk : k < m
  · simp [outL, hk]
  · rw [List.getElem?_eq_none (by rw [outL_length]; omega), List.getElem?_eq_none (by simp; omega)]
theorem outL_at (f : Nat → Int) (m : Nat) (L : List Int) (j k : Nat) (hk : k < m) : (outL f m L j)[k]? = some (if (k : Int) ∈ L.take j then f k else -1) := by simp [outL, hk]
theorem outL_step (f : Nat → Int) (m : Nat) (L : List Int) (j n : Nat) (hj : j < L.length) (he : L[j]'hj = (n : Int)) : (outL f m L j).set n (f n) = outL f m L (j + 1) := by
  apply List.ext_getElem?
  intro k
  rw [List.getElem?_set]
  by_cases hk : k < m
  · rw [outL_at _ _ _ _ _ hk, outL_at _ _ _ _ _ hk, List.take_succ_eq_append_getElem hj, he, outL_length]
    by_cases hnk : n = k
    · subst hnk
      rw [if_pos rfl, if_pos hk, if_pos (by simp)]
    · rw [if_neg hnk]
      have : ((k : Int) ∈ L.take j ++ [(n : Int)]) ↔ (k : Int) ∈ L.take j := by
        rw [List.mem_append, List.mem_singleton]
        exact ⟨fun h => h.elim id (fun h => by omega), .inl⟩
      simp only [this]
  · rw [List.getElem?_eq_none (l := outL f m L (j + 1)) (by rw [outL_length]; omega), List.getElem?_eq_none (l := outL f m L j) (by rw [outL_length]; omega), outL_length]
    split
    · rw [if_neg (by omega)]
    · rfl
theorem outL_same (f : Nat → Int) (m : Nat) (L : List Int) (j n : Nat) (hj : j < L.length) (he : L[j]'hj = (n : Int)) (hn : n < m) (hf : f n = -1) : outL f m L j = outL f m L (j + 1) := by
  rw [← outL_step f m L j n hj he, hf]
  apply List.ext_getElem?
  intro k
  rw [List.getElem?_set]
  by_cases hnk : n = k
  · subst hnk
    rw [if_pos rfl, if_pos (by rw [outL_length]; exact hn), outL_at _ _ _ _ _ hn, hf]
    split <;> rfl
  · rw [if_neg hnk]
theorem needL_mem (m : Nat) (rs : List RefD) (z : Int) (h : z ∈ needL m rs) : ∃ n : Nat, z = (n : Int) ∧ n < m := by
  unfold needL at h
  obtain ⟨n, hn, rfl⟩ := List.mem_map.1 h
  exact ⟨n, rfl, List.mem_range.1 (List.mem_filter.1 hn).1⟩

set_option maxHeartbeats 8000000 in
set_option maxRecDepth 100000 in
theorem Keep_any (old : UnitD) (l : LayD) (u : UnitD) (B : Nat) (w : World) (ho : old.Ok w B) (hl : l.Ok w B) (hu : u.Ok w B) (hB : B ≤ w.heap.size) (hm : u.imps.length ≤ 1048576) (hs20 : l.slots.length ≤ 1048576) :
    Calls Try.prog 13 #[.agg old.parts.toArray, .agg l.parts.toArray, .agg u.parts.toArray] w fun e w' => ∃ g, e = .returned (.slice (some ⟨g, 0, none⟩) u.imps.length u.imps.length) ∧ w.heap.size ≤ g ∧ Blk w' g 3 (intCells (keepL old l u)).toArray ∧ Below w.heap.size w w' := by
  have hmm := @run_makeMap Try.prog
  have HO := Lib.hid ho
  have HL := Lib.hid hl
  have HU := Lib.hid hu
  have hil := ho.ilen
  clear ho hl hu
  have HB3 := Lib.hid ((((Below.refl w.heap.size w).alloc (Nat.le_refl _) (.cells old.parts.toArray 32)).alloc (by simp) (.cells l.parts.toArray 36)).alloc (by simp; omega) (.cells u.parts.toArray 32))
  have HX0 := Lib.hid (((Blk.new w 32 old.parts.toArray).alloc (.cells l.parts.toArray 36)).alloc (.cells u.parts.toArray 32))
  have HX2 : Hid (Blk (((w.alloc (.cells old.parts.toArray 32)).alloc (.cells l.parts.toArray 36)).alloc (.cells u.parts.toArray 32)) (w.heap.size + 1 + 1) 32 u.parts.toArray) := by
    have h := Blk.new ((w.alloc (.cells old.parts.toArray 32)).alloc (.cells l.parts.toArray 36)) 32 u.parts.toArray
    exact Lib.hid (by simpa using h)
  have HM0 : Hid (((((w.alloc (.cells old.parts.toArray 32)).alloc (.cells l.parts.toArray 36)).alloc (.cells u.parts.toArray 32)).alloc (.map #[] 0)).ownsMap Try.prog 64 (plainElem (H := Nat) Try.prog 3) (w.heap.size + 1 + 1 + 1) 0 (.map [])) := by
    have h := World.ownsMap_made (H := Nat) (((w.alloc (.cells old.parts.toArray 32)).alloc (.cells l.parts.toArray 36)).alloc (.cells u.parts.toArray 32)) Try.prog 64 (plainElem Try.prog 3)
    exact Lib.hid (by simpa using h)
  have HKL : Hid (keepL old l u = outL (slotAt old l u) u.imps.length u.need u.need.length) := by
    show _ = _
    unfold keepL outL
    rw [List.take_length]
  generalize keepL old l u = KL at HKL
  simp only [UnitD.parts, LayD.parts] at ⊢
  go_enter Try.func13, Try.ntmps13
  go_wp2_with fail
  clear hmm
  go_loopw [24] (fun vi wr => ∃ (i : Nat) (D : DataW Nat), vi = .int .i64 i ∧ i ≤ l.slots.length ∧ i ≤ old.imps.length ∧ Hid (wr.ownsMap Try.prog 64 (plainElem (H := Nat) Try.prog 3) (w.heap.size + 1 + 1 + 1) i D) ∧ Hid (MapIs D ((pairs old l).take i)) ∧
    Hid (Blk wr w.heap.size 32 old.parts.toArray) ∧ Hid (Blk wr (w.heap.size + 1 + 1) 32 u.parts.toArray) ∧ Hid (Below w.heap.size w wr)) (fun vi _ => l.slots.length - (intOf vi).toNat)
  case atStart => exact ⟨0, .map [], rfl, Nat.zero_le _, Nat.zero_le _, HM0, MapIs.empty, HX0.out.alloc _, HX2.out.alloc _, HB3.out.alloc (by simp; omega) _⟩
  case round =>
    obtain ⟨i, D, rfl, hi1, hi2, HM, HD, HX, HX2, HB⟩ := hrel
    have c3 : wr.cell? ⟨w.heap.size, 3, none⟩ = some (.slice old.iA old.imps.length old.ic) := HX.out.cell 3
    by_cases hil1 : i < l.slots.length
    · obtain ⟨sb, so, hA, _, hc⟩ := (HL.out.cells.below (HB.out.mono hB)).lit (by omega) (by decide)
      have c0 : wr.cell? ⟨sb, so + i, none⟩ = some (.int .i64 (l.slots[i]'hil1)) := hc i _ (by simp [intCells, hil1])
      have hIs := HL.out.slots _ (List.getElem_mem hil1)
      rw [hA]
      clear hA hc
      by_cases hil2 : i < old.imps.length
      · obtain ⟨b, off, hA, d0, d1, d2, d3, d4⟩ := cells_of_row5 (HO.out.icells.below (HB.out.mono hB)) hil2
        have HK := Lib.hid (HO.out.imps _ (List.getElem_mem hil2))
        have HZ : Hid ((pairs old l).take (i + 1) = (pairs old l).take i ++ [((old.imps[i]'hil2).key, l.slots[i]'hil1)]) := by
          have h := zip_take_step (old.imps.map ImpD.key) l.slots i (by simpa using hil2) hil1
          rw [List.getElem_map] at h
          exact h
        rw [hA] at c3
        clear hA
        generalize old.imps[i]'hil2 = x at d0 d1 d2 d3 d4 HK HZ
        generalize l.slots[i]'hil1 = s at c0 hIs HZ
        have hkey := kl_is (k := x.key) ⟨HK.out.name, HK.out.ver⟩
        have hwf : (Lit.int .i64 s).wf = true := by
          simp [Lit.wf, IntKind.min, IntKind.max, IntKind.bits, IntKind.signed]
          exact hIs
        simp only [ImpD.key] at hkey
        have HKEY := Lib.hid hkey
        have HWF := Lib.hid hwf
        clear hkey hwf
        have HHAS := Lib.hid (HD.out.has x.key ⟨HK.out.name, HK.out.ver⟩)
        have HOWN : Hid ((((wr.alloc (.cells #[.string ⟨x.name.toArray⟩, .string ⟨x.ver.toArray⟩, .int .i64 x.c2, .bool x.c3, .bool x.c4] 57)).alloc (.cells #[.string ⟨x.name.toArray⟩, .string ⟨x.ver.toArray⟩] 64))).ownsMap Try.prog 64 (plainElem (H := Nat) Try.prog 3) (w.heap.size + 1 + 1 + 1) i D) := (HM.out.alloc _).alloc _
        have hin : i < maxLen := by unfold maxLen; omega
        cases hf : firstS ((pairs old l).take i) x.key with
        | some s' =>
          have hhas : Maps.has D (kl (x.name, x.ver)) = true := by have h := HHAS.out; rw [hf] at h; exact h
          have HD1 : Hid (MapIs D ((pairs old l).take (i + 1))) := by rw [HZ.out]; exact HD.out.skip (.inl (by rw [hf]; rfl))
          clear hf
          go_wp2_with (at_lookup; refine wpList_lookup_own_ok_int _ rfl _ _ 63 rfl 64 3 .i64 law64 Try.underlying63 Try.underlying3 (zero3 _) (w.heap.size + 1 + 1 + 1) i D rfl HOWN.out _ _ rfl HKEY.out ?_; intro c hat hwc)
          exact ⟨⟨i + 1, D, by go_num, by omega, by omega, HOWN.out.mono (Nat.le_succ _), HD1, (HX.out.alloc _).alloc _, (HX2.out.alloc _).alloc _, (HB.out.alloc HB.out.size _).alloc (by have := HB.out.size; simp; omega) _⟩, by simp [intOf]; omega⟩
        | none =>
          have hhas : Maps.has D (kl (x.name, x.ver)) = false := by have h := HHAS.out; rw [hf] at h; exact h
          by_cases hs0 : 0 ≤ s
          · have HD1 : Hid (MapIs (D.put (kl (x.name, x.ver)) (.lit (.int .i64 s))) ((pairs old l).take (i + 1))) := by rw [HZ.out]; exact HD.out.put ⟨HK.out.name, HK.out.ver⟩ hf hs0
            clear hf
            go_wp2_with (first
              | (at_lookup; refine wpList_lookup_own_ok_int _ rfl _ _ 63 rfl 64 3 .i64 law64 Try.underlying63 Try.underlying3 (zero3 _) (w.heap.size + 1 + 1 + 1) i D rfl HOWN.out _ _ rfl HKEY.out ?_; intro c hat hwc)
              | (at_mapUpdate; refine wpList_mapUpdate_own _ rfl _ _ _ 63 rfl 64 3 law64 Try.underlying63 _ (w.heap.size + 1 + 1 + 1) i D rfl HOWN.out hin _ _ _ rfl rfl HKEY.out _ [] (plainElem_int Try.underlying3 HWF.out) ?_; intro w5 hown5 hgrow5))
            go_roundw
            case rel =>
              have h0 := HB.out.size
              exact ⟨i + 1, _, by go_num, by omega, by omega, hown5, HD1, ((HX.out.alloc _).alloc _).grown hgrow5 (by simp; omega), ((HX2.out.alloc _).alloc _).grown hgrow5 (by simp),
                ((HB.out.alloc HB.out.size _).alloc (by simp; omega) _).grown hgrow5 (by simp; omega) (fun k hk => by injection hk with hk; omega)⟩
            case measure => simp [intOf]; omega
          · have HD1 : Hid (MapIs D ((pairs old l).take (i + 1))) := by rw [HZ.out]; exact HD.out.skip (.inr (by omega))
            clear hf
            go_wp2_with (at_lookup; refine wpList_lookup_own_ok_int _ rfl _ _ 63 rfl 64 3 .i64 law64 Try.underlying63 Try.underlying3 (zero3 _) (w.heap.size + 1 + 1 + 1) i D rfl HOWN.out _ _ rfl HKEY.out ?_; intro c hat hwc)
            exact ⟨⟨i + 1, D, by go_num, by omega, by omega, HOWN.out.mono (Nat.le_succ _), HD1, (HX.out.alloc _).alloc _, (HX2.out.alloc _).alloc _, (HB.out.alloc HB.out.size _).alloc (by have := HB.out.size; simp; omega) _⟩, by simp [intOf]; omega⟩
      · have HDD : Hid (MapIs D (pairs old l)) := by
          have h := HD.out
          rw [List.take_of_length_le (by unfold pairs; rw [List.length_zip, List.length_map]; omega)] at h
          exact h
        clear hIs HD c3
        have c3 : wr.cell? ⟨w.heap.size, 3, none⟩ = some (.slice old.iA old.imps.length old.ic) := HX.out.cell 3
        have HMO := Lib.hid HM.out
        have HBW := Lib.hid HB.out
        have HB2 := Lib.hid HX2.out
        clear HM HB HX2 HX HO HL
        have c23 : (wr.alloc (.cells #[.int .i64 (-1)] 3)).cell? ⟨w.heap.size + 1 + 1, 3, none⟩ = some (.slice u.iA u.imps.length u.ic) := (HB2.out.alloc _).cell 3
        have HN := Lib.hid (fun (w' : World) (hb : Below w.heap.size w w') => Need_any u B w' (HU.out.below (hb.mono hB)) (Nat.le_trans hB hb.size) hm)
        have HRP := Lib.hid (Repeat_any (-1) u.imps.length wr.heap.size (wr.alloc (.cells #[.int .i64 (-1)] 3)) hm (Blk.new _ _ _))
        have HMEM := Lib.hid (needL_mem u.imps.length u.refs)
        have HND : Hid (u.need = needL u.imps.length u.refs) := rfl
        have hnl := needL_length u.refs u.imps.length
        rw [← HND.out] at hnl HMEM
        have HSL := Lib.hid (show ∀ (n : Nat) (h : n < u.imps.length), slotAt old l u n = (firstS (pairs old l) (u.imps[n]'h).key).getD (-1) from fun n h => by unfold slotAt; rw [List.getElem?_eq_getElem h])
        generalize slotAt old l u = SL at HKL HSL
        generalize u.need = L at HKL HMEM hnl HN HND
        simp only [UnitD.parts] at HN
        go_wp2_with fail
        refine (HRP.out).mono ?_
        rintro e w5 ⟨g, rfl, hg, hblk, hb5⟩
        have hsz5 : wr.heap.size + 1 ≤ g := by simpa using hg
        have HB5 := Lib.hid ((HBW.out.alloc HBW.out.size (.cells #[.int .i64 (-1)] 3)).trans (hb5.mono (by have := HBW.out.size; simp; omega)))
        have HX5 := Lib.hid ((HB2.out.alloc (.cells #[.int .i64 (-1)] 3)).below hb5 (HB2.out.alloc _).lt)
        have HM5 := Lib.hid ((HMO.out.alloc (.cells #[.int .i64 (-1)] 3)).kept (grown_of hb5 none) (by simp))
        have HR5 := Lib.hid hblk
        have hMlt := HMO.out.lt
        have hXlt := HB2.out.lt
        have hNw := HN.out w5 HB5.out
        have HNW := Lib.hid hNw
        clear hNw HN hblk hb5 c23 HRP HMO HB2 HBW hg
        have e0 : w5.cell? ⟨w.heap.size + 1 + 1, 0, none⟩ = some (.string u.u0) := HX5.out.cell 0
        have e1 : w5.cell? ⟨w.heap.size + 1 + 1, 1, none⟩ = some (.bool u.u1) := HX5.out.cell 1
        have e2 : w5.cell? ⟨w.heap.size + 1 + 1, 2, none⟩ = some (.slice u.nA u.nodes.length u.nc) := HX5.out.cell 2
        have e3 : w5.cell? ⟨w.heap.size + 1 + 1, 3, none⟩ = some (.slice u.iA u.imps.length u.ic) := HX5.out.cell 3
        have e4 : w5.cell? ⟨w.heap.size + 1 + 1, 4, none⟩ = some (.slice u.u4.A u.u4.n u.u4.c) := HX5.out.cell 4
        have e5 : w5.cell? ⟨w.heap.size + 1 + 1, 5, none⟩ = some (.slice u.u5.A u.u5.n u.u5.c) := HX5.out.cell 5
        have e6 : w5.cell? ⟨w.heap.size + 1 + 1, 6, none⟩ = some (.slice u.u6.A u.u6.n u.u6.c) := HX5.out.cell 6
        have e7 : w5.cell? ⟨w.heap.size + 1 + 1, 7, none⟩ = some (.slice u.u7.A u.u7.n u.u7.c) := HX5.out.cell 7
        have e8 : w5.cell? ⟨w.heap.size + 1 + 1, 8, none⟩ = some (.int .i64 u.u8) := HX5.out.cell 8
        have e9 : w5.cell? ⟨w.heap.size + 1 + 1, 9, none⟩ = some (.int .i64 u.u9) := HX5.out.cell 9
        have e10 : w5.cell? ⟨w.heap.size + 1 + 1, 10, none⟩ = some (.int .i64 u.u10) := HX5.out.cell 10
        have e11 : w5.cell? ⟨w.heap.size + 1 + 1, 11, none⟩ = some (.int .i64 u.u11) := HX5.out.cell 11
        have e12 : w5.cell? ⟨w.heap.size + 1 + 1, 12, none⟩ = some (.slice u.u12.A u.u12.n u.u12.c) := HX5.out.cell 12
        have e13 : w5.cell? ⟨w.heap.size + 1 + 1, 13, none⟩ = some (.slice u.u13.A u.u13.n u.u13.c) := HX5.out.cell 13
        go_wp2_with fail
        refine (HNW.out).mono ?_
        rintro e w6 ⟨v6, rfl, hown6, hb6⟩
        obtain ⟨A6, c6, rfl, _⟩ := own_reads hown6
        have HOW6 := Lib.hid hown6
        have HB6 := Lib.hid (HB5.out.trans (hb6.mono HB5.out.size))
        have HX6 := Lib.hid (HX5.out.below hb6 HX5.out.lt)
        have HM6 := Lib.hid (HM5.out.kept (grown_of hb6 none) (by simp))
        have HR6 : Hid (Blk w6 g 3 (intCells (outL SL u.imps.length L 0)).toArray) := by
          have h := HR5.out.below hb6 HR5.out.lt
          rw [outL_zero, intCells, List.map_replicate]
          exact h
        have hg5 : g < w5.heap.size := HR5.out.lt
        clear hown6 hb6 e0 e1 e2 e3 e4 e5 e6 e7 e8 e9 e10 e11 e12 e13 HNW HB5 HX5 HM5 HR5
        generalize w5.heap.size = B5 at HOW6 hg5
        have hBM : w.heap.size + 1 + 1 + 1 < g := by omega
        have hBX : w.heap.size + 1 + 1 < g := by omega
        have hwg : w.heap.size ≤ g := by omega
        obtain ⟨wo, rfl⟩ : ∃ wo : World, wo = wr := ⟨_, rfl⟩
        go_wp2_with fail
        go_loopw [68] (fun vj wr => ∃ j : Nat, vj = .int .i64 j ∧ j ≤ L.length ∧ Hid (Blk wr g 3 (intCells (outL SL u.imps.length L j)).toArray) ∧ Hid (wr.ownsMap Try.prog 64 (plainElem (H := Nat) Try.prog 3) (w.heap.size + 1 + 1 + 1) i D) ∧
          Hid (Blk wr (w.heap.size + 1 + 1) 32 u.parts.toArray) ∧ Hid (wr.ownsRow B5 3 1 (.slice A6 L.length c6) L.length (intCells L)) ∧ Hid (Below w.heap.size w wr)) (fun vj _ => L.length - (intOf vj).toNat)
        case atStart => exact ⟨0, rfl, Nat.zero_le _, HR6, HM6, HX6, HOW6, HB6⟩
        case round =>
          obtain ⟨j, rfl, hj1, HR, HM, HX, HOW, HB⟩ := hrel
          by_cases hjl : j < L.length
          · have hrd := Reads.of_own HOW.out
            obtain ⟨lb, lo, hA6, _, hc⟩ := hrd.lit (by omega) (by decide)
            have c0 : wr.cell? ⟨lb, lo + j, none⟩ = some (.int .i64 (L[j]'hjl)) := hc j _ (by simp [intCells, hjl])
            obtain ⟨nn, hnn, hnm⟩ := HMEM.out _ (List.getElem_mem hjl)
            have HEQ := Lib.hid hnn
            rw [hnn] at c0
            have HR' := HR
            have HOW' := HOW
            rw [hA6] at HOW' ⊢
            clear hrd hc hnn hA6
            obtain ⟨b, off, hA, d0, d1, d2, d3, d4⟩ := cells_of_row5 (HU.out.icells.below (HB.out.mono hB)) hnm
            have cX : wr.cell? ⟨w.heap.size + 1 + 1, 3, none⟩ = some (.slice u.iA u.imps.length u.ic) := HX.out.cell 3
            rw [hA] at cX
            clear hA
            have HK := Lib.hid (HU.out.imps _ (List.getElem_mem hnm))
            have HSN := Lib.hid (HSL.out nn hnm)
            generalize u.imps[nn]'hnm = x at d0 d1 d2 d3 d4 HK HSN
            have hkey := kl_is (k := x.key) ⟨HK.out.name, HK.out.ver⟩
            simp only [ImpD.key] at hkey
            have HKEY := Lib.hid hkey
            clear hkey
            have HHAS := Lib.hid (HDD.out.has x.key ⟨HK.out.name, HK.out.ver⟩)
            have HAT := Lib.hid (HDD.out.at_ x.key ⟨HK.out.name, HK.out.ver⟩)
            have HOWN : Hid ((wr.alloc (.cells #[.string ⟨x.name.toArray⟩, .string ⟨x.ver.toArray⟩, .int .i64 x.c2, .bool x.c3, .bool x.c4] 57)).ownsMap Try.prog 64 (plainElem (H := Nat) Try.prog 3) (w.heap.size + 1 + 1 + 1) i D) := HM.out.alloc _
            have HRA := Lib.hid (HR.out.alloc (.cells #[.string ⟨x.name.toArray⟩, .string ⟨x.ver.toArray⟩, .int .i64 x.c2, .bool x.c3, .bool x.c4] 57))
            have hce : (wr.alloc (.cells #[.string ⟨x.name.toArray⟩, .string ⟨x.ver.toArray⟩, .int .i64 x.c2, .bool x.c3, .bool x.c4] 57)).cell? ⟨g, nn, none⟩ = some (.int .i64 (if (nn : Int) ∈ L.take j then SL nn else -1)) := by
              refine (HRA.out.cell nn).trans ?_
              rw [List.getElem?_toArray, intCells, List.getElem?_map, outL_at _ _ _ _ _ hnm]
              rfl
            have hfz := HRA.out.frozen nn
            have hnmi : (nn : Int) < (u.imps.length : Int) := by omega
            generalize (if (nn : Int) ∈ L.take j then SL nn else -1) = pv at hce
            cases hf : firstS (pairs old l) x.key with
            | some s' =>
              have hhas : Maps.has D (kl (x.name, x.ver)) = true := by have h := HHAS.out; rw [hf] at h; exact h
              have HAT1 : Hid (∀ z, D.atKey (kl (x.name, x.ver)) z = .lit (.int .i64 s')) := fun z => by have h := HAT.out z; rw [hf] at h; exact h
              have HS1 : Hid (SL nn = s') := by have h := HSN.out; rw [hf] at h; exact h
              have HST := Lib.hid (outL_step SL u.imps.length L j nn hjl HEQ.out)
              clear hf
              go_wp2_with (at_lookup; refine wpList_lookup_own_ok_int _ rfl _ _ 63 rfl 64 3 .i64 law64 Try.underlying63 Try.underlying3 (zero3 _) (w.heap.size + 1 + 1 + 1) i D rfl HOWN.out _ _ rfl HKEY.out ?_; intro c hat hwc; have hcs : c = s' := (by have h := hat.symm.trans (HAT1.out _); injection h with h; injection h))
              go_roundw
              case rel =>
                have h0 := HB.out.size
                refine ⟨j + 1, by go_num, by omega, ?_, (HOWN.out.kept (only_setC _ _ _) (by simp; omega)), ?_, ?_, ?_⟩
                · have h := HRA.out.set_ nn (.int .i64 s')
                  have e : (intCells (outL SL u.imps.length L j)).toArray.setIfInBounds nn (.int .i64 s') = (intCells (outL SL u.imps.length L (j + 1))).toArray := by
                    rw [List.setIfInBounds_toArray, ← HST.out, HS1.out, intCells, intCells, List.map_set]
                  rw [e] at h
                  exact h
                · exact (HX.out.alloc _).far (by show w.heap.size + 1 + 1 ≠ g; omega) _
                · exact ownsRow_other (HOW'.out.alloc _) (only_setC _ _ _) hg5
                · exact (HB.out.alloc HB.out.size _).setCell (by show w.heap.size ≤ g; exact hwg) _
              case measure => simp [intOf]; omega
            | none =>
              have hhas : Maps.has D (kl (x.name, x.ver)) = false := by have h := HHAS.out; rw [hf] at h; exact h
              have HS1 : Hid (SL nn = -1) := by have h := HSN.out; rw [hf] at h; exact h
              have HST := Lib.hid (outL_same SL u.imps.length L j nn hjl HEQ.out hnm HS1.out)
              clear hf
              go_wp2_with (at_lookup; refine wpList_lookup_own_ok_int _ rfl _ _ 63 rfl 64 3 .i64 law64 Try.underlying63 Try.underlying3 (zero3 _) (w.heap.size + 1 + 1 + 1) i D rfl HOWN.out _ _ rfl HKEY.out ?_; intro c hat hwc)
              go_roundw
              case rel => exact ⟨j + 1, by go_num, by omega, (by rw [← HST.out]; exact HRA), HOWN, HX.out.alloc _, HOW'.out.alloc _, HB.out.alloc HB.out.size _⟩
              case measure => simp [intOf]; omega
          · obtain rfl : j = L.length := by omega
            rw [← HKL.out] at HR
            go_wp2
            go_ret
            exact ⟨g, rfl, hwg, HR.out, HB.out⟩

    · have HDD : Hid (MapIs D (pairs old l)) := by
        have h := HD.out
        rw [List.take_of_length_le (by unfold pairs; rw [List.length_zip, List.length_map]; omega)] at h
        exact h
      clear HD c3
      have HMO := Lib.hid HM.out
      have HBW := Lib.hid HB.out
      have HB2 := Lib.hid HX2.out
      clear HM HB HX2 HX HO HL
      have c23 : (wr.alloc (.cells #[.int .i64 (-1)] 3)).cell? ⟨w.heap.size + 1 + 1, 3, none⟩ = some (.slice u.iA u.imps.length u.ic) := (HB2.out.alloc _).cell 3
      have HN := Lib.hid (fun (w' : World) (hb : Below w.heap.size w w') => Need_any u B w' (HU.out.below (hb.mono hB)) (Nat.le_trans hB hb.size) hm)
      have HRP := Lib.hid (Repeat_any (-1) u.imps.length wr.heap.size (wr.alloc (.cells #[.int .i64 (-1)] 3)) hm (Blk.new _ _ _))
      have HMEM := Lib.hid (needL_mem u.imps.length u.refs)
      have HND : Hid (u.need = needL u.imps.length u.refs) := rfl
      have hnl := needL_length u.refs u.imps.length
      rw [← HND.out] at hnl HMEM
      have HSL := Lib.hid (show ∀ (n : Nat) (h : n < u.imps.length), slotAt old l u n = (firstS (pairs old l) (u.imps[n]'h).key).getD (-1) from fun n h => by unfold slotAt; rw [List.getElem?_eq_getElem h])
      generalize slotAt old l u = SL at HKL HSL
      generalize u.need = L at HKL HMEM hnl HN HND
      simp only [UnitD.parts] at HN
      go_wp2_with fail
      refine (HRP.out).mono ?_
      rintro e w5 ⟨g, rfl, hg, hblk, hb5⟩
      have hsz5 : wr.heap.size + 1 ≤ g := by simpa using hg
      have HB5 := Lib.hid ((HBW.out.alloc HBW.out.size (.cells #[.int .i64 (-1)] 3)).trans (hb5.mono (by have := HBW.out.size; simp; omega)))
      have HX5 := Lib.hid ((HB2.out.alloc (.cells #[.int .i64 (-1)] 3)).below hb5 (HB2.out.alloc _).lt)
      have HM5 := Lib.hid ((HMO.out.alloc (.cells #[.int .i64 (-1)] 3)).kept (grown_of hb5 none) (by simp))
      have HR5 := Lib.hid hblk
      have hMlt := HMO.out.lt
      have hXlt := HB2.out.lt
      have hNw := HN.out w5 HB5.out
      have HNW := Lib.hid hNw
      clear hNw HN hblk hb5 c23 HRP HMO HB2 HBW hg
      have e0 : w5.cell? ⟨w.heap.size + 1 + 1, 0, none⟩ = some (.string u.u0) := HX5.out.cell 0
      have e1 : w5.cell? ⟨w.heap.size + 1 + 1, 1, none⟩ = some (.bool u.u1) := HX5.out.cell 1
      have e2 : w5.cell? ⟨w.heap.size + 1 + 1, 2, none⟩ = some (.slice u.nA u.nodes.length u.nc) := HX5.out.cell 2
      have e3 : w5.cell? ⟨w.heap.size + 1 + 1, 3, none⟩ = some (.slice u.iA u.imps.length u.ic) := HX5.out.cell 3
      have e4 : w5.cell? ⟨w.heap.size + 1 + 1, 4, none⟩ = some (.slice u.u4.A u.u4.n u.u4.c) := HX5.out.cell 4
      have e5 : w5.cell? ⟨w.heap.size + 1 + 1, 5, none⟩ = some (.slice u.u5.A u.u5.n u.u5.c) := HX5.out.cell 5
      have e6 : w5.cell? ⟨w.heap.size + 1 + 1, 6, none⟩ = some (.slice u.u6.A u.u6.n u.u6.c) := HX5.out.cell 6
      have e7 : w5.cell? ⟨w.heap.size + 1 + 1, 7, none⟩ = some (.slice u.u7.A u.u7.n u.u7.c) := HX5.out.cell 7
      have e8 : w5.cell? ⟨w.heap.size + 1 + 1, 8, none⟩ = some (.int .i64 u.u8) := HX5.out.cell 8
      have e9 : w5.cell? ⟨w.heap.size + 1 + 1, 9, none⟩ = some (.int .i64 u.u9) := HX5.out.cell 9
      have e10 : w5.cell? ⟨w.heap.size + 1 + 1, 10, none⟩ = some (.int .i64 u.u10) := HX5.out.cell 10
      have e11 : w5.cell? ⟨w.heap.size + 1 + 1, 11, none⟩ = some (.int .i64 u.u11) := HX5.out.cell 11
      have e12 : w5.cell? ⟨w.heap.size + 1 + 1, 12, none⟩ = some (.slice u.u12.A u.u12.n u.u12.c) := HX5.out.cell 12
      have e13 : w5.cell? ⟨w.heap.size + 1 + 1, 13, none⟩ = some (.slice u.u13.A u.u13.n u.u13.c) := HX5.out.cell 13
      go_wp2_with fail
      refine (HNW.out).mono ?_
      rintro e w6 ⟨v6, rfl, hown6, hb6⟩
      obtain ⟨A6, c6, rfl, _⟩ := own_reads hown6
      have HOW6 := Lib.hid hown6
      have HB6 := Lib.hid (HB5.out.trans (hb6.mono HB5.out.size))
      have HX6 := Lib.hid (HX5.out.below hb6 HX5.out.lt)
      have HM6 := Lib.hid (HM5.out.kept (grown_of hb6 none) (by simp))
      have HR6 : Hid (Blk w6 g 3 (intCells (outL SL u.imps.length L 0)).toArray) := by
        have h := HR5.out.below hb6 HR5.out.lt
        rw [outL_zero, intCells, List.map_replicate]
        exact h
      have hg5 : g < w5.heap.size := HR5.out.lt
      clear hown6 hb6 e0 e1 e2 e3 e4 e5 e6 e7 e8 e9 e10 e11 e12 e13 HNW HB5 HX5 HM5 HR5
      generalize w5.heap.size = B5 at HOW6 hg5
      have hBM : w.heap.size + 1 + 1 + 1 < g := by omega
      have hBX : w.heap.size + 1 + 1 < g := by omega
      have hwg : w.heap.size ≤ g := by omega
      obtain ⟨wo, rfl⟩ : ∃ wo : World, wo = wr := ⟨_, rfl⟩
      go_wp2_with fail
      go_loopw [68] (fun vj wr => ∃ j : Nat, vj = .int .i64 j ∧ j ≤ L.length ∧ Hid (Blk wr g 3 (intCells (outL SL u.imps.length L j)).toArray) ∧ Hid (wr.ownsMap Try.prog 64 (plainElem (H := Nat) Try.prog 3) (w.heap.size + 1 + 1 + 1) i D) ∧
        Hid (Blk wr (w.heap.size + 1 + 1) 32 u.parts.toArray) ∧ Hid (wr.ownsRow B5 3 1 (.slice A6 L.length c6) L.length (intCells L)) ∧ Hid (Below w.heap.size w wr)) (fun vj _ => L.length - (intOf vj).toNat)
      case atStart => exact ⟨0, rfl, Nat.zero_le _, HR6, HM6, HX6, HOW6, HB6⟩
      case round =>
        obtain ⟨j, rfl, hj1, HR, HM, HX, HOW, HB⟩ := hrel
        by_cases hjl : j < L.length
        · have hrd := Reads.of_own HOW.out
          obtain ⟨lb, lo, hA6, _, hc⟩ := hrd.lit (by omega) (by decide)
          have c0 : wr.cell? ⟨lb, lo + j, none⟩ = some (.int .i64 (L[j]'hjl)) := hc j _ (by simp [intCells, hjl])
          obtain ⟨nn, hnn, hnm⟩ := HMEM.out _ (List.getElem_mem hjl)
          have HEQ := Lib.hid hnn
          rw [hnn] at c0
          have HR' := HR
          have HOW' := HOW
          rw [hA6] at HOW' ⊢
          clear hrd hc hnn hA6
          obtain ⟨b, off, hA, d0, d1, d2, d3, d4⟩ := cells_of_row5 (HU.out.icells.below (HB.out.mono hB)) hnm
          have cX : wr.cell? ⟨w.heap.size + 1 + 1, 3, none⟩ = some (.slice u.iA u.imps.length u.ic) := HX.out.cell 3
          rw [hA] at cX
          clear hA
          have HK := Lib.hid (HU.out.imps _ (List.getElem_mem hnm))
          have HSN := Lib.hid (HSL.out nn hnm)
          generalize u.imps[nn]'hnm = x at d0 d1 d2 d3 d4 HK HSN
          have hkey := kl_is (k := x.key) ⟨HK.out.name, HK.out.ver⟩
          simp only [ImpD.key] at hkey
          have HKEY := Lib.hid hkey
          clear hkey
          have HHAS := Lib.hid (HDD.out.has x.key ⟨HK.out.name, HK.out.ver⟩)
          have HAT := Lib.hid (HDD.out.at_ x.key ⟨HK.out.name, HK.out.ver⟩)
          have HOWN : Hid ((wr.alloc (.cells #[.string ⟨x.name.toArray⟩, .string ⟨x.ver.toArray⟩, .int .i64 x.c2, .bool x.c3, .bool x.c4] 57)).ownsMap Try.prog 64 (plainElem (H := Nat) Try.prog 3) (w.heap.size + 1 + 1 + 1) i D) := HM.out.alloc _
          have HRA := Lib.hid (HR.out.alloc (.cells #[.string ⟨x.name.toArray⟩, .string ⟨x.ver.toArray⟩, .int .i64 x.c2, .bool x.c3, .bool x.c4] 57))
          have hce : (wr.alloc (.cells #[.string ⟨x.name.toArray⟩, .string ⟨x.ver.toArray⟩, .int .i64 x.c2, .bool x.c3, .bool x.c4] 57)).cell? ⟨g, nn, none⟩ = some (.int .i64 (if (nn : Int) ∈ L.take j then SL nn else -1)) := by
            refine (HRA.out.cell nn).trans ?_
            rw [List.getElem?_toArray, intCells, List.getElem?_map, outL_at _ _ _ _ _ hnm]
            rfl
          have hfz := HRA.out.frozen nn
          have hnmi : (nn : Int) < (u.imps.length : Int) := by omega
          generalize (if (nn : Int) ∈ L.take j then SL nn else -1) = pv at hce
          cases hf : firstS (pairs old l) x.key with
          | some s' =>
            have hhas : Maps.has D (kl (x.name, x.ver)) = true := by have h := HHAS.out; rw [hf] at h; exact h
            have HAT1 : Hid (∀ z, D.atKey (kl (x.name, x.ver)) z = .lit (.int .i64 s')) := fun z => by have h := HAT.out z; rw [hf] at h; exact h
            have HS1 : Hid (SL nn = s') := by have h := HSN.out; rw [hf] at h; exact h
            have HST := Lib.hid (outL_step SL u.imps.length L j nn hjl HEQ.out)
            clear hf
            go_wp2_with (at_lookup; refine wpList_lookup_own_ok_int _ rfl _ _ 63 rfl 64 3 .i64 law64 Try.underlying63 Try.underlying3 (zero3 _) (w.heap.size + 1 + 1 + 1) i D rfl HOWN.out _ _ rfl HKEY.out ?_; intro c hat hwc; have hcs : c = s' := (by have h := hat.symm.trans (HAT1.out _); injection h with h; injection h))
            go_roundw
            case rel =>
              have h0 := HB.out.size
              refine ⟨j + 1, by go_num, by omega, ?_, (HOWN.out.kept (only_setC _ _ _) (by simp; omega)), ?_, ?_, ?_⟩
              · have h := HRA.out.set_ nn (.int .i64 s')
                have e : (intCells (outL SL u.imps.length L j)).toArray.setIfInBounds nn (.int .i64 s') = (intCells (outL SL u.imps.length L (j + 1))).toArray := by
                  rw [List.setIfInBounds_toArray, ← HST.out, HS1.out, intCells, intCells, List.map_set]
                rw [e] at h
                exact h
              · exact (HX.out.alloc _).far (by show w.heap.size + 1 + 1 ≠ g; omega) _
              · exact ownsRow_other (HOW'.out.alloc _) (only_setC _ _ _) hg5
              · exact (HB.out.alloc HB.out.size _).setCell (by show w.heap.size ≤ g; exact hwg) _
            case measure => simp [intOf]; omega
          | none =>
            have hhas : Maps.has D (kl (x.name, x.ver)) = false := by have h := HHAS.out; rw [hf] at h; exact h
            have HS1 : Hid (SL nn = -1) := by have h := HSN.out; rw [hf] at h; exact h
            have HST := Lib.hid (outL_same SL u.imps.length L j nn hjl HEQ.out hnm HS1.out)
            clear hf
            go_wp2_with (at_lookup; refine wpList_lookup_own_ok_int _ rfl _ _ 63 rfl 64 3 .i64 law64 Try.underlying63 Try.underlying3 (zero3 _) (w.heap.size + 1 + 1 + 1) i D rfl HOWN.out _ _ rfl HKEY.out ?_; intro c hat hwc)
            go_roundw
            case rel => exact ⟨j + 1, by go_num, by omega, (by rw [← HST.out]; exact HRA), HOWN, HX.out.alloc _, HOW'.out.alloc _, HB.out.alloc HB.out.size _⟩
            case measure => simp [intOf]; omega
        · obtain rfl : j = L.length := by omega
          rw [← HKL.out] at HR
          go_wp2
          go_ret
          exact ⟨g, rfl, hwg, HR.out, HB.out⟩


end Go.Proofs.Ytdmomdaeiaeolaa
