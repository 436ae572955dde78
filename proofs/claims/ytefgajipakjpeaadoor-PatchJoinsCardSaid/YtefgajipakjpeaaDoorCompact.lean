/-
  Contract of the reference's Compact, at right edits. Conditions: those in its own statement.
-/
import Derived.Test.YtefgajipakjpeaaDoorTotal
namespace Go.Proofs.YtefgajipakjpeaaDoor
open Go.RowKit

theorem compact_snoc (l : List EditD) (e : EditD) : compactL (l ++ [e]) = compStep (compactL l) e := by simp [compactL]
theorem compact_in {es : List EditD} (hr : ∀ e ∈ es, rightEB e = true) (ht : totalI es ≤ 16777216) : (∀ e ∈ compactL es, InE 16777216 16777216 e) ∧ (compactL es).length ≤ es.length := by
  have hE : ∀ e ∈ es, EOk e := fun e h => rightE_EOk (hr e h)
  refine ⟨fun e he => ?_, by have := comp_length es []; simpa [compactL] using this⟩
  rw [compact_make es hE] at he
  have h := make_in (by omega) (by omega) (right_inside hr) e he
  have hl := atomsL_length hE
  exact ⟨h.eok, h.from_, by have := h.size; omega, by have := h.text; omega⟩
theorem take_right {es : List EditD} (hr : ∀ e ∈ es, rightEB e = true) (ht : totalI es ≤ 16777216) (i : Nat) : (∀ e ∈ es.take i, rightEB e = true) ∧ totalI (es.take i) ≤ 16777216 := by
  refine ⟨fun e h => hr e (List.mem_of_mem_take h), ?_⟩
  have h1 : totalI (es.take i) + totalI (es.drop i) = totalI es := by rw [← totalI_append, List.take_append_drop]
  have h2 := EOk.length_le (es := es.drop i) (fun e h => rightE_EOk (hr e (List.mem_of_mem_drop h)))
  omega
theorem last_set2 {l : List EditD} {x : EditD} (t : List UInt8) : ((l ++ [x]).flatMap EditD.parts).set (l.length * 3 + 2) (.string ⟨t.toArray⟩) = (l ++ [(⟨x.from_, x.size, t⟩ : EditD)]).flatMap EditD.parts := by
  rw [List.flatMap_append, List.flatMap_append, List.set_append_right _ _ (by rw [flat_length EditD.parts 3 EditD.parts_length]; omega), flat_length EditD.parts 3 EditD.parts_length]
  have e : l.length * 3 + 2 - l.length * 3 = 2 := by omega
  rw [e]
  simp [EditD.parts]

set_option maxHeartbeats 16000000 in
set_option maxRecDepth 100000 in
theorem Compact_any (A : Option Addr) (c : Nat) (es : List EditD) (B : Nat) (w : World) (hr : Reads w B 3 A es.length (es.flatMap EditD.parts)) (he : ∀ e ∈ es, rightEB e = true) (hB : B ≤ w.heap.size) (ht : totalI es ≤ 16777216) :
    Calls Tryd.prog 20 #[.slice A es.length c] w fun r w' => ∃ A' c', r = .returned (.slice A' (compactL es).length c') ∧ w'.ownsRow w.heap.size 56 3 (.slice A' (compactL es).length c') (compactL es).length ((compactL es).flatMap EditD.parts) ∧ Below w.heap.size w w' := by
  obtain ⟨i0, hi0, hz0, hz1, hz2⟩ := info_parts editInfo
  have HP := Lib.hid hr
  have HE := Lib.hid he
  have hel : es.length ≤ 16777216 := by
    have := EOk.length_le (es := es) (fun e h => rightE_EOk (he e h))
    omega
  have HB0 := Lib.hid (Below.refl w.heap.size w)
  have HTK := Lib.hid (fun i => compact_in (take_right he ht i).1 (take_right he ht i).2)
  have HOWN0 : Hid (w.ownsRow w.heap.size 56 3 (.slice none 0 0) 0 []) := Lib.hid ⟨rfl, .inl ⟨rfl, rfl⟩⟩
  obtain ⟨CL, hCL⟩ : ∃ l, compactL es = l := ⟨_, rfl⟩
  rw [hCL]
  have HCL := Lib.hid hCL
  clear hr he ht hCL
  go_enter Tryd.func20, Tryd.ntmps20
  go_wp2_with fail
  go_loopw [3, 4] (fun vo vi wr => ∃ (i : Nat) (A1 : Option Addr) (c1 : Nat) (out : List EditD), vi = .int .i64 i ∧ vo = .slice A1 out.length c1 ∧ i ≤ es.length ∧ Hid (out = compactL (es.take i)) ∧ Hid (wr.ownsRow w.heap.size 56 3 (.slice A1 out.length c1) out.length (out.flatMap EditD.parts)) ∧ Hid (Below w.heap.size w wr)) (fun _ vi _ => es.length - (intOf vi).toNat)
  case atStart => exact ⟨0, none, 0, [], rfl, rfl, Nat.zero_le _, Lib.hid rfl, HOWN0, HB0⟩
  case round =>
    obtain ⟨i, A1, c1, out, rfl, rfl, hi, HO, HOW, HB⟩ := hrel
    by_cases hil : i < es.length
    · obtain ⟨b, off, hA, _, d0, d1, d2⟩ := cells_of_edit (HP.out.below (HB.out.mono hB)) hil
      have HT := Lib.hid (List.take_succ_eq_append_getElem hil)
      have HEK := Lib.hid (HE.out (es[i]'hil) (List.getElem_mem hil))
      generalize es[i]'hil = e at d0 d1 d2 HT HEK
      have HIN : Hid (∀ x ∈ out, InE 16777216 16777216 x) := Lib.hid (by rw [HO.out]; exact (HTK.out i).1)
      have hol : out.length ≤ 16777216 := by
        have h1 := (HTK.out i).2
        rw [← HO.out, List.length_take] at h1
        omega
      have HNW0 : Hid (compStep out e = compactL (es.take (i + 1))) := Lib.hid (by rw [HT.out, compact_snoc, HO.out])
      have HIE : Hid (e.size ≤ 16777216 ∧ 0 ≤ e.size ∧ 0 ≤ e.from_ ∧ e.from_ ≤ 16777216 ∧ e.text.length ≤ 65536 ∧ (e.text ≠ [] → e.from_ = 0 ∧ e.size = 0)) := Lib.hid (by
        rcases rightE_cases HEK.out with ⟨a, b, c, d, g, k⟩ | ⟨a, b, c, d, g⟩
        · exact ⟨by omega, by omega, by omega, by omega, by rw [a]; simp, fun h => absurd a h⟩
        · exact ⟨by omega, by omega, by omega, by omega, d, fun _ => ⟨b, c⟩⟩)
      obtain ⟨f, sz, t⟩ := e
      have HIE0 := HIE.out
      obtain ⟨hs1, hs0, hf0, hf1, htl, -⟩ := HIE0
      simp only at d0 d1 d2 hs1 hs0 hf0 hf1 htl
      clear HT HEK HO
      rw [hA]
      clear hA
      have Hw1B := Lib.hid (HB.out.alloc HB.out.size (.cells #[.int .i64 f, .int .i64 sz, .string ⟨t.toArray⟩] 56))
      have Hw1O := Lib.hid (HOW.out.alloc (.cells #[.int .i64 f, .int .i64 sz, .string ⟨t.toArray⟩] 56))
      have HX1 := Lib.hid (Blk.new wr 56 #[.int .i64 f, .int .i64 sz, .string ⟨t.toArray⟩])
      have hlt := HB.out.size
      go_upto_region 6 with (fail)
      clear d0 d1 d2 HB HOW
      generalize wr.alloc (.cells #[.int .i64 f, .int .i64 sz, .string ⟨t.toArray⟩] 56) = w1 at Hw1B Hw1O HX1 ⊢
      generalize wr.heap.size = eb at HX1 hlt ⊢
      have e0 : w1.cell? ⟨eb, 0, none⟩ = some (.int .i64 f) := HX1.out.cell 0
      have e1 : w1.cell? ⟨eb, 1, none⟩ = some (.int .i64 sz) := HX1.out.cell 1
      have e2 : w1.cell? ⟨eb, 2, none⟩ = some (.string ⟨t.toArray⟩) := HX1.out.cell 2
      rcases List.eq_nil_or_concat out with rfl | ⟨l, x, hcc⟩
      · have HNW : Hid ([] ++ [(⟨f, sz, t⟩ : EditD)] = compactL (es.take (i + 1))) := HNW0
        cases t with
        | nil =>
          go_wp2_with fail
          go_quiet (fail)
          rename_i nq
          have Hw2B : Hid (Below w.heap.size w (w1.drewN nq)) := below_drewN Hw1B.out nq
          have Hw2O := Lib.hid (own_below Hw1O.out (below_drewN (Below.refl w1.heap.size w1) nq) (Nat.le_refl _))
          have HX2 := Lib.hid (HX1.out.below (below_drewN (Below.refl w1.heap.size w1) nq) HX1.out.lt)
          generalize w1.drewN nq = w2 at Hw2B Hw2O HX2 ⊢
          clear e0 e1 e2 
          have e0 : w2.cell? ⟨eb, 0, none⟩ = some (.int .i64 f) := HX2.out.cell 0
          have e1 : w2.cell? ⟨eb, 1, none⟩ = some (.int .i64 sz) := HX2.out.cell 1
          have e2 : w2.cell? ⟨eb, 2, none⟩ = some (.string ⟨#[]⟩) := HX2.out.cell 2

          have QC : Hid (0 + 1 ≤ maxLen) := Lib.hid (by unfold maxLen; omega)
          have QD : Hid ((0 + 1) * 32 ≤ 140737488355328) := Lib.hid (by omega)
          have QB := Lib.hid (edit_one ⟨f, sz, []⟩)
          have QE : Hid (w.heap.size ≤ (w2.alloc (.cells #[.int .i64 f, .int .i64 sz, .string ⟨#[]⟩] 56)).heap.size) := Lib.hid (Nat.le_trans Hw2B.out.size (by simp))
          have QN : Hid (∀ (j : Nat) (v : Value), [Value.int .i64 f, .int .i64 sz, .string ⟨#[]⟩][j]? = some v → (w2.alloc (.cells #[.int .i64 f, .int .i64 sz, .string ⟨#[]⟩] 56)).cell? ((⟨w2.heap.size, 0, none⟩ : Addr).add j) = some v) := World.news_of_block (heap_alloc_new w2 _)
          have hown := Hw2O.out.alloc (.cells #[.int .i64 f, .int .i64 sz, .string ⟨#[]⟩] 56)
          rw [List.length_nil] at hown
          go_wp2_with (at_builtin; refine wpList_append_own _ rfl _ _ 22 rfl w.heap.size 56 i0 (.agg #[.int .i64 0, .int .i64 0, .string ByteArray.empty]) 3 32 Tryd.underlying22 hi0 hz0 hz1 hz2 rfl (by decide) _ _ _ rfl hown ⟨w2.heap.size, 0, none⟩ 1 1 [.int .i64 f, .int .i64 sz, .string ⟨#[]⟩] rfl rfl QN.out QB.out QC.out QD.out QE.out ?_)
          intro v' w5 hown' hgrow _
          obtain ⟨A5, c5, rfl⟩ := own_shape hown'
          have HB5 := Lib.hid ((Hw2B.out.alloc Hw2B.out.size (.cells #[.int .i64 f, .int .i64 sz, .string ⟨#[]⟩] 56)).grown hgrow (by have := Hw2B.out.size; simp; omega) (fun g hg => (Hw2O.out.lt g hg).1))
          have HO5 : Hid (w5.ownsRow w.heap.size 56 3 (.slice A5 ([] ++ [(⟨f, sz, []⟩ : EditD)]).length c5) ([] ++ [(⟨f, sz, []⟩ : EditD)]).length (([] ++ [(⟨f, sz, []⟩ : EditD)]).flatMap EditD.parts)) := Lib.hid (by
            first | exact hown' | simpa [List.flatMap_append, EditD.parts] using hown')
          clear hown hown' hgrow QB QC QD QE QN
          go_wp2
          go_roundw
          case rel => exact ⟨i + 1, A5, c5, [] ++ [(⟨f, sz, []⟩ : EditD)], by go_num, rfl, by omega, HNW, HO5, HB5⟩
          case measure => simp [intOf]; omega
        | cons y t =>
          go_wp2_with fail
          go_quiet (fail)
          rename_i nq
          have Hw2B : Hid (Below w.heap.size w (w1.drewN nq)) := below_drewN Hw1B.out nq
          have Hw2O := Lib.hid (own_below Hw1O.out (below_drewN (Below.refl w1.heap.size w1) nq) (Nat.le_refl _))
          have HX2 := Lib.hid (HX1.out.below (below_drewN (Below.refl w1.heap.size w1) nq) HX1.out.lt)
          generalize w1.drewN nq = w2 at Hw2B Hw2O HX2 ⊢
          clear e0 e1 e2 
          have e0 : w2.cell? ⟨eb, 0, none⟩ = some (.int .i64 f) := HX2.out.cell 0
          have e1 : w2.cell? ⟨eb, 1, none⟩ = some (.int .i64 sz) := HX2.out.cell 1
          have e2 : w2.cell? ⟨eb, 2, none⟩ = some (.string ⟨(y :: t).toArray⟩) := HX2.out.cell 2

          have QC : Hid (0 + 1 ≤ maxLen) := Lib.hid (by unfold maxLen; omega)
          have QD : Hid ((0 + 1) * 32 ≤ 140737488355328) := Lib.hid (by omega)
          have QB := Lib.hid (edit_one ⟨f, sz, (y :: t)⟩)
          have QE : Hid (w.heap.size ≤ (w2.alloc (.cells #[.int .i64 f, .int .i64 sz, .string ⟨(y :: t).toArray⟩] 56)).heap.size) := Lib.hid (Nat.le_trans Hw2B.out.size (by simp))
          have QN : Hid (∀ (j : Nat) (v : Value), [Value.int .i64 f, .int .i64 sz, .string ⟨(y :: t).toArray⟩][j]? = some v → (w2.alloc (.cells #[.int .i64 f, .int .i64 sz, .string ⟨(y :: t).toArray⟩] 56)).cell? ((⟨w2.heap.size, 0, none⟩ : Addr).add j) = some v) := World.news_of_block (heap_alloc_new w2 _)
          have hown := Hw2O.out.alloc (.cells #[.int .i64 f, .int .i64 sz, .string ⟨(y :: t).toArray⟩] 56)
          rw [List.length_nil] at hown
          go_wp2_with (at_builtin; refine wpList_append_own _ rfl _ _ 22 rfl w.heap.size 56 i0 (.agg #[.int .i64 0, .int .i64 0, .string ByteArray.empty]) 3 32 Tryd.underlying22 hi0 hz0 hz1 hz2 rfl (by decide) _ _ _ rfl hown ⟨w2.heap.size, 0, none⟩ 1 1 [.int .i64 f, .int .i64 sz, .string ⟨(y :: t).toArray⟩] rfl rfl QN.out QB.out QC.out QD.out QE.out ?_)
          intro v' w5 hown' hgrow _
          obtain ⟨A5, c5, rfl⟩ := own_shape hown'
          have HB5 := Lib.hid ((Hw2B.out.alloc Hw2B.out.size (.cells #[.int .i64 f, .int .i64 sz, .string ⟨(y :: t).toArray⟩] 56)).grown hgrow (by have := Hw2B.out.size; simp; omega) (fun g hg => (Hw2O.out.lt g hg).1))
          have HO5 : Hid (w5.ownsRow w.heap.size 56 3 (.slice A5 ([] ++ [(⟨f, sz, (y :: t)⟩ : EditD)]).length c5) ([] ++ [(⟨f, sz, (y :: t)⟩ : EditD)]).length (([] ++ [(⟨f, sz, (y :: t)⟩ : EditD)]).flatMap EditD.parts)) := Lib.hid (by
            first | exact hown' | simpa [List.flatMap_append, EditD.parts] using hown')
          clear hown hown' hgrow QB QC QD QE QN
          go_wp2
          go_roundw
          case rel => exact ⟨i + 1, A5, c5, [] ++ [(⟨f, sz, (y :: t)⟩ : EditD)], by go_num, rfl, by omega, HNW, HO5, HB5⟩
          case measure => simp [intOf]; omega
      · rw [List.concat_eq_append] at hcc
        subst hcc
        have hxi := HIN.out x (by simp)
        obtain ⟨xf, xs, xt⟩ := x
        have hx1 := hxi.from_
        have hx2 := hxi.size
        have hx3 := hxi.text
        have hx4 : 0 ≤ xf ∧ 0 ≤ xs := by rcases hxi.eok with ⟨_, a, _, b⟩ | ⟨_, a, b⟩ <;> simp only at a b <;> omega
        obtain ⟨hx4, hx5⟩ := hx4
        simp only at hx1 hx2 hx3
        clear hxi
        cases t with
        | nil =>
          cases xt with
          | nil =>
            by_cases hsum : xf + xs = f
            · obtain ⟨g, c2, hsl, _, _⟩ := Hw1O.out.form (by simp)
              obtain ⟨rfl, rfl⟩ : A1 = some ⟨g, 0, none⟩ ∧ c1 = c2 := by injection hsl with h1 h2 h3; exact ⟨h1, h3⟩
              clear hsl
              obtain ⟨d0, d1, d2⟩ := last_cells Hw1O.out
              simp only at d0 d1 d2
              obtain ⟨n, hll⟩ : ∃ n, n = (l ++ [(⟨xf, xs, []⟩ : EditD)]).length := ⟨_, rfl⟩
              have hln : n = l.length + 1 := by rw [hll]; simp
              rw [← hll]
              have HLL := Lib.hid hll
              clear hll
              have hk0 : (0 : Int) ≤ (l.length : Int) := by omega
              have hkn : (l.length : Int) < (n : Int) := by omega
              have hk1 : (n : Int) - 1 = (l.length : Int) := by omega
              have hn2 : (n : Int) ≤ 16777217 := by simp at hol; omega
              have hn1 : n ≤ 16777217 := by omega
              clear hln

              have HNW : Hid (l ++ [(⟨xf, xs + sz, []⟩ : EditD)] = compactL (es.take (i + 1))) := Lib.hid (by rw [← HNW0.out, compStep_snoc]; simp [hsum])
              have hsb : (xf + xs == f) = true := by simp [hsum]
              have f1 := Hw1O.out.frozenAt (l.length * 3 + 1)
              clear hsum
              go_wp2_with fail
              go_quiet (fail)
              rename_i nq
              have Hw2B : Hid (Below w.heap.size w (w1.drewN nq)) := below_drewN Hw1B.out nq
              have Hw2O := Lib.hid (own_below Hw1O.out (below_drewN (Below.refl w1.heap.size w1) nq) (Nat.le_refl _))
              have HX2 := Lib.hid (HX1.out.below (below_drewN (Below.refl w1.heap.size w1) nq) HX1.out.lt)
              generalize w1.drewN nq = w2 at Hw2B Hw2O HX2 ⊢
              clear e0 e1 e2 d0 d1 d2 f1
              have e1 : w2.cell? ⟨eb, 1, none⟩ = some (.int .i64 sz) := HX2.out.cell 1
              obtain ⟨-, d1, -⟩ := last_cells Hw2O.out
              simp only at d1
              have f1 := Hw2O.out.frozenAt (l.length * 3 + 1)
              go_wp2_with fail
              go_region
              have hst := Hw2O.out.stored (l.length * 3 + 1) (.int .i64 (xs + sz))
              have HO5 : Hid ((w2.setCell ⟨g, l.length * 3 + 1, none⟩ (.int .i64 (xs + sz))).drew.ownsRow w.heap.size 56 3 (.slice (some ⟨g, 0, none⟩) (l ++ [(⟨xf, xs + sz, []⟩ : EditD)]).length c1) (l ++ [(⟨xf, xs + sz, []⟩ : EditD)]).length ((l ++ [(⟨xf, xs + sz, []⟩ : EditD)]).flatMap EditD.parts)) := Lib.hid (by
                have h := hst.1
                rw [last_set] at h
                have hl3 : (l ++ [(⟨xf, xs + sz, []⟩ : EditD)]).length = (l ++ [(⟨xf, xs, []⟩ : EditD)]).length := by simp
                rw [hl3]
                exact h)
              have HB5 : Hid (Below w.heap.size w (w2.setCell ⟨g, l.length * 3 + 1, none⟩ (.int .i64 (xs + sz))).drew) := Lib.hid ((Hw2B.out.setCell (p := ⟨g, l.length * 3 + 1, none⟩) (Hw2O.out.lt g rfl).1 _).drew)
              clear hst
              go_wp2
              go_roundw
              case rel => exact ⟨i + 1, some ⟨g, 0, none⟩, c1, (l ++ [(⟨xf, xs + sz, []⟩ : EditD)]), by go_num, (by rw [HLL.out]; simp), by omega, HNW, HO5, HB5⟩
              case measure => simp [intOf]; omega
            · have hsb : (xf + xs == f) = false := by simpa using hsum
              obtain ⟨g, c2, hsl, _, _⟩ := Hw1O.out.form (by simp)
              obtain ⟨rfl, rfl⟩ : A1 = some ⟨g, 0, none⟩ ∧ c1 = c2 := by injection hsl with h1 h2 h3; exact ⟨h1, h3⟩
              clear hsl
              obtain ⟨d0, d1, d2⟩ := last_cells Hw1O.out
              simp only at d0 d1 d2
              obtain ⟨n, hll⟩ : ∃ n, n = (l ++ [(⟨xf, xs, []⟩ : EditD)]).length := ⟨_, rfl⟩
              have hln : n = l.length + 1 := by rw [hll]; simp
              rw [← hll]
              have HLL := Lib.hid hll
              clear hll
              have hk0 : (0 : Int) ≤ (l.length : Int) := by omega
              have hkn : (l.length : Int) < (n : Int) := by omega
              have hk1 : (n : Int) - 1 = (l.length : Int) := by omega
              have hn2 : (n : Int) ≤ 16777217 := by simp at hol; omega
              have hn1 : n ≤ 16777217 := by omega
              clear hln

              have HNW : Hid (l ++ [(⟨xf, xs, []⟩ : EditD)] ++ [(⟨f, sz, []⟩ : EditD)] = compactL (es.take (i + 1))) := Lib.hid (by rw [← HNW0.out, compStep_snoc]; simp [hsum])
              have Hd := Lib.hid d2

              go_wp2_with fail
              go_quiet (fail)
              rename_i nq
              have Hw2B : Hid (Below w.heap.size w (w1.drewN nq)) := below_drewN Hw1B.out nq
              have Hw2O := Lib.hid (own_below Hw1O.out (below_drewN (Below.refl w1.heap.size w1) nq) (Nat.le_refl _))
              have HX2 := Lib.hid (HX1.out.below (below_drewN (Below.refl w1.heap.size w1) nq) HX1.out.lt)
              generalize w1.drewN nq = w2 at Hw2B Hw2O HX2 ⊢
              clear e0 e1 e2 d0 d1 d2 Hd
              have e0 : w2.cell? ⟨eb, 0, none⟩ = some (.int .i64 f) := HX2.out.cell 0
              have e1 : w2.cell? ⟨eb, 1, none⟩ = some (.int .i64 sz) := HX2.out.cell 1
              have e2 : w2.cell? ⟨eb, 2, none⟩ = some (.string ⟨#[]⟩) := HX2.out.cell 2

              have QC : Hid (n + 1 ≤ maxLen) := Lib.hid (by unfold maxLen; omega)
              have QD : Hid ((n + 1) * 32 ≤ 140737488355328) := Lib.hid (by omega)
              have QB := Lib.hid (edit_one ⟨f, sz, []⟩)
              have QE : Hid (w.heap.size ≤ (w2.alloc (.cells #[.int .i64 f, .int .i64 sz, .string ⟨#[]⟩] 56)).heap.size) := Lib.hid (Nat.le_trans Hw2B.out.size (by simp))
              have QN : Hid (∀ (j : Nat) (v : Value), [Value.int .i64 f, .int .i64 sz, .string ⟨#[]⟩][j]? = some v → (w2.alloc (.cells #[.int .i64 f, .int .i64 sz, .string ⟨#[]⟩] 56)).cell? ((⟨w2.heap.size, 0, none⟩ : Addr).add j) = some v) := World.news_of_block (heap_alloc_new w2 _)
              have hown := Hw2O.out.alloc (.cells #[.int .i64 f, .int .i64 sz, .string ⟨#[]⟩] 56)
              rw [← HLL.out] at hown
              go_wp2_with (at_builtin; refine wpList_append_own _ rfl _ _ 22 rfl w.heap.size 56 i0 (.agg #[.int .i64 0, .int .i64 0, .string ByteArray.empty]) 3 32 Tryd.underlying22 hi0 hz0 hz1 hz2 rfl (by decide) _ _ _ rfl hown ⟨w2.heap.size, 0, none⟩ 1 1 [.int .i64 f, .int .i64 sz, .string ⟨#[]⟩] rfl rfl QN.out QB.out QC.out QD.out QE.out ?_)
              intro v' w5 hown' hgrow _
              obtain ⟨A5, c5, rfl⟩ := own_shape hown'
              have HB5 := Lib.hid ((Hw2B.out.alloc Hw2B.out.size (.cells #[.int .i64 f, .int .i64 sz, .string ⟨#[]⟩] 56)).grown hgrow (by have := Hw2B.out.size; simp; omega) (fun g hg => (Hw2O.out.lt g hg).1))
              have HO5 : Hid (w5.ownsRow w.heap.size 56 3 (.slice A5 ((l ++ [(⟨xf, xs, []⟩ : EditD)]) ++ [(⟨f, sz, []⟩ : EditD)]).length c5) ((l ++ [(⟨xf, xs, []⟩ : EditD)]) ++ [(⟨f, sz, []⟩ : EditD)]).length (((l ++ [(⟨xf, xs, []⟩ : EditD)]) ++ [(⟨f, sz, []⟩ : EditD)]).flatMap EditD.parts)) := Lib.hid (by
                have hl3 : (l ++ [(⟨xf, xs, []⟩ : EditD)] ++ [(⟨f, sz, []⟩ : EditD)]).length = n + 1 := by rw [List.length_append, ← HLL.out]; rfl
                rw [hl3]
                first | exact hown' | simpa [List.flatMap_append, EditD.parts] using hown')
              clear hown hown' hgrow QB QC QD QE QN
              go_wp2
              go_roundw
              case rel => exact ⟨i + 1, A5, c5, (l ++ [(⟨xf, xs, []⟩ : EditD)]) ++ [(⟨f, sz, []⟩ : EditD)], by go_num, (by rw [List.length_append, ← HLL.out]; rfl), by omega, HNW, HO5, HB5⟩
              case measure => simp [intOf]; omega
          | cons z zt =>
            obtain ⟨g, c2, hsl, _, _⟩ := Hw1O.out.form (by simp)
            obtain ⟨rfl, rfl⟩ : A1 = some ⟨g, 0, none⟩ ∧ c1 = c2 := by injection hsl with h1 h2 h3; exact ⟨h1, h3⟩
            clear hsl
            obtain ⟨d0, d1, d2⟩ := last_cells Hw1O.out
            simp only at d0 d1 d2
            obtain ⟨n, hll⟩ : ∃ n, n = (l ++ [(⟨xf, xs, (z :: zt)⟩ : EditD)]).length := ⟨_, rfl⟩
            have hln : n = l.length + 1 := by rw [hll]; simp
            rw [← hll]
            have HLL := Lib.hid hll
            clear hll
            have hk0 : (0 : Int) ≤ (l.length : Int) := by omega
            have hkn : (l.length : Int) < (n : Int) := by omega
            have hk1 : (n : Int) - 1 = (l.length : Int) := by omega
            have hn2 : (n : Int) ≤ 16777217 := by simp at hol; omega
            have hn1 : n ≤ 16777217 := by omega
            clear hln

            have HNW : Hid (l ++ [(⟨xf, xs, (z :: zt)⟩ : EditD)] ++ [(⟨f, sz, []⟩ : EditD)] = compactL (es.take (i + 1))) := Lib.hid (by rw [← HNW0.out, compStep_snoc]; simp)
            have Hd := Lib.hid d2

            go_wp2_with fail
            go_quiet (fail)
            rename_i nq
            have Hw2B : Hid (Below w.heap.size w (w1.drewN nq)) := below_drewN Hw1B.out nq
            have Hw2O := Lib.hid (own_below Hw1O.out (below_drewN (Below.refl w1.heap.size w1) nq) (Nat.le_refl _))
            have HX2 := Lib.hid (HX1.out.below (below_drewN (Below.refl w1.heap.size w1) nq) HX1.out.lt)
            generalize w1.drewN nq = w2 at Hw2B Hw2O HX2 ⊢
            clear e0 e1 e2 d0 d1 d2 Hd
            have e0 : w2.cell? ⟨eb, 0, none⟩ = some (.int .i64 f) := HX2.out.cell 0
            have e1 : w2.cell? ⟨eb, 1, none⟩ = some (.int .i64 sz) := HX2.out.cell 1
            have e2 : w2.cell? ⟨eb, 2, none⟩ = some (.string ⟨#[]⟩) := HX2.out.cell 2

            have QC : Hid (n + 1 ≤ maxLen) := Lib.hid (by unfold maxLen; omega)
            have QD : Hid ((n + 1) * 32 ≤ 140737488355328) := Lib.hid (by omega)
            have QB := Lib.hid (edit_one ⟨f, sz, []⟩)
            have QE : Hid (w.heap.size ≤ (w2.alloc (.cells #[.int .i64 f, .int .i64 sz, .string ⟨#[]⟩] 56)).heap.size) := Lib.hid (Nat.le_trans Hw2B.out.size (by simp))
            have QN : Hid (∀ (j : Nat) (v : Value), [Value.int .i64 f, .int .i64 sz, .string ⟨#[]⟩][j]? = some v → (w2.alloc (.cells #[.int .i64 f, .int .i64 sz, .string ⟨#[]⟩] 56)).cell? ((⟨w2.heap.size, 0, none⟩ : Addr).add j) = some v) := World.news_of_block (heap_alloc_new w2 _)
            have hown := Hw2O.out.alloc (.cells #[.int .i64 f, .int .i64 sz, .string ⟨#[]⟩] 56)
            rw [← HLL.out] at hown
            go_wp2_with (at_builtin; refine wpList_append_own _ rfl _ _ 22 rfl w.heap.size 56 i0 (.agg #[.int .i64 0, .int .i64 0, .string ByteArray.empty]) 3 32 Tryd.underlying22 hi0 hz0 hz1 hz2 rfl (by decide) _ _ _ rfl hown ⟨w2.heap.size, 0, none⟩ 1 1 [.int .i64 f, .int .i64 sz, .string ⟨#[]⟩] rfl rfl QN.out QB.out QC.out QD.out QE.out ?_)
            intro v' w5 hown' hgrow _
            obtain ⟨A5, c5, rfl⟩ := own_shape hown'
            have HB5 := Lib.hid ((Hw2B.out.alloc Hw2B.out.size (.cells #[.int .i64 f, .int .i64 sz, .string ⟨#[]⟩] 56)).grown hgrow (by have := Hw2B.out.size; simp; omega) (fun g hg => (Hw2O.out.lt g hg).1))
            have HO5 : Hid (w5.ownsRow w.heap.size 56 3 (.slice A5 ((l ++ [(⟨xf, xs, (z :: zt)⟩ : EditD)]) ++ [(⟨f, sz, []⟩ : EditD)]).length c5) ((l ++ [(⟨xf, xs, (z :: zt)⟩ : EditD)]) ++ [(⟨f, sz, []⟩ : EditD)]).length (((l ++ [(⟨xf, xs, (z :: zt)⟩ : EditD)]) ++ [(⟨f, sz, []⟩ : EditD)]).flatMap EditD.parts)) := Lib.hid (by
              have hl3 : (l ++ [(⟨xf, xs, (z :: zt)⟩ : EditD)] ++ [(⟨f, sz, []⟩ : EditD)]).length = n + 1 := by rw [List.length_append, ← HLL.out]; rfl
              rw [hl3]
              first | exact hown' | simpa [List.flatMap_append, EditD.parts] using hown')
            clear hown hown' hgrow QB QC QD QE QN
            go_wp2
            go_roundw
            case rel => exact ⟨i + 1, A5, c5, (l ++ [(⟨xf, xs, (z :: zt)⟩ : EditD)]) ++ [(⟨f, sz, []⟩ : EditD)], by go_num, (by rw [List.length_append, ← HLL.out]; rfl), by omega, HNW, HO5, HB5⟩
            case measure => simp [intOf]; omega
        | cons y t =>
          cases xt with
          | nil =>
            obtain ⟨g, c2, hsl, _, _⟩ := Hw1O.out.form (by simp)
            obtain ⟨rfl, rfl⟩ : A1 = some ⟨g, 0, none⟩ ∧ c1 = c2 := by injection hsl with h1 h2 h3; exact ⟨h1, h3⟩
            clear hsl
            obtain ⟨d0, d1, d2⟩ := last_cells Hw1O.out
            simp only at d0 d1 d2
            obtain ⟨n, hll⟩ : ∃ n, n = (l ++ [(⟨xf, xs, []⟩ : EditD)]).length := ⟨_, rfl⟩
            have hln : n = l.length + 1 := by rw [hll]; simp
            rw [← hll]
            have HLL := Lib.hid hll
            clear hll
            have hk0 : (0 : Int) ≤ (l.length : Int) := by omega
            have hkn : (l.length : Int) < (n : Int) := by omega
            have hk1 : (n : Int) - 1 = (l.length : Int) := by omega
            have hn2 : (n : Int) ≤ 16777217 := by simp at hol; omega
            have hn1 : n ≤ 16777217 := by omega
            clear hln

            have HNW : Hid (l ++ [(⟨xf, xs, []⟩ : EditD)] ++ [(⟨f, sz, (y :: t)⟩ : EditD)] = compactL (es.take (i + 1))) := Lib.hid (by rw [← HNW0.out, compStep_snoc]; simp)
            have Hd := Lib.hid d2

            go_wp2_with fail
            go_quiet (fail)
            rename_i nq
            have Hw2B : Hid (Below w.heap.size w (w1.drewN nq)) := below_drewN Hw1B.out nq
            have Hw2O := Lib.hid (own_below Hw1O.out (below_drewN (Below.refl w1.heap.size w1) nq) (Nat.le_refl _))
            have HX2 := Lib.hid (HX1.out.below (below_drewN (Below.refl w1.heap.size w1) nq) HX1.out.lt)
            generalize w1.drewN nq = w2 at Hw2B Hw2O HX2 ⊢
            clear e0 e1 e2 d0 d1 d2 Hd
            have e0 : w2.cell? ⟨eb, 0, none⟩ = some (.int .i64 f) := HX2.out.cell 0
            have e1 : w2.cell? ⟨eb, 1, none⟩ = some (.int .i64 sz) := HX2.out.cell 1
            have e2 : w2.cell? ⟨eb, 2, none⟩ = some (.string ⟨(y :: t).toArray⟩) := HX2.out.cell 2

            have QC : Hid (n + 1 ≤ maxLen) := Lib.hid (by unfold maxLen; omega)
            have QD : Hid ((n + 1) * 32 ≤ 140737488355328) := Lib.hid (by omega)
            have QB := Lib.hid (edit_one ⟨f, sz, (y :: t)⟩)
            have QE : Hid (w.heap.size ≤ (w2.alloc (.cells #[.int .i64 f, .int .i64 sz, .string ⟨(y :: t).toArray⟩] 56)).heap.size) := Lib.hid (Nat.le_trans Hw2B.out.size (by simp))
            have QN : Hid (∀ (j : Nat) (v : Value), [Value.int .i64 f, .int .i64 sz, .string ⟨(y :: t).toArray⟩][j]? = some v → (w2.alloc (.cells #[.int .i64 f, .int .i64 sz, .string ⟨(y :: t).toArray⟩] 56)).cell? ((⟨w2.heap.size, 0, none⟩ : Addr).add j) = some v) := World.news_of_block (heap_alloc_new w2 _)
            have hown := Hw2O.out.alloc (.cells #[.int .i64 f, .int .i64 sz, .string ⟨(y :: t).toArray⟩] 56)
            rw [← HLL.out] at hown
            go_wp2_with (at_builtin; refine wpList_append_own _ rfl _ _ 22 rfl w.heap.size 56 i0 (.agg #[.int .i64 0, .int .i64 0, .string ByteArray.empty]) 3 32 Tryd.underlying22 hi0 hz0 hz1 hz2 rfl (by decide) _ _ _ rfl hown ⟨w2.heap.size, 0, none⟩ 1 1 [.int .i64 f, .int .i64 sz, .string ⟨(y :: t).toArray⟩] rfl rfl QN.out QB.out QC.out QD.out QE.out ?_)
            intro v' w5 hown' hgrow _
            obtain ⟨A5, c5, rfl⟩ := own_shape hown'
            have HB5 := Lib.hid ((Hw2B.out.alloc Hw2B.out.size (.cells #[.int .i64 f, .int .i64 sz, .string ⟨(y :: t).toArray⟩] 56)).grown hgrow (by have := Hw2B.out.size; simp; omega) (fun g hg => (Hw2O.out.lt g hg).1))
            have HO5 : Hid (w5.ownsRow w.heap.size 56 3 (.slice A5 ((l ++ [(⟨xf, xs, []⟩ : EditD)]) ++ [(⟨f, sz, (y :: t)⟩ : EditD)]).length c5) ((l ++ [(⟨xf, xs, []⟩ : EditD)]) ++ [(⟨f, sz, (y :: t)⟩ : EditD)]).length (((l ++ [(⟨xf, xs, []⟩ : EditD)]) ++ [(⟨f, sz, (y :: t)⟩ : EditD)]).flatMap EditD.parts)) := Lib.hid (by
              have hl3 : (l ++ [(⟨xf, xs, []⟩ : EditD)] ++ [(⟨f, sz, (y :: t)⟩ : EditD)]).length = n + 1 := by rw [List.length_append, ← HLL.out]; rfl
              rw [hl3]
              first | exact hown' | simpa [List.flatMap_append, EditD.parts] using hown')
            clear hown hown' hgrow QB QC QD QE QN
            go_wp2
            go_roundw
            case rel => exact ⟨i + 1, A5, c5, (l ++ [(⟨xf, xs, []⟩ : EditD)]) ++ [(⟨f, sz, (y :: t)⟩ : EditD)], by go_num, (by rw [List.length_append, ← HLL.out]; rfl), by omega, HNW, HO5, HB5⟩
            case measure => simp [intOf]; omega
          | cons z zt =>
            obtain ⟨g, c2, hsl, _, _⟩ := Hw1O.out.form (by simp)
            obtain ⟨rfl, rfl⟩ : A1 = some ⟨g, 0, none⟩ ∧ c1 = c2 := by injection hsl with h1 h2 h3; exact ⟨h1, h3⟩
            clear hsl
            obtain ⟨d0, d1, d2⟩ := last_cells Hw1O.out
            simp only at d0 d1 d2
            obtain ⟨n, hll⟩ : ∃ n, n = (l ++ [(⟨xf, xs, (z :: zt)⟩ : EditD)]).length := ⟨_, rfl⟩
            have hln : n = l.length + 1 := by rw [hll]; simp
            rw [← hll]
            have HLL := Lib.hid hll
            clear hll
            have hk0 : (0 : Int) ≤ (l.length : Int) := by omega
            have hkn : (l.length : Int) < (n : Int) := by omega
            have hk1 : (n : Int) - 1 = (l.length : Int) := by omega
            have hn2 : (n : Int) ≤ 16777217 := by simp at hol; omega
            have hn1 : n ≤ 16777217 := by omega
            clear hln

            have HNW : Hid (l ++ [(⟨xf, xs, (z :: zt) ++ (y :: t)⟩ : EditD)] = compactL (es.take (i + 1))) := Lib.hid (by rw [← HNW0.out, compStep_snoc]; rfl)
            have hadd := fun w' => str_add (z :: zt) (y :: t) (w := w') (by have := (HIN.out ⟨xf, xs, z :: zt⟩ (by simp)).text; simp only at this; omega)
            have f2 := Hw1O.out.frozenAt (l.length * 3 + 2)
            go_wp2_with fail
            go_region
            have hst := Hw1O.out.stored (l.length * 3 + 2) (.string ⟨((z :: zt) ++ (y :: t)).toArray⟩)
            have HO5 : Hid ((w1.setCell ⟨g, l.length * 3 + 2, none⟩ (.string ⟨((z :: zt) ++ (y :: t)).toArray⟩)).drew.ownsRow w.heap.size 56 3 (.slice (some ⟨g, 0, none⟩) (l ++ [(⟨xf, xs, (z :: zt) ++ (y :: t)⟩ : EditD)]).length c1) (l ++ [(⟨xf, xs, (z :: zt) ++ (y :: t)⟩ : EditD)]).length ((l ++ [(⟨xf, xs, (z :: zt) ++ (y :: t)⟩ : EditD)]).flatMap EditD.parts)) := Lib.hid (by
              have h := hst.1
              rw [last_set2] at h
              have hl3 : (l ++ [(⟨xf, xs, (z :: zt) ++ (y :: t)⟩ : EditD)]).length = (l ++ [(⟨xf, xs, z :: zt⟩ : EditD)]).length := by simp
              rw [hl3]
              exact h)
            have HB5 : Hid (Below w.heap.size w (w1.setCell ⟨g, l.length * 3 + 2, none⟩ (.string ⟨((z :: zt) ++ (y :: t)).toArray⟩)).drew) := Lib.hid ((Hw1B.out.setCell (p := ⟨g, l.length * 3 + 2, none⟩) (Hw1O.out.lt g rfl).1 _).drew)
            clear hst
            go_wp2
            go_roundw
            case rel => exact ⟨i + 1, some ⟨g, 0, none⟩, c1, (l ++ [(⟨xf, xs, (z :: zt) ++ (y :: t)⟩ : EditD)]), by go_num, (by rw [HLL.out]; simp), by omega, HNW, HO5, HB5⟩
            case measure => simp [intOf]; omega
    · obtain rfl : i = es.length := by omega
      rw [List.take_length, HCL.out] at HO
      have HO' := HO.out
      obtain rfl : CL = out := HO'.symm
      go_wp2
      go_ret
      exact ⟨A1, c1, rfl, HOW.out, HB.out⟩

end Go.Proofs.YtefgajipakjpeaaDoor
