/-
  WireWrites: for every Value of at most 400 bytes and elements, Num, Int, Text, Nums and Texts return the encodings of the reference; for every other one the small examples hold. No condition.
-/
import Derived.Test.YtcamfdmmcbimfaaOpen
namespace Go.Proofs.Ytcamfdmmcbimfaa.wireWrites
open Go.ChangeShapes Go.WideShapes Go.ChangeAt Go.RowKit

theorem own : ownKnob Try.prog.godebug = none := by kernel_rfl
theorem laidOut : laidOutB Try.prog = true := by kernel_rfl

/-- What 'few' says of one value. -/
theorem few_one {v : Val} (h : fewB [v] = true) : v.l.length ≤ 400 ∧ v.t.length ≤ 400 ∧ v.s.length ≤ 400 ∧ ∀ x ∈ v.t, x.length ≤ 400 := by
  simp only [fewB, valsOk, tooLong, textsOk, List.all_cons, List.all_nil, Bool.and_true, Bool.and_eq_true, Bool.not_eq_true', Bool.or_eq_false_iff, decide_eq_false_iff_not, decide_eq_true_eq, List.all_eq_true] at h
  obtain ⟨⟨_, ⟨⟨h1, h2⟩, h3⟩, h4⟩, _⟩ := h
  exact ⟨by omega, by omega, by omega, h4⟩

/-- What the two regions read: the number, the string and the slices in the box, while no memory that was there turns. -/
theorem keepS {N : Nat} {a b c d : Value} {w0 w1 w2 : World} (h : w1.cell? ⟨N, 1, none⟩ = some a ∧ w1.cell? ⟨N, 2, none⟩ = some b ∧ w1.cell? ⟨N, 3, none⟩ = some c ∧ w1.cell? ⟨N, 4, none⟩ = some d ∧ Below w0.heap.size w0 w1) (hN : N < w0.heap.size) (hb : Below w1.heap.size w1 w2) :
    w2.cell? ⟨N, 1, none⟩ = some a ∧ w2.cell? ⟨N, 2, none⟩ = some b ∧ w2.cell? ⟨N, 3, none⟩ = some c ∧ w2.cell? ⟨N, 4, none⟩ = some d ∧ Below w0.heap.size w0 w2 := by
  obtain ⟨h1, h2, h3, h4, h5⟩ := h
  have hlt : N < w1.heap.size := Nat.lt_of_lt_of_le hN h5.size
  have hc : ∀ o, w2.cell? ⟨N, o, none⟩ = w1.cell? ⟨N, o, none⟩ := fun o => hb.cell (p := ⟨N, o, none⟩) hlt
  exact ⟨(hc 1).trans h1, (hc 2).trans h2, (hc 3).trans h3, (hc 4).trans h4, h5.trans (hb.mono h5.size)⟩

theorem bel {N : Nat} {a b c d : Value} {w0 w1 : World} (h : w1.cell? ⟨N, 1, none⟩ = some a ∧ w1.cell? ⟨N, 2, none⟩ = some b ∧ w1.cell? ⟨N, 3, none⟩ = some c ∧ w1.cell? ⟨N, 4, none⟩ = some d ∧ Below w0.heap.size w0 w1) : Below w0.heap.size w0 w1 := h.2.2.2.2

/-- A call of one argument that returns a string and makes memory alone. -/
def Str (f : FuncId) (a : Value) (l : List UInt8) (w : World) : Prop := Calls Try.prog f #[a] w fun e w' => e = .returned (.string ⟨l.toArray⟩) ∧ Below w.heap.size w w'

set_option maxHeartbeats 8000000 in
set_option maxRecDepth 100000 in
theorem walk (a : Value) (w : World) (ha : ∃ v : Val, a = .agg v.parts.toArray ∧ v.Ok w w.heap.size) :
    Calls Try.prog 3 #[a] w fun e w' => e = .returned (.bool true) ∧ Below w.heap.size w w' := by
  obtain ⟨v, rfl, hok⟩ := ha
  have HO := Lib.hid hok
  clear hok
  have HBX := Lib.hid (Blk.new w 25 v.parts.toArray)
  have HB0 : Below w.heap.size w (w.alloc (.cells v.parts.toArray 25)) := (Below.refl _ _).alloc (Nat.le_refl _) _
  simp only [Val.parts] at HB0 HBX ⊢
  go_enter Try.func3, Try.ntmps3
  go_wp2_with fail
  refine (small_any _).mono ?_
  rintro e w1 ⟨rfl, hb1⟩
  have hbx : Blk w1 w.heap.size 25 _ := HBX.out.below hb1 (by simp)
  have hb01 : Below w.heap.size w w1 := HB0.trans (hb1.mono (by simp))
  have hlt1 : w.heap.size < w1.heap.size := hbx.lt
  have c0 : w1.cell? ⟨w.heap.size, 0, none⟩ = some (.int .i64 v.kind) := hbx.cell 0
  have c1 : w1.cell? ⟨w.heap.size, 1, none⟩ = some (.int .i64 v.n) := hbx.cell 1
  have c2 : w1.cell? ⟨w.heap.size, 2, none⟩ = some (.string ⟨v.s.toArray⟩) := hbx.cell 2
  have c3 : w1.cell? ⟨w.heap.size, 3, none⟩ = some (.slice v.la v.l.length v.lc) := hbx.cell 3
  have c4 : w1.cell? ⟨w.heap.size, 4, none⟩ = some (.slice v.ta v.t.length v.tc) := hbx.cell 4
  have HBX1 := Lib.hid hbx
  clear hb1 HB0 HBX hbx
  have hblk2 := Blk.new w1 25 v.parts.toArray
  have hvals : ValsAt (w1.alloc (.cells v.parts.toArray 25)) (w1.alloc (.cells v.parts.toArray 25)).heap.size (some ⟨w1.heap.size, 0, none⟩) [v] := by
    refine ⟨⟨rfl, fun _ => ⟨_, rfl, hblk2.lt, fun j u hu => ?_⟩⟩, fun x hx => ?_⟩
    · have e : (⟨w1.heap.size, 0, none⟩ : Addr).add j = ⟨w1.heap.size, j, none⟩ := by unfold Addr.add; split <;> simp_all
      rw [e, hblk2.cell]
      simpa using hu
    · obtain rfl : x = v := by simpa using hx
      exact ((HO.out.below (hb01.alloc hb01.size _)).more (by have := hb01.size; simp; omega))
  have hfew := few_any _ 1 _ [v] _ hvals (Nat.le_refl _) (by simp)
  simp only [Val.parts] at hfew
  have HFEW := Lib.hid hfew
  clear hfew hvals hblk2
  have hb01' : Below w.heap.size w (w1.alloc (.cells v.parts.toArray 25)) := hb01.alloc hb01.size _
  simp only [Val.parts] at hb01'
  go_wp2_with fail
  refine (HFEW.out).mono ?_
  rintro e w2 ⟨rfl, hb2⟩
  have hb02 : Below w.heap.size w w2 := hb01'.trans (hb2.mono hb01'.size)
  have hlt2 : w.heap.size < w2.heap.size := Nat.lt_of_lt_of_le hlt1 (Nat.le_trans (by simp) hb2.size)
  have hk : ∀ o, w2.cell? ⟨w.heap.size, o, none⟩ = w1.cell? ⟨w.heap.size, o, none⟩ := fun o => (hb2.cell (p := ⟨w.heap.size, o, none⟩) (by simp; omega)).trans (World.cell?_alloc_lt _ _ _ hlt1)
  have d1 := (hk 1).trans c1
  have d2 := (hk 2).trans c2
  have d3 := (hk 3).trans c3
  have d4 := (hk 4).trans c4
  have HBT := Lib.hid hb02
  clear hk c0 c1 c2 c3 c4 hb01 hb01' hb2 HFEW HBX1 hb02
  by_cases hfb : fewB [v] = true
  · obtain ⟨hl4, ht4, hs4, hti⟩ := few_one hfb
    have kN : ∀ f, f = 11 ∨ f = 12 → ∀ w', Str f (.int .i64 v.n) (wNum v.n) w' := by
      rintro f (rfl | rfl) w'
      · exact Num_any v.n HO.out.n w'
      · exact refNum_any v.n HO.out.n w'
    have kI : ∀ f, f = 13 ∨ f = 14 → ∀ w', Str f (.int .i64 v.n) (wInt v.n) w' := by
      rintro f (rfl | rfl) w'
      · exact Int_any v.n HO.out.n w'
      · exact refInt_any v.n HO.out.n w'
    have kT : ∀ f, f = 15 ∨ f = 16 → ∀ w', Str f (.string ⟨v.s.toArray⟩) (wText v.s) w' := by
      rintro f (rfl | rfl) w'
      · exact Text_any v.s (by omega) w'
      · exact refText_any v.s (by omega) w'
    have kL : ∀ f, f = 17 ∨ f = 18 → ∀ w', Below w2.heap.size w2 w' → Str f (.slice v.la v.l.length v.lc) (wNums v.l) w' := by
      rintro f (rfl | rfl) w' hb
      · exact Nums_any v.la v.lc w.heap.size v.l w' (HO.out.l.below (HBT.out.trans (hb.mono HBT.out.size))) (Nat.le_trans HBT.out.size hb.size) HO.out.li (by omega)
      · exact refNums_any v.la v.lc w.heap.size v.l w' (HO.out.l.below (HBT.out.trans (hb.mono HBT.out.size))) (Nat.le_trans HBT.out.size hb.size) HO.out.li (by omega)
    have kX : ∀ f, f = 19 ∨ f = 20 → ∀ w', Below w2.heap.size w2 w' → Str f (.slice v.ta v.t.length v.tc) (wTexts v.t) w' := by
      rintro f (rfl | rfl) w' hb
      · exact Texts_any v.ta v.tc w.heap.size v.t w' (HO.out.t.below (HBT.out.trans (hb.mono HBT.out.size))) (Nat.le_trans HBT.out.size hb.size) (fun x hx => Nat.le_trans (hti x hx) (by omega)) (by omega)
      · exact refTexts_any v.ta v.tc w.heap.size v.t w' (HO.out.t.below (HBT.out.trans (hb.mono HBT.out.size))) (Nat.le_trans HBT.out.size hb.size) (fun x hx => Nat.le_trans (hti x hx) (by omega)) (by omega)
    have HkN := Lib.hid kN
    have HkI := Lib.hid kI
    have HkT := Lib.hid kT
    have HkL := Lib.hid kL
    have HkX := Lib.hid kX
    have HS0 := Lib.hid (show w2.drew.cell? ⟨w.heap.size, 1, none⟩ = some (.int .i64 v.n) ∧ w2.drew.cell? ⟨w.heap.size, 2, none⟩ = some (.string ⟨v.s.toArray⟩) ∧ w2.drew.cell? ⟨w.heap.size, 3, none⟩ = some (.slice v.la v.l.length v.lc) ∧ w2.drew.cell? ⟨w.heap.size, 4, none⟩ = some (.slice v.ta v.t.length v.tc) ∧ Below w2.heap.size w2 w2.drew from ⟨d1, d2, d3, d4, (Below.refl _ _).drew⟩)
    clear kN kI kT kL kX hti hl4 ht4 hs4 d1 d2 d3 d4
    go_wp2_with fail
    go_region_held3 (fun w' => w'.cell? ⟨w.heap.size, 1, none⟩ = some (.int .i64 v.n) ∧ w'.cell? ⟨w.heap.size, 2, none⟩ = some (.string ⟨v.s.toArray⟩) ∧ w'.cell? ⟨w.heap.size, 3, none⟩ = some (.slice v.la v.l.length v.lc) ∧ w'.cell? ⟨w.heap.size, 4, none⟩ = some (.slice v.ta v.t.length v.tc) ∧ Below w2.heap.size w2 w') (first | exact hS1 | exact HS0.out)
      (first
        | (go_at_call 11; refine Calls.mono (HkN.out 11 (.inl rfl) _) ?_; rintro e w' ⟨rfl, hb⟩; have hS1 := keepS (by assumption) hlt2 hb)
        | (go_at_call 12; refine Calls.mono (HkN.out 12 (.inr rfl) _) ?_; rintro e w' ⟨rfl, hb⟩; have hS1 := keepS (by assumption) hlt2 hb)
        | (go_at_call 13; refine Calls.mono (HkI.out 13 (.inl rfl) _) ?_; rintro e w' ⟨rfl, hb⟩; have hS1 := keepS (by assumption) hlt2 hb)
        | (go_at_call 14; refine Calls.mono (HkI.out 14 (.inr rfl) _) ?_; rintro e w' ⟨rfl, hb⟩; have hS1 := keepS (by assumption) hlt2 hb)
        | (go_at_call 15; refine Calls.mono (HkT.out 15 (.inl rfl) _) ?_; rintro e w' ⟨rfl, hb⟩; have hS1 := keepS (by assumption) hlt2 hb)
        | (go_at_call 16; refine Calls.mono (HkT.out 16 (.inr rfl) _) ?_; rintro e w' ⟨rfl, hb⟩; have hS1 := keepS (by assumption) hlt2 hb))
    have HS1 := Lib.hid (show w'.drew.cell? ⟨w.heap.size, 1, none⟩ = some (.int .i64 v.n) ∧ w'.drew.cell? ⟨w.heap.size, 2, none⟩ = some (.string ⟨v.s.toArray⟩) ∧ w'.drew.cell? ⟨w.heap.size, 3, none⟩ = some (.slice v.la v.l.length v.lc) ∧ w'.drew.cell? ⟨w.heap.size, 4, none⟩ = some (.slice v.ta v.t.length v.tc) ∧ Below w2.heap.size w2 w'.drew from ⟨hS1.1, hS1.2.1, hS1.2.2.1, hS1.2.2.2.1, hS1.2.2.2.2.drew⟩)
    go_wp2_with fail
    go_region_held3 (fun w' => w'.cell? ⟨w.heap.size, 1, none⟩ = some (.int .i64 v.n) ∧ w'.cell? ⟨w.heap.size, 2, none⟩ = some (.string ⟨v.s.toArray⟩) ∧ w'.cell? ⟨w.heap.size, 3, none⟩ = some (.slice v.la v.l.length v.lc) ∧ w'.cell? ⟨w.heap.size, 4, none⟩ = some (.slice v.ta v.t.length v.tc) ∧ Below w2.heap.size w2 w') (first | exact hS2 | exact HS1.out)
      (first
        | (go_at_call 17; refine Calls.mono (HkL.out 17 (.inl rfl) _ (bel (by assumption))) ?_; rintro e w' ⟨rfl, hb⟩; have hS2 := keepS (by assumption) hlt2 hb)
        | (go_at_call 18; refine Calls.mono (HkL.out 18 (.inr rfl) _ (bel (by assumption))) ?_; rintro e w' ⟨rfl, hb⟩; have hS2 := keepS (by assumption) hlt2 hb)
        | (go_at_call 19; refine Calls.mono (HkX.out 19 (.inl rfl) _ (bel (by assumption))) ?_; rintro e w' ⟨rfl, hb⟩; have hS2 := keepS (by assumption) hlt2 hb)
        | (go_at_call 20; refine Calls.mono (HkX.out 20 (.inr rfl) _ (bel (by assumption))) ?_; rintro e w' ⟨rfl, hb⟩; have hS2 := keepS (by assumption) hlt2 hb))
    go_wp2
    go_ret
    exact ⟨rfl, HBT.out.trans (hS2.2.2.2.2.mono HBT.out.size)⟩
  · have hff : fewB [v] = false := by simpa using hfb
    rw [hff]
    go_wp2
    go_ret
    exact ⟨rfl, HBT.out⟩

set_option maxRecDepth 100000 in
theorem lifted (os : Os) (started : os.Started) (H : Type) (enc : TypeId × Value → H) :
    ReturnsInHanded {} Try.checked os 3 .any (Rows.wireWritesSpec.pre6 enc Try.prog Try.f3 Rows.wireWritesRow.domain false) (Rows.wireWritesSpec.post enc Try.prog Try.f3 false true false false) := by
  refine returnsInHanded_of_change (C := Try.checked) own started (by kernel_rfl) Try.func3
    (ChangeSpec.witness6 (enc := enc) (C := Try.checked) false ⟨#[], #[.agg #[.int .i64 0, .int .i64 0, .string ByteArray.empty, .slice none 0 0, .slice none 0 0]], []⟩ 8 (by kernel_rfl) (by kernel_rfl) (by kernel_rfl) (by kernel_rfl)) ?_
  intro W base args ds gs before hval0 hW hcnd _
  have hval : ∀ (j : Nat) t v, Try.f3.params[j]? = some t → args[j]? = some v → Value.okWide Try.prog W .any base t v := hval0
  have hW' := hW
  obtain ⟨p, q, hA0, hV, rfl, hfz, hnd⟩ := hW
  have hA : DataW.TrodAll enc Try.prog W 0 (fun _ => true) true Try.f3.params.toList args.toList ds p := hA0
  rw [Try.params3] at hA hval
  obtain ⟨v0, vs0, d0, ds0, p0, q0, hargs, rfl, rfl, h0, r0⟩ := trodAll_cons hA
  obtain ⟨rfl, rfl, rfl⟩ := trodAll_nil r0
  obtain rfl : args = #[v0] := by cases args; simp_all
  obtain ⟨rfl, rfl⟩ := trodVars_none hV
  have k0 := h0
  have lt0 : ∀ x ∈ p0, x.block < W.heap.size := by obtain ⟨m, hm⟩ := k0; exact DataW.trod_lt m _ _ _ hm
  have o0 := openVal (hval 0 25 v0 rfl rfl) h0
  clear hA0 hval0
  refine (walk v0 W o0).mono fun e W' ⟨he, bel⟩ => ?_
  subst he
  exact ⟨_, rfl, _, _, _, [], _, [], hW', trodAll_mk1 (shut_bool Try.underlying4 _), (trodAll_cons_mk (Below.trod laidOut (by kernel_rfl) (of_decide_eq_true (by kernel_rfl)) k0 bel lt0) trodAll_mk0), rfl, bel.frame _, fun h => by cases h⟩

theorem over : Rows.wireWritesRow.holds Try.pinned (OpenSpec.ofChange Rows.wireWritesSpec) :=
  OpenClaim.holds_of_wide 3 Try.f3 rfl rfl rfl rfl rfl rfl rfl ⟨rfl, rfl, rfl, rfl, rfl⟩ rfl rfl rfl rfl rfl (by kernel_rfl) Try.func3 (by kernel_rfl)
    (of_decide_eq_true (by kernel_rfl)) (by unfold Func.isWrapper; first | (rw [if_pos (by decide +kernel)]; kernel_rfl) | (rw [if_neg (by decide +kernel)]; exact ⟨rfl, rfl⟩))
    (fun os started H enc _ => lifted os started H enc)

/-- The statement. -/
theorem proved : Rows.WireWritesSaid := over
#print axioms proved
end Go.Proofs.Ytcamfdmmcbimfaa.wireWrites
