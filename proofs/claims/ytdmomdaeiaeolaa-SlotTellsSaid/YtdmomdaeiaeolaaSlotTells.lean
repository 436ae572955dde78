/-
  SlotTells: for all units of at most 10 imports and nodes with at most 20 refs each, and layouts of at most 20 slots, Need and Keep return what the reference returns; for all other inputs the small example holds. No condition.
-/
import Derived.Test.YtdmomdaeiaeolaaRefKeep
namespace Go.Proofs.Ytdmomdaeiaeolaa.slotTells
open Go.ChangeShapes Go.WideShapes Go.ChangeAt Go.RowKit

theorem own : ownKnob Try.prog.godebug = none := by kernel_rfl

theorem few_imps {u : UnitD} (h : fewB u = true) : u.imps.length ≤ 10 := by
  simp only [fewB, Bool.and_eq_true, decide_eq_true_eq] at h
  exact h.1.1

/-- The three boxes stand. -/
structure Boxes (N : Nat) (old : UnitD) (l : LayD) (u : UnitD) (w0 w : World) : Prop where
  b0 : Blk w N 32 old.parts.toArray
  b1 : Blk w (N + 1) 36 l.parts.toArray
  b2 : Blk w (N + 1 + 1) 32 u.parts.toArray
  bel : Below N w0 w
theorem Boxes.below {N : Nat} {old : UnitD} {l : LayD} {u : UnitD} {w0 w w' : World} (h : Boxes N old l u w0 w) (hb : Below w.heap.size w w') : Boxes N old l u w0 w' :=
  ⟨h.b0.below hb h.b0.lt, h.b1.below hb h.b1.lt, h.b2.below hb h.b2.lt, h.bel.trans (hb.mono (Nat.le_of_lt h.b0.lt))⟩

theorem boxesS {old : UnitD} {l : LayD} {u : UnitD} {w w0 w' : World} (h : Boxes w.heap.size old l u w0 w') : w'.cell? ⟨w.heap.size, 0, none⟩ = some (.string old.u0) ∧ w'.cell? ⟨w.heap.size, 1, none⟩ = some (.bool old.u1) ∧ w'.cell? ⟨w.heap.size, 2, none⟩ = some (.slice old.nA old.nodes.length old.nc) ∧ w'.cell? ⟨w.heap.size, 3, none⟩ = some (.slice old.iA old.imps.length old.ic) ∧ w'.cell? ⟨w.heap.size, 4, none⟩ = some (.slice old.u4.A old.u4.n old.u4.c) ∧ w'.cell? ⟨w.heap.size, 5, none⟩ = some (.slice old.u5.A old.u5.n old.u5.c) ∧ w'.cell? ⟨w.heap.size, 6, none⟩ = some (.slice old.u6.A old.u6.n old.u6.c) ∧ w'.cell? ⟨w.heap.size, 7, none⟩ = some (.slice old.u7.A old.u7.n old.u7.c) ∧ w'.cell? ⟨w.heap.size, 8, none⟩ = some (.int .i64 old.u8) ∧ w'.cell? ⟨w.heap.size, 9, none⟩ = some (.int .i64 old.u9) ∧ w'.cell? ⟨w.heap.size, 10, none⟩ = some (.int .i64 old.u10) ∧ w'.cell? ⟨w.heap.size, 11, none⟩ = some (.int .i64 old.u11) ∧ w'.cell? ⟨w.heap.size, 12, none⟩ = some (.slice old.u12.A old.u12.n old.u12.c) ∧ w'.cell? ⟨w.heap.size, 13, none⟩ = some (.slice old.u13.A old.u13.n old.u13.c) ∧ w'.cell? ⟨w.heap.size + 1, 0, none⟩ = some (.slice l.l0.A l.l0.n l.l0.c) ∧ w'.cell? ⟨w.heap.size + 1, 1, none⟩ = some (.slice l.sA l.slots.length l.sc) ∧ w'.cell? ⟨w.heap.size + 1, 2, none⟩ = some (.slice l.l2.A l.l2.n l.l2.c) ∧ w'.cell? ⟨w.heap.size + 1, 3, none⟩ = some (.int .i64 l.l3) ∧ w'.cell? ⟨w.heap.size + 1, 4, none⟩ = some (.int .i64 l.l4) ∧ w'.cell? ⟨w.heap.size + 1, 5, none⟩ = some (.int .i64 l.l5) ∧ w'.cell? ⟨w.heap.size + 1, 6, none⟩ = some (.int .i64 l.l6) ∧ w'.cell? ⟨w.heap.size + 1 + 1, 0, none⟩ = some (.string u.u0) ∧ w'.cell? ⟨w.heap.size + 1 + 1, 1, none⟩ = some (.bool u.u1) ∧ w'.cell? ⟨w.heap.size + 1 + 1, 2, none⟩ = some (.slice u.nA u.nodes.length u.nc) ∧ w'.cell? ⟨w.heap.size + 1 + 1, 3, none⟩ = some (.slice u.iA u.imps.length u.ic) ∧ w'.cell? ⟨w.heap.size + 1 + 1, 4, none⟩ = some (.slice u.u4.A u.u4.n u.u4.c) ∧ w'.cell? ⟨w.heap.size + 1 + 1, 5, none⟩ = some (.slice u.u5.A u.u5.n u.u5.c) ∧ w'.cell? ⟨w.heap.size + 1 + 1, 6, none⟩ = some (.slice u.u6.A u.u6.n u.u6.c) ∧ w'.cell? ⟨w.heap.size + 1 + 1, 7, none⟩ = some (.slice u.u7.A u.u7.n u.u7.c) ∧ w'.cell? ⟨w.heap.size + 1 + 1, 8, none⟩ = some (.int .i64 u.u8) ∧ w'.cell? ⟨w.heap.size + 1 + 1, 9, none⟩ = some (.int .i64 u.u9) ∧ w'.cell? ⟨w.heap.size + 1 + 1, 10, none⟩ = some (.int .i64 u.u10) ∧ w'.cell? ⟨w.heap.size + 1 + 1, 11, none⟩ = some (.int .i64 u.u11) ∧ w'.cell? ⟨w.heap.size + 1 + 1, 12, none⟩ = some (.slice u.u12.A u.u12.n u.u12.c) ∧ w'.cell? ⟨w.heap.size + 1 + 1, 13, none⟩ = some (.slice u.u13.A u.u13.n u.u13.c) :=
  ⟨h.b0.cell 0, h.b0.cell 1, h.b0.cell 2, h.b0.cell 3, h.b0.cell 4, h.b0.cell 5, h.b0.cell 6, h.b0.cell 7, h.b0.cell 8, h.b0.cell 9, h.b0.cell 10, h.b0.cell 11, h.b0.cell 12, h.b0.cell 13, h.b1.cell 0, h.b1.cell 1, h.b1.cell 2, h.b1.cell 3, h.b1.cell 4, h.b1.cell 5, h.b1.cell 6, h.b2.cell 0, h.b2.cell 1, h.b2.cell 2, h.b2.cell 3, h.b2.cell 4, h.b2.cell 5, h.b2.cell 6, h.b2.cell 7, h.b2.cell 8, h.b2.cell 9, h.b2.cell 10, h.b2.cell 11, h.b2.cell 12, h.b2.cell 13⟩

set_option maxHeartbeats 8000000 in
set_option maxRecDepth 100000 in
theorem walk (a a1 a2 : Value) (w : World) (ha : ∃ u : UnitD, a = .agg u.parts.toArray ∧ u.Ok w w.heap.size) (ha1 : ∃ l : LayD, a1 = .agg l.parts.toArray ∧ l.Ok w w.heap.size) (ha2 : ∃ u : UnitD, a2 = .agg u.parts.toArray ∧ u.Ok w w.heap.size) :
    Calls Try.prog 3 #[a, a1, a2] w fun e w' => e = .returned (.bool true) ∧ Below w.heap.size w w' := by
  obtain ⟨old, rfl, ho⟩ := ha
  obtain ⟨l, rfl, hl⟩ := ha1
  obtain ⟨u, rfl, hu⟩ := ha2
  have HO := Lib.hid ho
  have HL := Lib.hid hl
  have HU := Lib.hid hu
  have hsl := hl.len
  clear ho hl hu
  have HX0 : Hid (Boxes w.heap.size old l u w (((w.alloc (.cells old.parts.toArray 32)).alloc (.cells l.parts.toArray 36)).alloc (.cells u.parts.toArray 32))) :=
    ⟨((Blk.new w 32 _).alloc _).alloc _, (Blk.newAt (by simp)).alloc _, Blk.newAt (by simp), (((Below.refl w.heap.size w).alloc (Nat.le_refl _) _).alloc (by simp) _).alloc (by simp; omega) _⟩
  have HF0 := Lib.hid (fun (w' : World) (hb : Below w.heap.size w w') => few_any old w.heap.size w' (HO.out.below hb) hb.size)
  have HF2 := Lib.hid (fun (w' : World) (hb : Below w.heap.size w w') => few_any u w.heap.size w' (HU.out.below hb) hb.size)
  simp only [UnitD.parts] at HF0 HF2
  simp only [UnitD.parts, LayD.parts]
  go_enter Try.func3, Try.ntmps3
  go_wp2_with fail
  refine (small_any _).mono ?_
  rintro e w1 ⟨rfl, hb1⟩
  have HX1 := Lib.hid (HX0.out.below hb1)
  clear hb1 HX0
  have p0 : w1.cell? ⟨w.heap.size, 0, none⟩ = some (.string old.u0) := HX1.out.b0.cell 0
  have p1 : w1.cell? ⟨w.heap.size, 1, none⟩ = some (.bool old.u1) := HX1.out.b0.cell 1
  have p2 : w1.cell? ⟨w.heap.size, 2, none⟩ = some (.slice old.nA old.nodes.length old.nc) := HX1.out.b0.cell 2
  have p3 : w1.cell? ⟨w.heap.size, 3, none⟩ = some (.slice old.iA old.imps.length old.ic) := HX1.out.b0.cell 3
  have p4 : w1.cell? ⟨w.heap.size, 4, none⟩ = some (.slice old.u4.A old.u4.n old.u4.c) := HX1.out.b0.cell 4
  have p5 : w1.cell? ⟨w.heap.size, 5, none⟩ = some (.slice old.u5.A old.u5.n old.u5.c) := HX1.out.b0.cell 5
  have p6 : w1.cell? ⟨w.heap.size, 6, none⟩ = some (.slice old.u6.A old.u6.n old.u6.c) := HX1.out.b0.cell 6
  have p7 : w1.cell? ⟨w.heap.size, 7, none⟩ = some (.slice old.u7.A old.u7.n old.u7.c) := HX1.out.b0.cell 7
  have p8 : w1.cell? ⟨w.heap.size, 8, none⟩ = some (.int .i64 old.u8) := HX1.out.b0.cell 8
  have p9 : w1.cell? ⟨w.heap.size, 9, none⟩ = some (.int .i64 old.u9) := HX1.out.b0.cell 9
  have p10 : w1.cell? ⟨w.heap.size, 10, none⟩ = some (.int .i64 old.u10) := HX1.out.b0.cell 10
  have p11 : w1.cell? ⟨w.heap.size, 11, none⟩ = some (.int .i64 old.u11) := HX1.out.b0.cell 11
  have p12 : w1.cell? ⟨w.heap.size, 12, none⟩ = some (.slice old.u12.A old.u12.n old.u12.c) := HX1.out.b0.cell 12
  have p13 : w1.cell? ⟨w.heap.size, 13, none⟩ = some (.slice old.u13.A old.u13.n old.u13.c) := HX1.out.b0.cell 13
  have HFX := Lib.hid (HF0.out w1 HX1.out.bel)
  cases hf0 : fewB old with
  | false =>
    rw [hf0] at HFX
    clear hf0
    go_wp2_with fail
    refine (HFX.out).mono ?_
    rintro e w2 ⟨rfl, hb2⟩
    have HX2 := Lib.hid (HX1.out.below hb2)
    clear hb2
    go_wp2
    go_ret
    exact ⟨rfl, HX2.out.bel⟩
  | true =>
    have HI0 := Lib.hid (few_imps hf0)
    rw [hf0] at HFX
    clear hf0
    go_wp2_with fail
    refine (HFX.out).mono ?_
    rintro e w2 ⟨rfl, hb2⟩
    have HX2 := Lib.hid (HX1.out.below hb2)
    clear hb2 p0 p1 p2 p3 p4 p5 p6 p7 p8 p9 p10 p11 p12 p13 HX1 HFX
    have q0 : w2.cell? ⟨w.heap.size + 1 + 1, 0, none⟩ = some (.string u.u0) := HX2.out.b2.cell 0
    have q1 : w2.cell? ⟨w.heap.size + 1 + 1, 1, none⟩ = some (.bool u.u1) := HX2.out.b2.cell 1
    have q2 : w2.cell? ⟨w.heap.size + 1 + 1, 2, none⟩ = some (.slice u.nA u.nodes.length u.nc) := HX2.out.b2.cell 2
    have q3 : w2.cell? ⟨w.heap.size + 1 + 1, 3, none⟩ = some (.slice u.iA u.imps.length u.ic) := HX2.out.b2.cell 3
    have q4 : w2.cell? ⟨w.heap.size + 1 + 1, 4, none⟩ = some (.slice u.u4.A u.u4.n u.u4.c) := HX2.out.b2.cell 4
    have q5 : w2.cell? ⟨w.heap.size + 1 + 1, 5, none⟩ = some (.slice u.u5.A u.u5.n u.u5.c) := HX2.out.b2.cell 5
    have q6 : w2.cell? ⟨w.heap.size + 1 + 1, 6, none⟩ = some (.slice u.u6.A u.u6.n u.u6.c) := HX2.out.b2.cell 6
    have q7 : w2.cell? ⟨w.heap.size + 1 + 1, 7, none⟩ = some (.slice u.u7.A u.u7.n u.u7.c) := HX2.out.b2.cell 7
    have q8 : w2.cell? ⟨w.heap.size + 1 + 1, 8, none⟩ = some (.int .i64 u.u8) := HX2.out.b2.cell 8
    have q9 : w2.cell? ⟨w.heap.size + 1 + 1, 9, none⟩ = some (.int .i64 u.u9) := HX2.out.b2.cell 9
    have q10 : w2.cell? ⟨w.heap.size + 1 + 1, 10, none⟩ = some (.int .i64 u.u10) := HX2.out.b2.cell 10
    have q11 : w2.cell? ⟨w.heap.size + 1 + 1, 11, none⟩ = some (.int .i64 u.u11) := HX2.out.b2.cell 11
    have q12 : w2.cell? ⟨w.heap.size + 1 + 1, 12, none⟩ = some (.slice u.u12.A u.u12.n u.u12.c) := HX2.out.b2.cell 12
    have q13 : w2.cell? ⟨w.heap.size + 1 + 1, 13, none⟩ = some (.slice u.u13.A u.u13.n u.u13.c) := HX2.out.b2.cell 13
    have HFY := Lib.hid (HF2.out w2 HX2.out.bel)
    cases hf2 : fewB u with
    | false =>
      rw [hf2] at HFY
      clear hf2
      go_wp2_with fail
      refine (HFY.out).mono ?_
      rintro e w3 ⟨rfl, hb3⟩
      have HX3 := Lib.hid (HX2.out.below hb3)
      clear hb3
      go_wp2
      go_ret
      exact ⟨rfl, HX3.out.bel⟩
    | true =>
      have HI2 := Lib.hid (few_imps hf2)
      rw [hf2] at HFY
      clear hf2
      go_wp2_with fail
      refine (HFY.out).mono ?_
      rintro e w3 ⟨rfl, hb3⟩
      have HX3 := Lib.hid (HX2.out.below hb3)
      clear hb3 q0 q1 q2 q3 q4 q5 q6 q7 q8 q9 q10 q11 q12 q13 HX2 HFY HF0 HF2
      have r0 : w3.cell? ⟨w.heap.size + 1, 0, none⟩ = some (.slice l.l0.A l.l0.n l.l0.c) := HX3.out.b1.cell 0
      have r1 : w3.cell? ⟨w.heap.size + 1, 1, none⟩ = some (.slice l.sA l.slots.length l.sc) := HX3.out.b1.cell 1
      have r2 : w3.cell? ⟨w.heap.size + 1, 2, none⟩ = some (.slice l.l2.A l.l2.n l.l2.c) := HX3.out.b1.cell 2
      have r3 : w3.cell? ⟨w.heap.size + 1, 3, none⟩ = some (.int .i64 l.l3) := HX3.out.b1.cell 3
      have r4 : w3.cell? ⟨w.heap.size + 1, 4, none⟩ = some (.int .i64 l.l4) := HX3.out.b1.cell 4
      have r5 : w3.cell? ⟨w.heap.size + 1, 5, none⟩ = some (.int .i64 l.l5) := HX3.out.b1.cell 5
      have r6 : w3.cell? ⟨w.heap.size + 1, 6, none⟩ = some (.int .i64 l.l6) := HX3.out.b1.cell 6
      by_cases h20 : (20 : Int) < (l.slots.length : Int)
      · go_wp2
        go_ret
        exact ⟨rfl, HX3.out.bel⟩
      · have h20' : (l.slots.length : Int) ≤ 20 := by omega
        go_wp2_with fail
        have HX3d : Hid (Boxes w.heap.size old l u w w3.drew) := Lib.hid ⟨HX3.out.b0.drew, HX3.out.b1.drew, HX3.out.b2.drew, HX3.out.bel.drew⟩
        have HN := Lib.hid (fun (w' : World) (hb : Below w.heap.size w w') => Need_any u w.heap.size w' (HU.out.below hb) hb.size (by have := HI2.out; omega))
        have HRN := Lib.hid (fun (w' : World) (hb : Below w.heap.size w w') => refNeed_any u w.heap.size w' (HU.out.below hb) hb.size (by have := HI2.out; omega))
        have HK := Lib.hid (fun (w' : World) (hb : Below w.heap.size w w') => Keep_any old l u w.heap.size w' (HO.out.below hb) (HL.out.below hb) (HU.out.below hb) hb.size (by have := HI2.out; omega) (by omega))
        have HRK := Lib.hid (fun (w' : World) (hb : Below w.heap.size w w') => refKeep_any old l u w.heap.size w' (HO.out.below hb) (HL.out.below hb) (HU.out.below hb) hb.size (by have := HI2.out; omega))
        have hkl : (keepL old l u).length = u.imps.length := by simp [keepL]
        have hnl : u.need.length ≤ 9223372036854775807 := by
          have h1 := needL_length u.refs u.imps.length
          have h2 := HI2.out
          show (needL _ _).length ≤ _
          omega
        have hkl2 : (keepL old l u).length ≤ 9223372036854775807 := by have h2 := HI2.out; omega
        rw [← hkl] at HK
        have HNL := Lib.hid hnl
        have HKL2 := Lib.hid hkl2
        generalize keepL old l u = KL at HK HRK HKL2
        generalize u.need = NL at HN HRN HNL
        clear hkl hnl hkl2
        simp only [UnitD.parts, LayD.parts] at HN HRN HK HRK
        clear r0 r1 r2 r3 r4 r5 r6
        go_region_held3 (fun w' => w'.cell? ⟨w.heap.size, 0, none⟩ = some (.string old.u0) ∧ w'.cell? ⟨w.heap.size, 1, none⟩ = some (.bool old.u1) ∧ w'.cell? ⟨w.heap.size, 2, none⟩ = some (.slice old.nA old.nodes.length old.nc) ∧ w'.cell? ⟨w.heap.size, 3, none⟩ = some (.slice old.iA old.imps.length old.ic) ∧ w'.cell? ⟨w.heap.size, 4, none⟩ = some (.slice old.u4.A old.u4.n old.u4.c) ∧ w'.cell? ⟨w.heap.size, 5, none⟩ = some (.slice old.u5.A old.u5.n old.u5.c) ∧ w'.cell? ⟨w.heap.size, 6, none⟩ = some (.slice old.u6.A old.u6.n old.u6.c) ∧ w'.cell? ⟨w.heap.size, 7, none⟩ = some (.slice old.u7.A old.u7.n old.u7.c) ∧ w'.cell? ⟨w.heap.size, 8, none⟩ = some (.int .i64 old.u8) ∧ w'.cell? ⟨w.heap.size, 9, none⟩ = some (.int .i64 old.u9) ∧ w'.cell? ⟨w.heap.size, 10, none⟩ = some (.int .i64 old.u10) ∧ w'.cell? ⟨w.heap.size, 11, none⟩ = some (.int .i64 old.u11) ∧ w'.cell? ⟨w.heap.size, 12, none⟩ = some (.slice old.u12.A old.u12.n old.u12.c) ∧ w'.cell? ⟨w.heap.size, 13, none⟩ = some (.slice old.u13.A old.u13.n old.u13.c) ∧ w'.cell? ⟨w.heap.size + 1, 0, none⟩ = some (.slice l.l0.A l.l0.n l.l0.c) ∧ w'.cell? ⟨w.heap.size + 1, 1, none⟩ = some (.slice l.sA l.slots.length l.sc) ∧ w'.cell? ⟨w.heap.size + 1, 2, none⟩ = some (.slice l.l2.A l.l2.n l.l2.c) ∧ w'.cell? ⟨w.heap.size + 1, 3, none⟩ = some (.int .i64 l.l3) ∧ w'.cell? ⟨w.heap.size + 1, 4, none⟩ = some (.int .i64 l.l4) ∧ w'.cell? ⟨w.heap.size + 1, 5, none⟩ = some (.int .i64 l.l5) ∧ w'.cell? ⟨w.heap.size + 1, 6, none⟩ = some (.int .i64 l.l6) ∧ w'.cell? ⟨w.heap.size + 1 + 1, 0, none⟩ = some (.string u.u0) ∧ w'.cell? ⟨w.heap.size + 1 + 1, 1, none⟩ = some (.bool u.u1) ∧ w'.cell? ⟨w.heap.size + 1 + 1, 2, none⟩ = some (.slice u.nA u.nodes.length u.nc) ∧ w'.cell? ⟨w.heap.size + 1 + 1, 3, none⟩ = some (.slice u.iA u.imps.length u.ic) ∧ w'.cell? ⟨w.heap.size + 1 + 1, 4, none⟩ = some (.slice u.u4.A u.u4.n u.u4.c) ∧ w'.cell? ⟨w.heap.size + 1 + 1, 5, none⟩ = some (.slice u.u5.A u.u5.n u.u5.c) ∧ w'.cell? ⟨w.heap.size + 1 + 1, 6, none⟩ = some (.slice u.u6.A u.u6.n u.u6.c) ∧ w'.cell? ⟨w.heap.size + 1 + 1, 7, none⟩ = some (.slice u.u7.A u.u7.n u.u7.c) ∧ w'.cell? ⟨w.heap.size + 1 + 1, 8, none⟩ = some (.int .i64 u.u8) ∧ w'.cell? ⟨w.heap.size + 1 + 1, 9, none⟩ = some (.int .i64 u.u9) ∧ w'.cell? ⟨w.heap.size + 1 + 1, 10, none⟩ = some (.int .i64 u.u10) ∧ w'.cell? ⟨w.heap.size + 1 + 1, 11, none⟩ = some (.int .i64 u.u11) ∧ w'.cell? ⟨w.heap.size + 1 + 1, 12, none⟩ = some (.slice u.u12.A u.u12.n u.u12.c) ∧ w'.cell? ⟨w.heap.size + 1 + 1, 13, none⟩ = some (.slice u.u13.A u.u13.n u.u13.c)) (first | exact boxesS HX9.out | exact boxesS HX8.out | exact boxesS HX7.out | exact boxesS HX6.out | exact boxesS HX5.out | exact boxesS HX4.out | exact boxesS HX3d.out)
          (first
            | (go_at_call 11; refine Calls.mono (HN.out _ HX3d.out.bel) ?_; rintro e w4 ⟨v4, rfl, hown4, hb4⟩; obtain ⟨A4, c4, rfl, _⟩ := own_reads hown4; have HX4 := Lib.hid (HX3d.out.below hb4); have HW4 := Lib.hid hown4; clear hown4 hb4)
            | (go_at_call 12; refine Calls.mono (HRN.out _ HX4.out.bel) ?_; rintro e w5 ⟨v5, rfl, hown5, hb5⟩; obtain ⟨A5, c5, rfl, _⟩ := own_reads hown5; have HX5 := Lib.hid (HX4.out.below hb5); have HW5 := Lib.hid hown5; have HW4b := Lib.hid (ownsRow_below HW4.out hb5); clear hown5 hb5)
            | (have hlt8 := HX8.out.b0.lt; clear hlt8; go_at_call 10; refine Calls.mono (Same_refl _ A8 _ c8 _ _ KL _ (Reads.of_blk HG8.out (by rw [intCells_length]; omega)) (Reads.of_own HW8.out) HKL2.out (Nat.le_refl _) (Nat.le_refl _)) ?_; rintro e w9 ⟨rfl, hb9⟩; have HX9 := Lib.hid (HX8.out.below hb9); clear hb9)
            | (go_at_call 10; refine Calls.mono (Same_refl A4 A5 c4 c5 _ _ NL _ (Reads.of_own HW4b.out) (Reads.of_own HW5.out) HNL.out (Nat.le_refl _) (Nat.le_refl _)) ?_; rintro e w6 ⟨rfl, hb6⟩; have HX6 := Lib.hid (HX5.out.below hb6); clear hb6)
            | (go_at_call 13; refine Calls.mono (HK.out _ HX6.out.bel) ?_; rintro e w7 ⟨g, rfl, hg, hblk, hb7⟩; have HX7 := Lib.hid (HX6.out.below hb7); have HG7 := Lib.hid hblk; clear hg hblk hb7)
            | (go_at_call 14; refine Calls.mono (HRK.out _ HX7.out.bel) ?_; rintro e w8 ⟨v8, rfl, hown8, hb8⟩; obtain ⟨A8, c8, rfl, _⟩ := own_reads hown8; have HX8 := Lib.hid (HX7.out.below hb8); have HW8 := Lib.hid hown8; have HG8 := Lib.hid (HG7.out.below hb8 HG7.out.lt); clear hown8 hb8))
        go_wp2
        go_ret
        exact ⟨rfl, HX9.out.bel⟩

set_option maxRecDepth 100000 in
theorem lifted (os : Os) (started : os.Started) (H : Type) (enc : TypeId × Value → H) :
    ReturnsInHanded {} Try.checked os 3 .any (Rows.slotTellsSpec.pre6 enc Try.prog Try.f3 Rows.slotTellsRow.domain false) (Rows.slotTellsSpec.post enc Try.prog Try.f3 false true false false) := by
  refine returnsInHanded_of_change (C := Try.checked) own started (by kernel_rfl) Try.func3
    (ChangeSpec.witness6 (enc := enc) (C := Try.checked) false ⟨#[], #[.agg #[.string ByteArray.empty, .bool false, .slice none 0 0, .slice none 0 0, .slice none 0 0, .slice none 0 0, .slice none 0 0, .slice none 0 0, .int .i64 0, .int .i64 0, .int .i64 0, .int .i64 0, .slice none 0 0, .slice none 0 0], .agg #[.slice none 0 0, .slice none 0 0, .slice none 0 0, .int .i64 0, .int .i64 0, .int .i64 0, .int .i64 0], .agg #[.string ByteArray.empty, .bool false, .slice none 0 0, .slice none 0 0, .slice none 0 0, .slice none 0 0, .slice none 0 0, .slice none 0 0, .int .i64 0, .int .i64 0, .int .i64 0, .int .i64 0, .slice none 0 0, .slice none 0 0]], []⟩ 8 (by kernel_rfl) (by kernel_rfl) (by kernel_rfl) (by kernel_rfl)) ?_
  intro W base args ds gs before hval0 hW hcnd _
  have hval : ∀ (j : Nat) t v, Try.f3.params[j]? = some t → args[j]? = some v → Value.okWide Try.prog W .any base t v := hval0
  have hW' := hW
  obtain ⟨p, q, hA0, hV, rfl, hfz, hnd⟩ := hW
  have hA : DataW.TrodAll enc Try.prog W 0 (fun _ => true) true Try.f3.params.toList args.toList ds p := hA0
  rw [Try.params3] at hA hval
  obtain ⟨v0, vs0, d0, ds0, p0, q0, hargs, rfl, rfl, h0, r0⟩ := trodAll_cons hA
  obtain ⟨v1, vs1, d1, ds1, p1, q1, rfl, rfl, rfl, h1, r1⟩ := trodAll_cons r0
  obtain ⟨v2, vs2, d2, ds2, p2, q2, rfl, rfl, rfl, h2, r2⟩ := trodAll_cons r1
  obtain ⟨rfl, rfl, rfl⟩ := trodAll_nil r2
  obtain rfl : args = #[v0, v1, v2] := by cases args; simp_all
  obtain ⟨rfl, rfl⟩ := trodVars_none hV
  have k0 := h0
  have lt0 : ∀ x ∈ p0, x.block < W.heap.size := by obtain ⟨m, hm⟩ := k0; exact DataW.trod_lt m _ _ _ hm
  have o0 := openUnit (hval 0 32 v0 rfl rfl) h0
  have k1 := h1
  have lt1 : ∀ x ∈ p1, x.block < W.heap.size := by obtain ⟨m, hm⟩ := k1; exact DataW.trod_lt m _ _ _ hm
  have o1 := openLay (hval 1 36 v1 rfl rfl) h1
  have k2 := h2
  have lt2 : ∀ x ∈ p2, x.block < W.heap.size := by obtain ⟨m, hm⟩ := k2; exact DataW.trod_lt m _ _ _ hm
  have o2 := openUnit (hval 2 32 v2 rfl rfl) h2
  clear hA0 hval0
  refine (walk v0 v1 v2 W o0 o1 o2).mono fun e W' ⟨he, bel⟩ => ?_
  subst he
  exact ⟨_, rfl, _, _, _, [], _, [], hW', trodAll_mk1 (shut_bool Try.underlying4 _), (trodAll_cons_mk (Below.trod laidOut (by kernel_rfl) (of_decide_eq_true (by kernel_rfl)) k0 bel lt0) (trodAll_cons_mk (Below.trod laidOut (by kernel_rfl) (of_decide_eq_true (by kernel_rfl)) k1 bel lt1) (trodAll_cons_mk (Below.trod laidOut (by kernel_rfl) (of_decide_eq_true (by kernel_rfl)) k2 bel lt2) trodAll_mk0))), rfl, bel.frame _, fun h => by cases h⟩

theorem over : Rows.slotTellsRow.holds Try.pinned (OpenSpec.ofChange Rows.slotTellsSpec) :=
  OpenClaim.holds_of_wide 3 Try.f3 rfl rfl rfl rfl rfl rfl rfl ⟨rfl, rfl, rfl, rfl, rfl⟩ rfl rfl rfl rfl rfl (by kernel_rfl) Try.func3 (by kernel_rfl)
    (of_decide_eq_true (by kernel_rfl)) (by unfold Func.isWrapper; first | (rw [if_pos (by decide +kernel)]; kernel_rfl) | (rw [if_neg (by decide +kernel)]; exact ⟨rfl, rfl⟩))
    (fun os started H enc _ => lifted os started H enc)

/-- The statement. -/
theorem proved : Rows.SlotTellsSaid := over
#print axioms proved
end Go.Proofs.Ytdmomdaeiaeolaa.slotTells
