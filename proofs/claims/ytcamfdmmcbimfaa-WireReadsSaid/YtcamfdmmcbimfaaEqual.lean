/-
  The contract of the statements' helper 'equal': where what the reader gives is the value, it returns true and leaves the reader behind it.
-/
import Derived.Test.YtcamfdmmcbimfaaKinds
namespace Go.Proofs.Ytcamfdmmcbimfaa
open Go.RowKit

/-- What a reader gives is this value, and t is left. -/
def rdVal (kd : Int) (st : St) (v : Val) (t : St) : Prop :=
  if kd = 0 then rNum st = (absOf v.n, t) else if kd = 1 then rInt st = (v.n, t) else if kd = 2 then rText st = (v.s, t) else if kd = 3 then rNums st = (v.l, t) else rTexts st = (v.t, t)

theorem rdVal_w (kd : Int) (v : Val) (t : List UInt8) (hn : I64 v.n) (hi : ∀ z ∈ v.l, I64 z) (hs : v.Small) : rdVal kd ⟨wVal kd v ++ t, false⟩ v ⟨t, false⟩ := by
  unfold rdVal wVal
  have ha := absOf_le v.n hn
  by_cases h0 : kd = 0
  · rw [if_pos h0, if_pos h0]; exact rNum_w _ _ _ (by omega)
  · rw [if_neg h0, if_neg h0]
    by_cases h1 : kd = 1
    · rw [if_pos h1, if_pos h1]; exact rInt_w _ _ _ hn
    · rw [if_neg h1, if_neg h1]
      by_cases h2 : kd = 2
      · rw [if_pos h2, if_pos h2]; exact rText_w _ _ _ (by have := hs.s; omega)
      · rw [if_neg h2, if_neg h2]
        by_cases h3 : kd = 3
        · rw [if_pos h3, if_pos h3]; exact rNums_w _ _ (by have := hs.l; omega) hi
        · rw [if_neg h3, if_neg h3]; exact rTexts_w _ _ (by have := hs.t; omega) (fun x hx => by have := hs.ti x hx; omega)

theorem Rd.below {w w' : World} {g : Nat} {s : St} (h : Rd w g s) (hb : Below w.heap.size w w') : Rd w' g s := Blk.below h hb (Rd.lt h)

/-- The box of the value stands behind a call of a reader's method. -/
theorem keepC {N g : Nat} {a b c d : Value} {w1 w2 : World} (h : w1.cell? ⟨N, 1, none⟩ = some a ∧ w1.cell? ⟨N, 2, none⟩ = some b ∧ w1.cell? ⟨N, 3, none⟩ = some c ∧ w1.cell? ⟨N, 4, none⟩ = some d) (hg : w1.grownBy w2 (some g)) (hN : N < w1.heap.size) (hne : N ≠ g) :
    w2.cell? ⟨N, 1, none⟩ = some a ∧ w2.cell? ⟨N, 2, none⟩ = some b ∧ w2.cell? ⟨N, 3, none⟩ = some c ∧ w2.cell? ⟨N, 4, none⟩ = some d := by
  have hc : ∀ o, w2.cell? ⟨N, o, none⟩ = w1.cell? ⟨N, o, none⟩ := fun o => World.cell?_of_block (hg.block N hN (fun e => hne (by injection e)))
  exact ⟨(hc 1).trans h.1, (hc 2).trans h.2.1, (hc 3).trans h.2.2.1, (hc 4).trans h.2.2.2⟩

theorem own_reads {w : World} {B : Nat} {e : TypeId} {v : Value} {xs : List Value} (h : w.ownsRow B e 1 v xs.length xs) : ∃ A c, v = .slice A xs.length c ∧ Reads w w.heap.size 1 A xs.length xs := by
  obtain ⟨A, c, rfl⟩ : ∃ A c, v = .slice A xs.length c := by
    rcases h.2 with ⟨hv, h0⟩ | ⟨gg, cap, cur, hv, _⟩
    · exact ⟨none, 0, by rw [hv, h0]⟩
    · exact ⟨_, _, hv⟩
  exact ⟨A, c, rfl, Reads.of_own h⟩

set_option maxHeartbeats 8000000 in
set_option maxRecDepth 100000 in
theorem equal_any (g : Nat) (v : Val) (B : Nat) (st t : St) (w : World) (hr : Rd w g st) (h : v.Ok w B) (hB : B ≤ w.heap.size) (hg : B ≤ g) (hs : v.Small) (hl : st.rest.length ≤ 1048576) (heq : rdVal (kindOf v.kind) st v t) :
    Calls Try.prog 42 #[.pointer (some ⟨g, 0, none⟩), .agg v.parts.toArray] w fun e w' => e = .returned (.bool true) ∧ RdTo w w' g t := by
  have HO := Lib.hid h
  have HSM := Lib.hid hs
  have HRD := Lib.hid hr
  have HEQ := Lib.hid heq
  have hglt := Rd.lt hr
  clear h hs hr heq
  have HK := Lib.hid (kind_any v.kind (.int .i64 v.n) (.string ⟨v.s.toArray⟩) (.slice v.la v.l.length v.lc) (.slice v.ta v.t.length v.tc) HO.out.kind)
  have hcs := kindOf_cases v.kind
  simp only [Val.parts]
  have hb0 : Below w.heap.size w (w.alloc (.cells #[.int .i64 v.kind, .int .i64 v.n, .string ⟨v.s.toArray⟩, .slice v.la v.l.length v.lc, .slice v.ta v.t.length v.tc] 25)) := (Below.refl _ _).alloc (Nat.le_refl _) _
  have HBX := Lib.hid (Blk.new w 25 #[.int .i64 v.kind, .int .i64 v.n, .string ⟨v.s.toArray⟩, .slice v.la v.l.length v.lc, .slice v.ta v.t.length v.tc])
  generalize (kindOf v.kind : Int) = kd at HK hcs HEQ
  go_enter Try.func42, Try.ntmps42
  go_wp2_with fail
  refine (HK.out _).mono ?_
  rintro e w1 ⟨rfl, hb1⟩
  have hbx := HBX.out.below hb1 (by simp)
  have hbw : Below w.heap.size w w1 := hb0.trans (hb1.mono (by simp))
  have c1 : w1.cell? ⟨w.heap.size, 1, none⟩ = some (.int .i64 v.n) := hbx.cell 1
  have c2 : w1.cell? ⟨w.heap.size, 2, none⟩ = some (.string ⟨v.s.toArray⟩) := hbx.cell 2
  have c3 : w1.cell? ⟨w.heap.size, 3, none⟩ = some (.slice v.la v.l.length v.lc) := hbx.cell 3
  have c4 : w1.cell? ⟨w.heap.size, 4, none⟩ = some (.slice v.ta v.t.length v.tc) := hbx.cell 4
  have HS0 := Lib.hid (show w1.drew.cell? ⟨w.heap.size, 1, none⟩ = some (.int .i64 v.n) ∧ w1.drew.cell? ⟨w.heap.size, 2, none⟩ = some (.string ⟨v.s.toArray⟩) ∧ w1.drew.cell? ⟨w.heap.size, 3, none⟩ = some (.slice v.la v.l.length v.lc) ∧ w1.drew.cell? ⟨w.heap.size, 4, none⟩ = some (.slice v.ta v.t.length v.tc) from ⟨c1, c2, c3, c4⟩)
  have hNlt : w.heap.size < w1.drew.heap.size := hbx.lt
  have HR1 : Hid (RdTo w w1.drew g st) := ⟨Rd.below HRD.out hbw.drew, only_of_below hbw.drew _⟩
  have hne : w.heap.size ≠ g := by omega
  have HBW := Lib.hid hbw
  clear hbx hb0 hb1 HBX HK c1 c2 c3 c4 hbw
  rcases hcs with rfl | rfl | rfl | rfl | rfl
  · have HE : Hid (rNum st = (absOf v.n, t)) := HEQ.out
    have hN := rNum_any g st w1.drew HR1.out.rd (by omega)
    rw [HE.out] at hN
    have HN := Lib.hid hN
    have HA := Lib.hid (number_abs v.n HO.out.n)
    clear hN
    go_wp2_with fail
    go_region_held3 (fun w' => w'.cell? ⟨w.heap.size, 1, none⟩ = some (.int .i64 v.n) ∧ w'.cell? ⟨w.heap.size, 2, none⟩ = some (.string ⟨v.s.toArray⟩) ∧ w'.cell? ⟨w.heap.size, 3, none⟩ = some (.slice v.la v.l.length v.lc) ∧ w'.cell? ⟨w.heap.size, 4, none⟩ = some (.slice v.ta v.t.length v.tc)) (first | exact hS1 | exact HS0.out | assumption)
      (first
        | (go_at_call 25; refine (HN.out).mono ?_; rintro e w2 ⟨rfl, hto⟩; have hS1 := keepC HS0.out hto.only hNlt hne)
        | (go_at_call 21; refine (HA.out _).mono ?_; rintro e w3 ⟨rfl, rfl⟩))
    go_wp2
    go_ret
    exact ⟨rfl, HR1.out.trans hto⟩
  · have HE : Hid (rInt st = (v.n, t)) := HEQ.out
    have hN := rInt_any g st w1.drew HR1.out.rd (by omega)
    rw [HE.out] at hN
    have HN := Lib.hid hN
    clear hN
    go_wp2_with fail
    go_region_held3 (fun w' => w'.cell? ⟨w.heap.size, 1, none⟩ = some (.int .i64 v.n) ∧ w'.cell? ⟨w.heap.size, 2, none⟩ = some (.string ⟨v.s.toArray⟩) ∧ w'.cell? ⟨w.heap.size, 3, none⟩ = some (.slice v.la v.l.length v.lc) ∧ w'.cell? ⟨w.heap.size, 4, none⟩ = some (.slice v.ta v.t.length v.tc)) (first | exact hS1 | exact HS0.out | assumption)
      (first
        | (go_at_call 27; refine (HN.out).mono ?_; rintro e w2 ⟨rfl, hto⟩; have hS1 := keepC HS0.out hto.only hNlt hne))
    go_wp2
    go_ret
    exact ⟨rfl, HR1.out.trans hto⟩
  · have HE : Hid (rText st = (v.s, t)) := HEQ.out
    have hN := rText_any g st w1.drew HR1.out.rd (by omega)
    rw [HE.out] at hN
    unfold str at hN
    have HN := Lib.hid hN
    clear hN
    go_wp2_with fail
    go_region_held3 (fun w' => w'.cell? ⟨w.heap.size, 1, none⟩ = some (.int .i64 v.n) ∧ w'.cell? ⟨w.heap.size, 2, none⟩ = some (.string ⟨v.s.toArray⟩) ∧ w'.cell? ⟨w.heap.size, 3, none⟩ = some (.slice v.la v.l.length v.lc) ∧ w'.cell? ⟨w.heap.size, 4, none⟩ = some (.slice v.ta v.t.length v.tc)) (first | exact hS1 | exact HS0.out | assumption)
      (first
        | (go_at_call 29; refine (HN.out).mono ?_; rintro e w2 ⟨rfl, hto⟩; have hS1 := keepC HS0.out hto.only hNlt hne))
    go_wp2
    go_ret
    exact ⟨rfl, HR1.out.trans hto⟩
  · have HE : Hid (rNums st = (v.l, t)) := HEQ.out
    have hN := rNums_any g st w1.drew HR1.out.rd (by omega)
    rw [HE.out] at hN
    have HN := Lib.hid hN
    clear hN
    have HVL := Lib.hid ((HO.out.l.below (HBW.out.mono hB)))
    go_wp2_with fail
    go_region_held3 (fun w' => w'.cell? ⟨w.heap.size, 1, none⟩ = some (.int .i64 v.n) ∧ w'.cell? ⟨w.heap.size, 2, none⟩ = some (.string ⟨v.s.toArray⟩) ∧ w'.cell? ⟨w.heap.size, 3, none⟩ = some (.slice v.la v.l.length v.lc) ∧ w'.cell? ⟨w.heap.size, 4, none⟩ = some (.slice v.ta v.t.length v.tc)) (first | exact hS2 | exact hS1 | exact HS0.out | assumption)
      (first
        | (go_at_call 32; refine (HN.out).mono ?_; rintro e w2 ⟨vv, rfl, hto⟩; have hS1 := keepC HS0.out hto.to_.only hNlt hne; have hown := own_reads hto.own; rw [intCells_length] at hown; obtain ⟨A, c, rfl, hrd⟩ := hown; have HM := Lib.hid (SameNums_eq A v.la c v.lc w2.heap.size B v.l w2 hrd ((Reads.drew HVL.out).grown hto.to_.only (Nat.le_trans hB HBW.out.size) (fun k hk => by injection hk with hk; omega)) (by have := HSM.out.l; omega) (Nat.le_refl _) (Nat.le_trans hB (Nat.le_trans HBW.out.size hto.to_.only.size))))
        | (go_at_call 31; refine (HM.out).mono ?_; rintro e w3 ⟨rfl, hb3⟩; have hS2 := keepC hS1 (only_of_below hb3 (some g)) (Nat.lt_of_lt_of_le hNlt hto.to_.only.size) hne))
    go_wp2
    go_ret
    exact ⟨rfl, ⟨Rd.below hto.to_.rd hb3, only_trans (only_trans HR1.out.only hto.to_.only) (only_of_below hb3 _)⟩⟩
  · have HE : Hid (rTexts st = (v.t, t)) := HEQ.out
    have hN := rTexts_any g st w1.drew HR1.out.rd (by omega)
    rw [HE.out] at hN
    have HN := Lib.hid hN
    clear hN
    have HVL := Lib.hid ((HO.out.t.below (HBW.out.mono hB)))
    go_wp2_with fail
    go_region_held3 (fun w' => w'.cell? ⟨w.heap.size, 1, none⟩ = some (.int .i64 v.n) ∧ w'.cell? ⟨w.heap.size, 2, none⟩ = some (.string ⟨v.s.toArray⟩) ∧ w'.cell? ⟨w.heap.size, 3, none⟩ = some (.slice v.la v.l.length v.lc) ∧ w'.cell? ⟨w.heap.size, 4, none⟩ = some (.slice v.ta v.t.length v.tc)) (first | exact hS2 | exact hS1 | exact HS0.out | assumption)
      (first
        | (go_at_call 35; refine (HN.out).mono ?_; rintro e w2 ⟨vv, rfl, hto⟩; have hS1 := keepC HS0.out hto.to_.only hNlt hne; have hown := own_reads hto.own; rw [strCellsL_length] at hown; obtain ⟨A, c, rfl, hrd⟩ := hown; have HM := Lib.hid (SameTexts_eq A v.ta c v.tc w2.heap.size B v.t w2 hrd ((Reads.drew HVL.out).grown hto.to_.only (Nat.le_trans hB HBW.out.size) (fun k hk => by injection hk with hk; omega)) (by have := HSM.out.t; omega) (Nat.le_refl _) (Nat.le_trans hB (Nat.le_trans HBW.out.size hto.to_.only.size))))
        | (go_at_call 34; refine (HM.out).mono ?_; rintro e w3 ⟨rfl, hb3⟩; have hS2 := keepC hS1 (only_of_below hb3 (some g)) (Nat.lt_of_lt_of_le hNlt hto.to_.only.size) hne))
    go_wp2
    go_ret
    exact ⟨rfl, ⟨Rd.below hto.to_.rd hb3, only_trans (only_trans HR1.out.only hto.to_.only) (only_of_below hb3 _)⟩⟩

end Go.Proofs.Ytcamfdmmcbimfaa
