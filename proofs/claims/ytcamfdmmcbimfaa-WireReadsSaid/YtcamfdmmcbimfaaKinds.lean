/-
  Contracts of the statements' helpers: kind, number, write, equal (where what is read is the value), and of the reference's SameNums and SameTexts at equal lists.
-/
import Derived.Test.YtcamfdmmcbimfaaItems
namespace Go.Proofs.Ytcamfdmmcbimfaa
open Go.RowKit

/-- The kind of a value. -/
def kindOf (k : Int) : Nat := (k % 5).toNat
theorem kindOf_cases (k : Int) : (kindOf k : Int) = 0 ∨ (kindOf k : Int) = 1 ∨ (kindOf k : Int) = 2 ∨ (kindOf k : Int) = 3 ∨ (kindOf k : Int) = 4 := by
  unfold kindOf
  omega

theorem tmod_neg (k : Int) (h : k < 0) : k.tmod 5 = -((-k) % 5) := by
  have h1 : k = -(-k) := by omega
  rw [h1, Int.neg_tmod, Int.tmod_eq_emod_of_nonneg (by omega), Int.neg_neg]

set_option maxRecDepth 100000 in
theorem kind_any (k : Int) (a b c d : Value) (h : I64 k) (w : World) : Calls Try.prog 24 #[.agg #[.int .i64 k, a, b, c, d]] w fun e w' => e = .returned (.int .i64 (kindOf k)) ∧ Below w.heap.size w w' := by
  obtain ⟨h1, h2⟩ := h
  by_cases h0 : 0 ≤ k
  · have e1 : (kindOf k : Int) = k % 5 := by unfold kindOf; omega
    rw [e1]
    clear e1
    go_enter Try.func24, Try.ntmps24
    go_wp2
    go_ret
    exact ⟨rfl, (Below.refl _ _).alloc (Nat.le_refl _) _⟩
  · have ht := tmod_neg k (by omega)
    by_cases hz : (-k) % 5 < 1
    · have e1 : (kindOf k : Int) = k.tmod 5 := by unfold kindOf; rw [ht]; omega
      rw [e1]
      have b1 : -5 ≤ k.tmod 5 := by omega
      have b2 : 0 ≤ k.tmod 5 := by omega
      have b3 : k.tmod 5 ≤ 0 := by omega
      clear e1 ht hz
      go_enter Try.func24, Try.ntmps24
      go_wp2
      go_ret
      exact ⟨rfl, (Below.refl _ _).alloc (Nat.le_refl _) _⟩
    · have e1 : (kindOf k : Int) = k.tmod 5 + 5 := by unfold kindOf; rw [ht]; omega
      rw [e1]
      have b1 : -5 ≤ k.tmod 5 := by omega
      have b2 : k.tmod 5 < 0 := by omega
      clear e1 ht hz
      go_enter Try.func24, Try.ntmps24
      go_wp2
      go_ret
      exact ⟨rfl, (Below.refl _ _).alloc (Nat.le_refl _) _⟩

/-- The absolute value, as the statements take it. -/
def absOf (n : Int) : Nat := if n < 0 then (-n - 1).toNat else n.toNat
theorem absOf_le (n : Int) (h : I64 n) : (absOf n : Int) ≤ 9223372036854775807 := by
  obtain ⟨h1, h2⟩ := h
  unfold absOf
  split <;> omega

set_option maxRecDepth 100000 in
theorem number_abs (n : Int) (h : I64 n) (w : World) : Calls Try.prog 21 #[.int .i64 n] w fun e w' => e = .returned (.int .i64 (absOf n)) ∧ w = w' := by
  obtain ⟨h1, h2⟩ := h
  by_cases hn : n < 0
  · have e1 : ((absOf n : Nat) : Int) = -(n + 1) := by unfold absOf; rw [if_pos hn]; omega
    rw [e1]
    clear e1
    go_enter Try.func21, Try.ntmps21
    go_wp2
    go_ret
    exact ⟨rfl, rfl⟩
  · have e1 : ((absOf n : Nat) : Int) = n := by unfold absOf; rw [if_neg hn]; omega
    rw [e1]
    clear e1
    go_enter Try.func21, Try.ntmps21
    go_wp2
    go_ret
    exact ⟨rfl, rfl⟩

theorem below_drewN {B : Nat} {a w : World} (h : Below B a w) (n : Nat) : Below B a (w.drewN n) := ⟨h.os, h.tape, h.output, h.size, h.block⟩

set_option maxHeartbeats 2000000 in
set_option maxRecDepth 100000 in
theorem SameNums_eq (A A' : Option Addr) (c c' B B' : Nat) (zs : List Int) (w : World) (h : Reads w B 1 A zs.length (intCells zs)) (h' : Reads w B' 1 A' zs.length (intCells zs)) (hl : zs.length ≤ 1048577) (hB : B ≤ w.heap.size) (hB' : B' ≤ w.heap.size) :
    Calls Try.prog 31 #[.slice A zs.length c, .slice A' zs.length c'] w fun e w' => e = .returned (.bool true) ∧ Below w.heap.size w w' := by
  have HR := Lib.hid h
  have HR' := Lib.hid h'
  clear h h'
  go_enter Try.func31, Try.ntmps31
  go_wp2
  go_loopw [5] (fun vi wr => ∃ i : Nat, vi = .int .i64 i ∧ i ≤ zs.length ∧ Below w.heap.size w wr) (fun vi _ => zs.length - (intOf vi).toNat)
  case atStart => exact ⟨0, rfl, Nat.zero_le _, Below.refl _ _⟩
  case round =>
    obtain ⟨i, rfl, hi, hbw⟩ := hrel
    by_cases hil : i < zs.length
    · obtain ⟨b, off, rfl, _, hc⟩ := (HR.out.below (hbw.mono hB)).lit (by omega) (by decide)
      obtain ⟨b', off', rfl, _, hc'⟩ := (HR'.out.below (hbw.mono hB')).lit (by omega) (by decide)
      have c1 : wr.cell? ⟨b, off + i, none⟩ = some (.int .i64 (zs[i]'hil)) := hc i _ (by simp [intCells, hil])
      have c2 : wr.cell? ⟨b', off' + i, none⟩ = some (.int .i64 (zs[i]'hil)) := hc' i _ (by simp [intCells, hil])
      have hix : (i : Int) < (zs.length : Int) := by omega
      have hi0 : (0 : Int) ≤ (i : Int) := by omega
      clear hc hc'
      generalize zs[i]'hil = z at c1 c2
      go_wp2
      go_quiet (fail)
      go_wp2
      refine ⟨⟨i + 1, by go_num, by omega, hbw.trans ⟨rfl, rfl, rfl, Nat.le_refl _, fun _ _ => rfl⟩⟩, by simp [intOf]; omega⟩
    · go_wp2
      go_ret
      exact ⟨rfl, hbw⟩

set_option maxHeartbeats 2000000 in
set_option maxRecDepth 100000 in
theorem SameTexts_eq (A A' : Option Addr) (c c' B B' : Nat) (zs : List (List UInt8)) (w : World) (h : Reads w B 1 A zs.length (strCellsL zs)) (h' : Reads w B' 1 A' zs.length (strCellsL zs)) (hl : zs.length ≤ 1048577) (hB : B ≤ w.heap.size) (hB' : B' ≤ w.heap.size) :
    Calls Try.prog 34 #[.slice A zs.length c, .slice A' zs.length c'] w fun e w' => e = .returned (.bool true) ∧ Below w.heap.size w w' := by
  have HR := Lib.hid h
  have HR' := Lib.hid h'
  clear h h'
  go_enter Try.func34, Try.ntmps34
  go_wp2
  go_loopw [5] (fun vi wr => ∃ i : Nat, vi = .int .i64 i ∧ i ≤ zs.length ∧ Below w.heap.size w wr) (fun vi _ => zs.length - (intOf vi).toNat)
  case atStart => exact ⟨0, rfl, Nat.zero_le _, Below.refl _ _⟩
  case round =>
    obtain ⟨i, rfl, hi, hbw⟩ := hrel
    by_cases hil : i < zs.length
    · obtain ⟨b, off, rfl, _, hc⟩ := (HR.out.below (hbw.mono hB)).lit (by omega) (by decide)
      obtain ⟨b', off', rfl, _, hc'⟩ := (HR'.out.below (hbw.mono hB')).lit (by omega) (by decide)
      have c1 : wr.cell? ⟨b, off + i, none⟩ = some (.string ⟨(zs[i]'hil).toArray⟩) := hc i _ (by simp [strCellsL, hil])
      have c2 : wr.cell? ⟨b', off' + i, none⟩ = some (.string ⟨(zs[i]'hil).toArray⟩) := hc' i _ (by simp [strCellsL, hil])
      have hix : (i : Int) < (zs.length : Int) := by omega
      have hi0 : (0 : Int) ≤ (i : Int) := by omega
      clear hc hc'
      generalize zs[i]'hil = z at c1 c2
      go_wp2
      go_quiet (fail)
      go_wp2
      refine ⟨⟨i + 1, by go_num, by omega, hbw.trans ⟨rfl, rfl, rfl, Nat.le_refl _, fun _ _ => rfl⟩⟩, by simp [intOf]; omega⟩
    · go_wp2
      go_ret
      exact ⟨rfl, hbw⟩

/-- What 'write' gives for a value of this kind. -/
def wVal (kd : Int) (v : Val) : List UInt8 :=
  if kd = 0 then Lib.uvarint (absOf v.n) else if kd = 1 then wInt v.n else if kd = 2 then wText v.s else if kd = 3 then wNums v.l else wTexts v.t

/-- What is asked of a value that is written: it is small. -/
structure Val.Small (v : Val) : Prop where
  l : v.l.length ≤ 400
  t : v.t.length ≤ 400
  s : v.s.length ≤ 400
  ti : ∀ x ∈ v.t, x.length ≤ 400

set_option maxHeartbeats 4000000 in
set_option maxRecDepth 100000 in
theorem write_any (v : Val) (B : Nat) (w : World) (h : v.Ok w B) (hB : B ≤ w.heap.size) (hs : v.Small) :
    Calls Try.prog 41 #[.agg v.parts.toArray] w fun e w' => e = .returned (str (wVal (kindOf v.kind) v)) ∧ Below w.heap.size w w' := by
  have HO := Lib.hid h
  have HSM := Lib.hid hs
  clear h hs
  have HK := Lib.hid (kind_any v.kind (.int .i64 v.n) (.string ⟨v.s.toArray⟩) (.slice v.la v.l.length v.lc) (.slice v.ta v.t.length v.tc) HO.out.kind)
  have hcs := kindOf_cases v.kind
  simp only [Val.parts]
  have hb0 : Below w.heap.size w (w.alloc (.cells #[.int .i64 v.kind, .int .i64 v.n, .string ⟨v.s.toArray⟩, .slice v.la v.l.length v.lc, .slice v.ta v.t.length v.tc] 25)) := (Below.refl _ _).alloc (Nat.le_refl _) _
  have HBX := Lib.hid (Blk.new w 25 #[.int .i64 v.kind, .int .i64 v.n, .string ⟨v.s.toArray⟩, .slice v.la v.l.length v.lc, .slice v.ta v.t.length v.tc])
  generalize (kindOf v.kind : Int) = kd at HK hcs
  go_enter Try.func41, Try.ntmps41
  go_wp2_with fail
  refine (HK.out _).mono ?_
  rintro e w1 ⟨rfl, hb1⟩
  have hbx := HBX.out.below hb1 (by simp)
  have hbw : Below w.heap.size w w1 := hb0.trans (hb1.mono (by simp))
  have c1 : w1.cell? ⟨w.heap.size, 1, none⟩ = some (.int .i64 v.n) := hbx.cell 1
  have c2 : w1.cell? ⟨w.heap.size, 2, none⟩ = some (.string ⟨v.s.toArray⟩) := hbx.cell 2
  have c3 : w1.cell? ⟨w.heap.size, 3, none⟩ = some (.slice v.la v.l.length v.lc) := hbx.cell 3
  have c4 : w1.cell? ⟨w.heap.size, 4, none⟩ = some (.slice v.ta v.t.length v.tc) := hbx.cell 4
  clear hbx hb0 hb1 HBX HK
  rcases hcs with rfl | rfl | rfl | rfl | rfl
  · have HA := Lib.hid (number_abs v.n HO.out.n)
    have hal := absOf_le v.n HO.out.n
    have hnn := Num_any (absOf v.n : Int) ⟨by omega, by omega⟩
    have hN : wNum (absOf v.n : Int) = Lib.uvarint (absOf v.n) := by
      unfold wNum
      rw [if_neg (by omega)]
      rfl
    rw [hN] at hnn
    have HN := Lib.hid hnn
    clear hnn hN hal
    go_wp2_with fail
    refine (HA.out _).mono ?_
    rintro e w2 ⟨rfl, rfl⟩
    go_wp2_with fail
    refine (HN.out _).mono ?_
    rintro e w2 ⟨rfl, hb2⟩
    go_wp2
    go_ret
    exact ⟨rfl, hbw.trans (hb2.mono hbw.size)⟩
  · have HN := Lib.hid (Int_any v.n HO.out.n)
    go_wp2_with fail
    refine (HN.out _).mono ?_
    rintro e w2 ⟨rfl, hb2⟩
    go_wp2
    go_ret
    exact ⟨rfl, hbw.trans (hb2.mono hbw.size)⟩
  · have HN := Lib.hid (Text_any v.s (by have := HSM.out.s; omega))
    go_wp2_with fail
    refine (HN.out _).mono ?_
    rintro e w2 ⟨rfl, hb2⟩
    go_wp2
    go_ret
    exact ⟨rfl, hbw.trans (hb2.mono hbw.size)⟩
  · have HN := Lib.hid (Nums_any v.la v.lc B v.l w1 (HO.out.l.below (hbw.mono hB)) (Nat.le_trans hB hbw.size) HO.out.li (by have := HSM.out.l; omega))
    go_wp2_with fail
    refine (HN.out).mono ?_
    rintro e w2 ⟨rfl, hb2⟩
    go_wp2
    go_ret
    exact ⟨rfl, hbw.trans (hb2.mono hbw.size)⟩
  · have HN := Lib.hid (Texts_any v.ta v.tc B v.t w1 (HO.out.t.below (hbw.mono hB)) (Nat.le_trans hB hbw.size) (fun x hx => by have := HSM.out.ti x hx; omega) (by have := HSM.out.t; omega))
    go_wp2_with fail
    refine (HN.out).mono ?_
    rintro e w2 ⟨rfl, hb2⟩
    go_wp2
    go_ret
    exact ⟨rfl, hbw.trans (hb2.mono hbw.size)⟩

end Go.Proofs.Ytcamfdmmcbimfaa
