/-
  Contracts of package wire's Reader: Open, fail, number, Num, Int, Text, Left and Done do to the reader's two fields what the functions on states in Plain say; no other memory that was there turns. Conditions: what is left is at most 2^46 bytes.
-/
import Derived.Test.YtefgajipakjpeaaDoorWire
import Derived.LoopTactic
namespace Go.Proofs.YtefgajipakjpeaaDoor
open Go.RowKit

/-- 'm |= c % 128 << (7 * i)' is a sum. -/
theorem or_step (k acc b : Nat) (hacc : acc < 2 ^ (7 * k)) (hb : b % 128 * 2 ^ (7 * k) < 18446744073709551616) (hk : k ≤ 9) :
    bits .or .u64 (acc : Int) (IntKind.u64.wrap ((b : Int) % 128 * 2 ^ (7 * k))) = ((acc + b % 128 * 2 ^ (7 * k) : Nat) : Int) := by
  have e : (b : Int) % 128 * 2 ^ (7 * k) = ((b % 128 * 2 ^ (7 * k) : Nat) : Int) := by
    rw [Int.natCast_mul, Int.natCast_pow]
    rfl
  have hp : 2 ^ (7 * k) ≤ 2 ^ 63 := Nat.pow_le_pow_right (by decide) (by omega)
  rw [e, IntKind.wrap_u64]
  have e2 : ((b % 128 * 2 ^ (7 * k) : Nat) : Int) % 18446744073709551616 = ((b % 128 * 2 ^ (7 * k) : Nat) : Int) := by
    omega
  rw [e2, bits_or_u64_nat _ _ (by omega) hb, Nat.or_comm, Nat.mul_comm, ← Nat.two_pow_add_eq_or_of_lt hacc, Nat.add_comm]

theorem or_step9 (acc b : Nat) (hacc : acc < 2 ^ (7 * 9)) (hb : b ≤ 1) :
    bits .or .u64 (acc : Int) ((b : Int) % 128 * 9223372036854775808) = ((acc + b % 128 * 2 ^ (7 * 9) : Nat) : Int) := by
  have e : (b : Int) % 128 * 9223372036854775808 = ((b % 128 * 2 ^ (7 * 9) : Nat) : Int) := by
    rw [Int.natCast_mul, Int.natCast_pow]
    rfl
  have hp : (2 : Nat) ^ (7 * 9) = 2 ^ 63 := rfl
  have hq : b % 128 * 2 ^ (7 * 9) ≤ 1 * 2 ^ (7 * 9) := Nat.mul_le_mul_right _ (by omega)
  rw [e, bits_or_u64_nat _ _ (by omega) (by omega), Nat.or_comm, Nat.mul_comm, ← Nat.two_pow_add_eq_or_of_lt hacc, Nat.add_comm]

theorem or_zero (k acc : Nat) (hacc : acc < 2 ^ (7 * k)) (hk : k ≤ 9) : bits .or .u64 (acc : Int) (IntKind.u64.wrap 0) = (acc : Int) := by
  have hp : 2 ^ (7 * k) ≤ 2 ^ 63 := Nat.pow_le_pow_right (by decide) (by omega)
  have e : IntKind.u64.wrap 0 = ((0 : Nat) : Int) := by rw [IntKind.wrap_u64]; rfl
  rw [e, bits_or_u64_nat _ _ (by omega) (by decide), Nat.or_zero]

theorem step_fits (k b : Nat) (hk : k ≤ 9) (h9 : 9 ≤ k → b ≤ 1) : b % 128 * 2 ^ (7 * k) < 18446744073709551616 := by
  rcases Nat.lt_or_ge k 9 with h | h
  · have h1 : 2 ^ (7 * k) ≤ 2 ^ 56 := Nat.pow_le_pow_right (by decide) (by omega)
    have h2 : b % 128 * 2 ^ (7 * k) ≤ 127 * 2 ^ 56 := Nat.mul_le_mul (by omega) h1
    exact Nat.lt_of_le_of_lt h2 (by decide)
  · have h1 : 2 ^ (7 * k) ≤ 2 ^ 63 := Nat.pow_le_pow_right (by decide) (by omega)
    have hb := h9 h
    have h2 : b % 128 * 2 ^ (7 * k) ≤ 1 * 2 ^ 63 := Nat.mul_le_mul (by omega) h1
    exact Nat.lt_of_le_of_lt h2 (by decide)

theorem acc_step (k acc b : Nat) (hacc : acc < 2 ^ (7 * k)) : acc + b % 128 * 2 ^ (7 * k) < 2 ^ (7 * (k + 1)) := by
  rw [two_pow_7]
  have h : b % 128 * 2 ^ (7 * k) ≤ 127 * 2 ^ (7 * k) := Nat.mul_le_mul_right _ (by omega)
  omega

theorem rU_none {l : List UInt8} {bad : Bool} (h : dec l = none) : rU ⟨l, bad⟩ = (0, ⟨[], true⟩) := by simp [rU, h]
theorem rU_some {l r : List UInt8} {m : Nat} {bad : Bool} (h : dec l = some (m, r)) : rU ⟨l, bad⟩ = (m, ⟨r, bad⟩) := by simp [rU, h]

theorem dec_end {l : List UInt8} {k acc : Nat} (h : dec l = decF k acc (l.drop k)) (hk : l.length ≤ k) : dec l = none := by
  rw [h, List.drop_eq_nil_of_le hk]
  rfl
theorem dec_ten {l : List UInt8} {k acc : Nat} (h : dec l = decF k acc (l.drop k)) (hk : k = 10) : dec l = none := by
  rw [h]
  cases l.drop k <;> simp [decF, hk]
theorem dec_over {l r : List UInt8} {k acc : Nat} {b : UInt8} (h : dec l = decF k acc (b :: r)) (hk : k = 9) (hb : 1 < b.toNat) : dec l = none := by
  rw [h]
  simp [decF, hk, hb]
theorem dec_zero {l r : List UInt8} {k acc : Nat} {b : UInt8} (h : dec l = decF k acc (b :: r)) (hk9 : k ≤ 9) (hk : 0 < k) (hb : b.toNat < 1) : dec l = none := by
  rw [h]
  have h0 : b.toNat = 0 := by omega
  have h10 : k ≠ 10 := by omega
  simp [decF, hk, h10, h0]
theorem dec_last {l r : List UInt8} {k acc : Nat} {b : UInt8} (h : dec l = decF k acc (b :: r)) (hk9 : k ≤ 9) (h1 : 9 ≤ k → b.toNat ≤ 1) (hb : b.toNat < 128) (h0 : b.toNat < 1 → k = 0) : dec l = some (acc + b.toNat % 128 * 2 ^ (7 * k), r) := by
  rw [h, decF, if_neg (by omega), if_neg (by omega), if_pos hb, if_neg (by omega), Nat.mod_eq_of_lt hb]
theorem dec_more {l r : List UInt8} {k acc : Nat} {b : UInt8} (h : dec l = decF k acc (b :: r)) (hk9 : k < 9) (hb : ¬ b.toNat < 128) : dec l = decF (k + 1) (acc + b.toNat % 128 * 2 ^ (7 * k)) r := by
  rw [h, decF, if_neg (by omega), if_neg (by omega), if_neg hb]

/-- Block g is a reader in this state. -/
def Rd (w : World) (g : Nat) (s : St) : Prop := Blk w g 98 #[.string ⟨s.rest.toArray⟩, .bool s.bad]

/-- The world behind a method of a reader: it alone has turned, and new blocks. -/
structure RdTo (w w' : World) (g : Nat) (s : St) : Prop where
  rd : Rd w' g s
  only : w.grownBy w' (some g)

theorem only_setCell {a w : World} {g : Nat} (h : a.grownBy w (some g)) {p : Addr} (hp : p.block = g ∨ a.heap.size ≤ p.block) (u : Value) : a.grownBy (w.setCell p u) (some g) :=
  ⟨h.os, h.tape, h.output, by simpa [World.setCell] using h.size, fun i hi hne => (Below.heap_setCell w p u i (by
    rintro rfl
    rcases hp with hp | hp
    · exact hne (by rw [hp])
    · omega)).trans (h.block i hi hne)⟩
theorem only_trans {a b c : World} {g : Nat} (h : a.grownBy b (some g)) (k : b.grownBy c (some g)) : a.grownBy c (some g) :=
  ⟨k.os.trans h.os, k.tape.trans h.tape, k.output.trans h.output, Nat.le_trans h.size k.size, fun i hi hne => (k.block i (Nat.lt_of_lt_of_le hi h.size) hne).trans (h.block i hi hne)⟩
theorem only_drewN {a w : World} {row : Option Nat} (h : a.grownBy w row) (n : Nat) : a.grownBy (w.drewN n) row := ⟨h.os, h.tape, h.output, h.size, h.block⟩
theorem only_of_below {a w : World} (h : Below a.heap.size a w) (row : Option Nat) : a.grownBy w row := ⟨h.os, h.tape, h.output, h.size, fun i hi _ => h.block i hi⟩
theorem RdTo.refl {w : World} {g : Nat} {s : St} (h : Rd w g s) : RdTo w w g s := ⟨h, World.grownBy.refl w _⟩
theorem RdTo.trans {w w1 w2 : World} {g : Nat} {s t : St} (h : RdTo w w1 g s) (k : RdTo w1 w2 g t) : RdTo w w2 g t := ⟨k.rd, only_trans h.only k.only⟩
/-- A store into the reader's own two cells. -/
theorem RdTo.store {w w1 : World} {g : Nat} {s : St} (h : RdTo w w1 g s) (r : List UInt8) : RdTo w (w1.setCell ⟨g, 0, none⟩ (.string ⟨r.toArray⟩)) g ⟨r, s.bad⟩ :=
  ⟨by have := Blk.set_ h.rd 0 (.string ⟨r.toArray⟩); simpa [Rd] using this, only_setCell (p := ⟨g, 0, none⟩) h.only (.inl rfl) _⟩
theorem extract_from (l : List UInt8) (n : Nat) : (ByteArray.mk l.toArray).extract n l.length = ⟨(l.drop n).toArray⟩ := by
  rw [Lib.extract_eq]
  congr 2
  exact List.take_of_length_le (by simp)
theorem extract_to (l : List UInt8) (n : Nat) : (ByteArray.mk l.toArray).extract 0 n = ⟨(l.take n).toArray⟩ := by
  rw [Lib.extract_eq]
  rfl
theorem RdTo.storeB {w w1 : World} {g : Nat} {s : St} (h : RdTo w w1 g s) {x : ByteArray} {r : List UInt8} (hx : x = ⟨r.toArray⟩) : RdTo w (w1.setCell ⟨g, 0, none⟩ (.string x)) g ⟨r, s.bad⟩ := by
  rw [hx]
  exact h.store r
theorem RdTo.fails {w w1 : World} {g : Nat} {s : St} (h : RdTo w w1 g s) : RdTo w ((w1.setCell ⟨g, 0, none⟩ (.string ⟨#[]⟩)).setCell ⟨g, 1, none⟩ (.bool true)) g ⟨[], true⟩ :=
  ⟨by have := Blk.set_ (Blk.set_ h.rd 0 (.string ⟨#[]⟩)) 1 (.bool true); simpa [Rd] using this, only_setCell (p := ⟨g, 1, none⟩) (only_setCell (p := ⟨g, 0, none⟩) h.only (.inl rfl) _) (.inl rfl) _⟩

set_option maxHeartbeats 1000000 in
set_option maxRecDepth 100000 in
/-- fail. -/
theorem fail_any (g : Nat) (s : St) (w : World) (h : Rd w g s) : Calls Tryd.prog 45 #[.pointer (some ⟨g, 0, none⟩)] w fun e w' => e = .returned (.tuple #[]) ∧ RdTo w w' g ⟨[], true⟩ := by
  have c0 : w.cell? ⟨g, 0, none⟩ = some (.string ⟨s.rest.toArray⟩) := h.cell 0
  have c1 : w.cell? ⟨g, 1, none⟩ = some (.bool s.bad) := h.cell 1
  have f0 := Blk.frozen h 0
  have f1 := Blk.frozen h 1
  have H := Lib.hid (RdTo.fails (RdTo.refl h))
  clear h
  go_enter Tryd.func45, Tryd.ntmps45
  go_wp2
  go_end0
  exact ⟨rfl, H.out⟩

set_option maxHeartbeats 4000000 in
set_option maxRecDepth 100000 in
/-- number. -/
theorem number_any (g : Nat) (s : St) (w : World) (h : Rd w g s) (hl : s.rest.length ≤ 70368744177664) :
    Calls Tryd.prog 46 #[.pointer (some ⟨g, 0, none⟩)] w fun e w' => e = .returned (.int .u64 (rU s).1) ∧ RdTo w w' g (rU s).2 := by
  have c0 : w.cell? ⟨g, 0, none⟩ = some (.string ⟨s.rest.toArray⟩) := h.cell 0
  have f0 := Blk.frozen h 0
  have HR := Lib.hid h
  clear h
  obtain ⟨l, bad⟩ := s
  simp only at c0 hl
  go_enter Tryd.func46, Tryd.ntmps46
  go_wp2
  go_loop [3, 4] (fun vm vi => ∃ k acc : Nat, vi = .int .i64 k ∧ vm = .int .u64 acc ∧ k ≤ 10 ∧ k ≤ l.length ∧ acc < 2 ^ (7 * k) ∧ dec l = decF k acc (l.drop k))
    (fun _ vi => l.length - (intOf vi).toNat)
  case atStart => exact ⟨0, 0, rfl, rfl, by omega, by omega, by decide, rfl⟩
  case round =>
    obtain ⟨k, acc, rfl, rfl, hk10, hkn, hacc, hdec⟩ := hrel
    by_cases hk : k < l.length
    · by_cases hk9 : k < 10
      · have hdrop : l.drop k = l[k]'hk :: l.drop (k + 1) := List.drop_eq_getElem_cons hk
        rw [hdrop] at hdec
        have hks : k < (ByteArray.mk l.toArray).size := hk
        have hdec' : dec l = decF k acc ((ByteArray.mk l.toArray)[k]'hks :: l.drop (k + 1)) := hdec
        have hb256 : ((ByteArray.mk l.toArray)[k]'hks).toNat < 256 := (l[k]'hk).toNat_lt
        have HD := Lib.hid hdec'
        clear hdec hdrop hdec'
        have HA := Lib.hid hacc
        clear hacc
        by_cases h9 : 9 ≤ k
        · by_cases hb1 : 1 < ((ByteArray.mk l.toArray)[k]'hks).toNat
          · have HN := Lib.hid (dec_over HD.out (by omega) hb1)
            go_wp2_with (go_at_call 45; refine (fail_any g ⟨l, bad⟩ _ HR.out).mono ?_; rintro e w1 ⟨rfl, hto⟩)
            go_ret
            rw [rU_none HN.out]
            exact ⟨rfl, hto⟩
          · by_cases hb0 : ((ByteArray.mk l.toArray)[k]'hks).toNat < 1
            · have HN := Lib.hid (dec_zero HD.out (by omega) (by omega) hb0)
              go_wp2_with (go_at_call 45; refine (fail_any g ⟨l, bad⟩ _ HR.out).mono ?_; rintro e w1 ⟨rfl, hto⟩)
              go_ret
              rw [rU_none HN.out]
              exact ⟨rfl, hto⟩
            · have HS := Lib.hid (dec_last HD.out (by omega) (by omega) (by omega) (by omega))
              go_wp2
              go_ret
              rw [rU_some HS.out]
              obtain rfl : k = 9 := by omega
              exact ⟨congrArg (fun x => Ending.returned (.int .u64 x)) (or_step9 acc _ HA.out (by omega)), RdTo.storeB (s := ⟨l, bad⟩) (RdTo.refl HR.out) (extract_from l _)⟩
        · by_cases hb : ((ByteArray.mk l.toArray)[k]'hks).toNat < 128
          · by_cases hb0 : ((ByteArray.mk l.toArray)[k]'hks).toNat < 1
            · by_cases hk0 : 0 < k
              · have HN := Lib.hid (dec_zero HD.out (by omega) hk0 hb0)
                go_wp2_with (go_at_call 45; refine (fail_any g ⟨l, bad⟩ _ HR.out).mono ?_; rintro e w1 ⟨rfl, hto⟩)
                go_ret
                rw [rU_none HN.out]
                exact ⟨rfl, hto⟩
              · have HS := Lib.hid (dec_last HD.out (by omega) (by omega) (by omega) (by omega))
                have hor := or_zero k acc HA.out (by omega)
                go_wp2
                go_ret
                rw [rU_some HS.out]
                have hz : ((ByteArray.mk l.toArray)[k]'hks).toNat % 128 = 0 := by omega
                exact ⟨congrArg (fun x : Nat => Ending.returned (.int .u64 x)) (show acc = acc + ((ByteArray.mk l.toArray)[k]'hks).toNat % 128 * 2 ^ (7 * k) by rw [hz]; simp), RdTo.storeB (s := ⟨l, bad⟩) (RdTo.refl HR.out) (extract_from l _)⟩
            · have HS := Lib.hid (dec_last HD.out (by omega) (by omega) (by omega) (by omega))
              have hor := or_step k acc ((ByteArray.mk l.toArray)[k]'hks).toNat HA.out (step_fits k _ (by omega) (by omega)) (by omega)
              go_wp2
              go_ret
              rw [rU_some HS.out]
              exact ⟨rfl, RdTo.storeB (s := ⟨l, bad⟩) (RdTo.refl HR.out) (extract_from l _)⟩
          · have HM := Lib.hid (dec_more HD.out (by omega) hb)
            have hor := or_step k acc ((ByteArray.mk l.toArray)[k]'hks).toNat HA.out (step_fits k _ (by omega) (by omega)) (by omega)
            go_wp2
            go_round
            case rel => exact ⟨k + 1, _, by go_num, rfl, by omega, by omega, acc_step k acc _ HA.out, HM.out⟩
            case measure => simp [intOf]; omega
      · have HN := Lib.hid (dec_ten hdec (by omega))
        go_wp2_with (go_at_call 45; refine (fail_any g ⟨l, bad⟩ _ HR.out).mono ?_; rintro e w1 ⟨rfl, hto⟩)
        go_ret
        rw [rU_none HN.out]
        exact ⟨rfl, hto⟩
    · have HN := Lib.hid (dec_end hdec (by omega))
      go_wp2_with (go_at_call 45; refine (fail_any g ⟨l, bad⟩ _ HR.out).mono ?_; rintro e w1 ⟨rfl, hto⟩)
      go_ret
      rw [rU_none HN.out]
      exact ⟨rfl, hto⟩

end Go.Proofs.YtefgajipakjpeaaDoor
