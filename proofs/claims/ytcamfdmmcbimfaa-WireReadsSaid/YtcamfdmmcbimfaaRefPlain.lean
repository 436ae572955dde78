/-
  The reference's way to read a number, in plain Lean: count the bytes from 128 on, sum the bytes up to the one behind them from the end, write the number again and compare. It answers as dec does.
-/
import Derived.Test.YtcamfdmmcbimfaaPlain
namespace Go.Proofs.Ytcamfdmmcbimfaa

/-- How many bytes at the beginning are from 128 on. -/
def lead : List UInt8 → Nat
  | [] => 0
  | b :: t => if 128 ≤ b.toNat then lead t + 1 else 0
/-- The number that the bytes make. -/
def leV : List UInt8 → Nat
  | [] => 0
  | b :: t => 128 * leV t + b.toNat % 128

theorem lead_hi {b : UInt8} (t : List UInt8) (h : 128 ≤ b.toNat) : lead (b :: t) = lead t + 1 := if_pos h
theorem lead_lo {b : UInt8} (t : List UInt8) (h : ¬ 128 ≤ b.toNat) : lead (b :: t) = 0 := if_neg h

theorem lead_le : ∀ (l : List UInt8), lead l ≤ l.length
  | [] => Nat.le_refl _
  | b :: t => by
    have := lead_le t
    unfold lead
    split
    · simpa using this
    · simp
theorem lead_lt : ∀ (l : List UInt8) (i : Nat) (_ : i < lead l) (h' : i < l.length), 128 ≤ (l[i]'h').toNat
  | [], i, h, _ => by simp [lead] at h
  | b :: t, i, h, h' => by
    unfold lead at h
    split at h
    · rename_i hb
      cases i with
      | zero => exact hb
      | succ i => exact lead_lt t i (by omega) (by simpa using h')
    · omega
theorem lead_at : ∀ (l : List UInt8) (h : lead l < l.length), (l[lead l]'h).toNat < 128
  | [], h => by simp at h
  | b :: t, h => by
    by_cases hb : 128 ≤ b.toNat
    · have e : lead (b :: t) = lead t + 1 := lead_hi t hb
      have h2 : lead t < t.length := by rw [e] at h; simpa using h
      have h3 := lead_at t h2
      simp only [e, List.getElem_cons_succ]
      exact h3
    · have e : lead (b :: t) = 0 := lead_lo t hb
      simp only [e, List.getElem_cons_zero]
      omega

theorem lead_uvarint (m : Nat) (r : List UInt8) : lead (Lib.uvarint m ++ r) + 1 = (Lib.uvarint m).length := by
  induction m using Nat.strongRecOn with
  | ind m ih =>
    by_cases h : m < 128
    · rw [Lib.uvarint_small h]
      have hb : ¬ 128 ≤ (m.toUInt8).toNat := by rw [toUInt8_toNat' (by omega)]; omega
      rw [List.singleton_append, lead_lo _ hb]
      rfl
    · rw [Lib.uvarint_big (by omega)]
      have hb : 128 ≤ ((m % 128 + 128).toUInt8).toNat := by rw [toUInt8_toNat' (by omega)]; omega
      have := ih (m / 128) (by omega)
      rw [List.cons_append, lead_hi _ hb, this, List.length_cons]
theorem leV_uvarint (m : Nat) : leV (Lib.uvarint m) = m := by
  induction m using Nat.strongRecOn with
  | ind m ih =>
    by_cases h : m < 128
    · rw [Lib.uvarint_small h]
      simp only [leV]
      rw [toUInt8_toNat' (by omega)]
      omega
    · rw [Lib.uvarint_big (by omega)]
      simp only [leV]
      rw [ih (m / 128) (by omega), toUInt8_toNat' (by omega)]
      omega

theorem dec_of {l : List UInt8} {m : Nat} {r : List UInt8} (h : dec l = some (m, r)) : Lib.uvarint m = l.take (lead l + 1) ∧ lead l < l.length ∧ lead l ≤ 9 ∧ m < 2 ^ 64 := by
  obtain ⟨rfl, hm⟩ := (dec_some _ _ _).1 h
  have h1 := lead_uvarint m r
  have h2 := Lib.uvarint_length64 (x := m) (by omega)
  rw [h1]
  refine ⟨by simp, by simp; omega, by omega, hm⟩

theorem ref_far {l : List UInt8} (h : l.length ≤ lead l ∨ 9 < lead l) : dec l = none := by
  cases hd : dec l with
  | none => rfl
  | some x => obtain ⟨-, h2, h3, -⟩ := dec_of (show dec l = some (x.1, x.2) from hd); omega
theorem ref_is {l : List UInt8} {m : Nat} (hm : m < 2 ^ 64) (h : Lib.uvarint m = l.take (lead l + 1)) : dec l = some (m, l.drop (lead l + 1)) :=
  (dec_some _ _ _).2 ⟨by rw [h, List.take_append_drop], hm⟩
theorem ref_not {l : List UInt8} (h : Lib.uvarint (leV (l.take (lead l + 1)) % 2 ^ 64) ≠ l.take (lead l + 1)) : dec l = none := by
  cases hd : dec l with
  | none => rfl
  | some x =>
    obtain ⟨h1, -, -, h4⟩ := dec_of (show dec l = some (x.1, x.2) from hd)
    refine absurd ?_ h
    rw [← h1, leV_uvarint, Nat.mod_eq_of_lt h4]

theorem leV_drop (l : List UInt8) (k : Nat) (h : k < l.length) : leV (l.drop k) = 128 * leV (l.drop (k + 1)) + (l[k]'h).toNat % 128 := by
  rw [List.drop_eq_getElem_cons h]
  rfl
/-- One step of the sum. -/
theorem leV_step (l : List UInt8) (k n : Nat) (h : k < l.length) (hk : k < n) : leV ((l.take n).drop k) % 2 ^ 64 = (128 * (leV ((l.take n).drop (k + 1)) % 2 ^ 64) + (l[k]'h).toNat % 128) % 2 ^ 64 := by
  have h1 : k < (l.take n).length := by rw [List.length_take]; omega
  rw [leV_drop _ k h1, List.getElem_take]
  omega

end Go.Proofs.Ytcamfdmmcbimfaa
