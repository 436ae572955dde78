/-
  The permutation of package digest in plain Lean, over integers, with the model's own operations on 64 bits. Conditions: none.
-/
import Derived.Test.YtefgajipakjpeaaDoorRead2
namespace Go.Proofs.YtefgajipakjpeaaDoor
open Go.RowKit

def xo (a b : Int) : Int := bits .xor .u64 a b
def an (a b : Int) : Int := bits .and .u64 a b
def no (a : Int) : Int := bits .xor .u64 (if IntKind.u64.signed = true then -1 else IntKind.u64.max) a
def ro (x : Int) (k : Nat) : Int := bits .or .u64 (IntKind.u64.wrap (x * 2 ^ k)) (x / 2 ^ (64 - k))

def turnsL : List Nat := [0, 1, 62, 28, 27, 36, 44, 6, 55, 20, 3, 10, 43, 25, 39, 41, 45, 15, 21, 8, 18, 2, 61, 56, 14]
def constsL : List Int := [1, 32898, 9223372036854808714, 9223372039002292224, 32907, 2147483649, 9223372039002292353, 9223372036854808585, 138, 136, 2147516425, 2147483658, 2147516555, 9223372036854775947, 9223372036854808713, 9223372036854808579, 9223372036854808578, 9223372036854775936, 32778, 9223372039002259466, 9223372039002292353, 9223372036854808704, 2147483649, 9223372039002292232]

/-- One lane into the column's sum; one lane turned and moved; one lane of the result. -/
def stepP (a p : List Int) (i : Nat) : List Int := p.set (i % 5) (xo (p.getD (i % 5) 0) (a.getD i 0))
def pAt (a : List Int) (k : Nat) : List Int := (List.range k).foldl (stepP a) (List.replicate 5 0)
def stepB (a p b : List Int) (i : Nat) : List Int :=
  b.set (i / 5 + 5 * ((2 * (i % 5) + 3 * (i / 5)) % 5)) (ro (xo (a.getD i 0) (xo (p.getD ((i % 5 + 4) % 5) 0) (ro (p.getD ((i % 5 + 1) % 5) 0) 1))) (turnsL.getD i 0))
def bAt (a p : List Int) (k : Nat) : List Int := (List.range k).foldl (stepB a p) (List.replicate 25 0)
def stepA (b a : List Int) (i : Nat) : List Int :=
  a.set i (xo (b.getD i 0) (an (no (b.getD (i - i % 5 + (i % 5 + 1) % 5) 0)) (b.getD (i - i % 5 + (i % 5 + 2) % 5) 0)))
def aAt (b a : List Int) (k : Nat) : List Int := (List.range k).foldl (stepA b) a
def roundI (a : List Int) (c : Int) : List Int :=
  let r := aAt (bAt a (pAt a 25) 25) a 25
  r.set 0 (xo (r.getD 0 0) c)
def permAt (a : List Int) (k : Nat) : List Int := (constsL.take k).foldl roundI a
def permI (a : List Int) : List Int := permAt a 24

theorem pAt_step (a : List Int) (k : Nat) : pAt a (k + 1) = stepP a (pAt a k) k := by unfold pAt; rw [List.range_succ, List.foldl_append]; rfl
theorem bAt_step (a p : List Int) (k : Nat) : bAt a p (k + 1) = stepB a p (bAt a p k) k := by unfold bAt; rw [List.range_succ, List.foldl_append]; rfl
theorem aAt_step (b a : List Int) (k : Nat) : aAt b a (k + 1) = stepA b (aAt b a k) k := by unfold aAt; rw [List.range_succ, List.foldl_append]; rfl
theorem permAt_step (a : List Int) (k : Nat) (hk : k < 24) : permAt a (k + 1) = roundI (permAt a k) (constsL.getD k 0) := by
  unfold permAt
  have hk' : k < constsL.length := hk
  rw [List.take_succ_eq_append_getElem hk', List.foldl_append]
  simp [List.getD, List.getElem?_eq_getElem hk']
theorem pAt_length (a : List Int) (k : Nat) : (pAt a k).length = 5 := by
  induction k with
  | zero => rfl
  | succ k ih => rw [pAt_step]; unfold stepP; rw [List.length_set, ih]
theorem bAt_length (a p : List Int) (k : Nat) : (bAt a p k).length = 25 := by
  induction k with
  | zero => rfl
  | succ k ih => rw [bAt_step]; unfold stepB; rw [List.length_set, ih]
theorem aAt_length (b a : List Int) (k : Nat) : (aAt b a k).length = a.length := by
  induction k with
  | zero => rfl
  | succ k ih => rw [aAt_step]; unfold stepA; rw [List.length_set, ih]
theorem roundI_length (a : List Int) (c : Int) : (roundI a c).length = a.length := by unfold roundI; simp only [List.length_set, aAt_length]
theorem permAt_length (a : List Int) (k : Nat) (hk : k ≤ 24) : (permAt a k).length = a.length := by
  induction k with
  | zero => rfl
  | succ k ih => rw [permAt_step a k (by omega), roundI_length, ih (by omega)]

theorem and63 (k : Nat) (hk : k < 64) : bits .and .u64 (k : Int) 63 = (k : Int) := by
  have h := bits_and_u64_nat k 63 (by omega) (by decide)
  rw [show (63 : Nat) = 2 ^ 6 - 1 from rfl, Nat.and_two_pow_sub_one_eq_mod, Nat.mod_eq_of_lt (by omega)] at h
  exact h
set_option maxHeartbeats 1000000 in
/-- RotateLeft64. -/
theorem Rot_any (x : Int) (k : Nat) (hk : k < 64) (w : World) : Calls Tryd.prog 90 #[.int .u64 x, .int .i64 k] w fun e w' => e = .returned (.int .u64 (ro x k)) ∧ w = w' := by
  have h0 : (0 : Int) ≤ (k : Int) := by omega
  have h1 : (k : Int) < 64 := by omega
  have h2 := and63 k hk
  go_enter Tryd.func90, Tryd.ntmps90
  go_wp2
  go_ret
  exact ⟨rfl, rfl⟩

end Go.Proofs.YtefgajipakjpeaaDoor
