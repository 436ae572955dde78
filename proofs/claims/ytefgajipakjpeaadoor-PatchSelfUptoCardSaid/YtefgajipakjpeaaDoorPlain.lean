/-
  Plain Lean, no program in sight: the canonical binary encoding (groups of seven bits), its reader as a function on states, and the two laws that tie them: what is written is read back, and what is read was written. No conditions beyond those in each theorem's own statement.
-/
import Derived.Lib.Varint
import Derived.Lib.VarintDec
import Derived.Lib.Zigzag
namespace Go.Proofs.YtefgajipakjpeaaDoor
open Go

/-- A reader's state: what is left, and whether it has failed. -/
structure St where
  rest : List UInt8
  bad : Bool

/-- i bytes are read, each with the bit 128; 'acc' is what their seven bits spell. -/
def decF : Nat → Nat → List UInt8 → Option (Nat × List UInt8)
  | _, _, [] => none
  | i, acc, b :: r =>
    if i = 10 then none
    else if i = 9 ∧ 1 < b.toNat then none
    else if b.toNat < 128 then (if b.toNat = 0 ∧ 0 < i then none else some (acc + b.toNat * 2 ^ (7 * i), r))
    else decF (i + 1) (acc + b.toNat % 128 * 2 ^ (7 * i)) r

theorem toUInt8_toNat' {a : Nat} (h : a < 256) : (a.toUInt8).toNat = a := by
  simp [Nat.toUInt8, UInt8.toNat_ofNat']
  omega

theorem toUInt8_of (b : UInt8) : (b.toNat).toUInt8 = b := by
  simp [Nat.toUInt8]

theorem two_pow_7 (i : Nat) : (2 : Nat) ^ (7 * (i + 1)) = 128 * 2 ^ (7 * i) := by
  rw [Nat.mul_add, Nat.pow_add]
  show 2 ^ (7 * i) * 128 = _
  omega

theorem decF_some : ∀ (l : List UInt8) (i acc m : Nat) (r : List UInt8), i ≤ 9 →
    (decF i acc l = some (m, r) ↔ ∃ x, l = Lib.uvarint x ++ r ∧ m = acc + x * 2 ^ (7 * i) ∧ (0 < i → 0 < x) ∧ x * 2 ^ (7 * i) < 2 ^ 64)
  | [], i, acc, m, r, _ => by
    constructor
    · intro h; simp [decF] at h
    · rintro ⟨x, h, _⟩
      have := congrArg List.length h
      have hp := Lib.uvarint_pos x
      simp at this
      omega
  | b :: l, i, acc, m, r, hi => by
    have hb256 : b.toNat < 256 := b.toNat_lt
    have hpos : 0 < 2 ^ (7 * i) := Nat.pow_pos (by decide)
    unfold decF
    rw [if_neg (by omega)]
    by_cases h9 : i = 9 ∧ 1 < b.toNat
    · rw [if_pos h9]
      obtain ⟨rfl, h9⟩ := h9
      constructor
      · intro h; cases h
      · rintro ⟨x, hl, _, hx0, hx⟩
        have hx2 : x < 2 := by
          have e : (2 : Nat) ^ 64 = 2 * 2 ^ (7 * 9) := by decide
          rw [e] at hx
          exact Nat.lt_of_mul_lt_mul_right hx
        rw [Lib.uvarint_small (by omega)] at hl
        simp only [List.cons_append, List.nil_append, List.cons.injEq] at hl
        have := toUInt8_toNat' (a := x) (by omega)
        rw [← hl.1] at this
        omega
    · rw [if_neg h9]
      by_cases h128 : b.toNat < 128
      · rw [if_pos h128]
        by_cases h0 : b.toNat = 0 ∧ 0 < i
        · rw [if_pos h0]
          constructor
          · intro h; cases h
          · rintro ⟨x, hl, _, hx0, hx⟩
            have hx1 := hx0 h0.2
            by_cases hs : x < 128
            · rw [Lib.uvarint_small hs] at hl
              simp only [List.cons_append, List.nil_append, List.cons.injEq] at hl
              have := toUInt8_toNat' (a := x) (by omega)
              rw [← hl.1] at this
              omega
            · rw [Lib.uvarint_big (by omega)] at hl
              simp only [List.cons_append, List.cons.injEq] at hl
              have := toUInt8_toNat' (a := x % 128 + 128) (by omega)
              rw [← hl.1] at this
              omega
        · rw [if_neg h0]
          constructor
          · intro h
            simp only [Option.some.injEq, Prod.mk.injEq] at h
            obtain ⟨rfl, rfl⟩ := h
            refine ⟨b.toNat, by rw [Lib.uvarint_small h128, toUInt8_of]; rfl, rfl, by omega, ?_⟩
            by_cases h9' : i = 9
            · subst h9'
              have : b.toNat ≤ 1 := by omega
              exact Nat.lt_of_le_of_lt (Nat.mul_le_mul_right _ this) (by decide)
            · have hle : 2 ^ (7 * i) ≤ 2 ^ 56 := Nat.pow_le_pow_right (by decide) (by omega)
              have h1 : b.toNat * 2 ^ (7 * i) ≤ 127 * 2 ^ 56 := Nat.mul_le_mul (by omega) hle
              exact Nat.lt_of_le_of_lt h1 (by decide)
          · rintro ⟨x, hl, rfl, hx0, hx⟩
            by_cases hs : x < 128
            · rw [Lib.uvarint_small hs] at hl
              simp only [List.cons_append, List.nil_append, List.cons.injEq] at hl
              have := toUInt8_toNat' (a := x) (by omega)
              rw [← hl.1] at this
              rw [this, hl.2]
            · rw [Lib.uvarint_big (by omega)] at hl
              simp only [List.cons_append, List.cons.injEq] at hl
              have := toUInt8_toNat' (a := x % 128 + 128) (by omega)
              rw [← hl.1] at this
              omega
      · rw [if_neg h128]
        have hi8 : i + 1 ≤ 9 := by omega
        rw [decF_some l (i + 1) _ m r hi8]
        constructor
        · rintro ⟨y, hl, rfl, hy0, hy⟩
          have hy1 := hy0 (by omega)
          have ex : 128 * y + b.toNat % 128 = b.toNat % 128 + 128 * y := by omega
          refine ⟨128 * y + b.toNat % 128, ?_, ?_, by omega, ?_⟩
          · rw [Lib.uvarint_big (by omega)]
            have e1 : (128 * y + b.toNat % 128) / 128 = y := by omega
            have e2 : (128 * y + b.toNat % 128) % 128 + 128 = b.toNat := by omega
            rw [e1, e2, toUInt8_of, hl]
            rfl
          · rw [two_pow_7, Nat.add_mul, ← Nat.mul_assoc, Nat.mul_comm y 128]
            omega
          · rw [two_pow_7] at hy
            rw [Nat.add_mul]
            have e64 : (2 : Nat) ^ 64 = 2 ^ (64 - 7 * (i + 1)) * (128 * 2 ^ (7 * i)) := by
              rw [← two_pow_7, ← Nat.pow_add]
              congr 1
              omega
            rw [e64] at hy ⊢
            have hy2 : y < 2 ^ (64 - 7 * (i + 1)) := Nat.lt_of_mul_lt_mul_right hy
            have h1 : (y + 1) * (128 * 2 ^ (7 * i)) ≤ 2 ^ (64 - 7 * (i + 1)) * (128 * 2 ^ (7 * i)) := Nat.mul_le_mul_right _ hy2
            have h2 : b.toNat % 128 * 2 ^ (7 * i) < 128 * 2 ^ (7 * i) := Nat.mul_lt_mul_of_pos_right (Nat.mod_lt _ (by decide)) hpos
            rw [Nat.add_mul, Nat.one_mul] at h1
            have e3 : 128 * y * 2 ^ (7 * i) = y * (128 * 2 ^ (7 * i)) := by
              rw [Nat.mul_comm 128 y, Nat.mul_assoc]
            omega
        · rintro ⟨x, hl, rfl, hx0, hx⟩
          have hs : ¬ x < 128 := by
            intro hs
            rw [Lib.uvarint_small hs] at hl
            simp only [List.cons_append, List.nil_append, List.cons.injEq] at hl
            have := toUInt8_toNat' (a := x) (by omega)
            rw [← hl.1] at this
            omega
          rw [Lib.uvarint_big (by omega)] at hl
          simp only [List.cons_append, List.cons.injEq] at hl
          have hb := toUInt8_toNat' (a := x % 128 + 128) (by omega)
          rw [← hl.1] at hb
          refine ⟨x / 128, hl.2, ?_, by omega, ?_⟩
          · rw [two_pow_7, ← Nat.mul_assoc, Nat.mul_comm (x / 128) 128]
            have e : b.toNat % 128 = x % 128 := by omega
            rw [e, Nat.add_assoc, ← Nat.add_mul]
            congr 2
            omega
          · rw [two_pow_7]
            refine Nat.lt_of_le_of_lt ?_ hx
            rw [← Nat.mul_assoc]
            exact Nat.mul_le_mul_right _ (by omega)

/-- What a reader reads of a number: the number and what is left. -/
def dec (l : List UInt8) : Option (Nat × List UInt8) := decF 0 0 l

theorem dec_some (l : List UInt8) (m : Nat) (r : List UInt8) : dec l = some (m, r) ↔ l = Lib.uvarint m ++ r ∧ m < 2 ^ 64 := by
  unfold dec
  rw [decF_some l 0 0 m r (by omega)]
  constructor
  · rintro ⟨x, h1, h2, _, h3⟩
    have : m = x := by simpa using h2
    subst this
    exact ⟨h1, by simpa using h3⟩
  · rintro ⟨h1, h2⟩
    exact ⟨m, h1, by simp, by omega, by simpa using h2⟩

theorem dec_uvarint (m : Nat) (r : List UInt8) (h : m < 2 ^ 64) : dec (Lib.uvarint m ++ r) = some (m, r) := (dec_some _ _ _).2 ⟨rfl, h⟩

/-- The number of a reader. -/
def rU (s : St) : Nat × St :=
  match dec s.rest with
  | some (m, r) => (m, ⟨r, s.bad⟩)
  | none => (0, ⟨[], true⟩)

theorem rU_lt (s : St) : (rU s).1 < 2 ^ 64 := by
  unfold rU
  cases h : dec s.rest with
  | none => exact (by decide : 0 < 2 ^ 64)
  | some x => exact ((dec_some _ _ _).1 h).2

/-- Num. -/
def rNum (s : St) : Nat × St := if (rU s).1 < 2 ^ 63 then rU s else (0, ⟨[], true⟩)

theorem rNum_lt (s : St) : (rNum s).1 < 2 ^ 63 := by
  unfold rNum
  split
  · assumption
  · decide

/-- Int. -/
def rInt (s : St) : Int × St := (Lib.unzigzag (rU s).1, (rU s).2)

/-- Text. -/
def rText (s : St) : List UInt8 × St :=
  if (rNum s).1 ≤ (rNum s).2.rest.length then ((rNum s).2.rest.take (rNum s).1, ⟨(rNum s).2.rest.drop (rNum s).1, (rNum s).2.bad⟩) else ([], ⟨[], true⟩)

/-- n elements, or fewer where the reader fails. -/
def rItems {α : Type} (f : St → α × St) : Nat → St → List α × St
  | 0, s => ([], s)
  | n + 1, s => if s.bad then ([], s) else ((f s).1 :: (rItems f n (f s).2).1, (rItems f n (f s).2).2)

/-- A list. -/
def rList {α : Type} (f : St → α × St) (s : St) : List α × St :=
  if (rItems f (rNum s).1 (rNum s).2).2.bad then ([], (rItems f (rNum s).1 (rNum s).2).2) else rItems f (rNum s).1 (rNum s).2

def rNums (s : St) : List Int × St := rList rInt s
def rTexts (s : St) : List (List UInt8) × St := rList rText s

/-! What is written. -/
def wNum (n : Int) : List UInt8 := if n < 0 then [] else Lib.uvarint n.toNat
def wInt (n : Int) : List UInt8 := Lib.uvarint (Lib.zigzag n)
def wText (l : List UInt8) : List UInt8 := Lib.uvarint l.length ++ l
def wList {α : Type} (f : α → List UInt8) (l : List α) : List UInt8 := Lib.uvarint l.length ++ l.flatMap f
def wNums (l : List Int) : List UInt8 := wList wInt l
def wTexts (l : List (List UInt8)) : List UInt8 := wList wText l

/-- An int of Go. -/
def I64 (n : Int) : Prop := -9223372036854775808 ≤ n ∧ n ≤ 9223372036854775807

theorem unzigzag_zigzag (n : Int) : Lib.unzigzag (Lib.zigzag n) = n := by
  unfold Lib.unzigzag Lib.zigzag
  split <;> split <;> omega

theorem zigzag_unzigzag (u : Nat) : Lib.zigzag (Lib.unzigzag u) = u := by
  unfold Lib.unzigzag Lib.zigzag
  split <;> split <;> omega

theorem unzigzag_i64 {u : Nat} (h : u < 2 ^ 64) : I64 (Lib.unzigzag u) := by
  unfold I64 Lib.unzigzag
  split <;> omega

/-! ### What is written is read back -/
theorem rU_w (m : Nat) (t : List UInt8) (b : Bool) (h : m < 2 ^ 64) : rU ⟨Lib.uvarint m ++ t, b⟩ = (m, ⟨t, b⟩) := by
  unfold rU
  simp only [dec_uvarint m t h]

theorem rNum_w (m : Nat) (t : List UInt8) (b : Bool) (h : m < 2 ^ 63) : rNum ⟨Lib.uvarint m ++ t, b⟩ = (m, ⟨t, b⟩) := by
  unfold rNum
  rw [rU_w m t b (by omega), if_pos h]

theorem rInt_w (n : Int) (t : List UInt8) (b : Bool) (h : I64 n) : rInt ⟨wInt n ++ t, b⟩ = (n, ⟨t, b⟩) := by
  unfold rInt wInt
  rw [rU_w _ t b (Lib.zigzag_lt h.1 h.2), unzigzag_zigzag]

theorem rText_w (l t : List UInt8) (b : Bool) (h : l.length < 2 ^ 63) : rText ⟨wText l ++ t, b⟩ = (l, ⟨t, b⟩) := by
  unfold rText wText
  rw [List.append_assoc, rNum_w _ _ b h]
  simp

theorem rItems_w {α : Type} (f : St → α × St) (w : α → List UInt8) : ∀ (l : List α) (t : List UInt8), (∀ a ∈ l, ∀ t, f ⟨w a ++ t, false⟩ = (a, ⟨t, false⟩)) →
    rItems f l.length ⟨l.flatMap w ++ t, false⟩ = (l, ⟨t, false⟩)
  | [], t, _ => by simp [rItems]
  | a :: l, t, h => by
    have h1 := h a (by simp) (l.flatMap w ++ t)
    have h2 := rItems_w f w l t (fun x hx => h x (by simp [hx]))
    simp only [List.length_cons, rItems, List.flatMap_cons, List.append_assoc, h1, h2]
    simp

theorem rList_w {α : Type} (f : St → α × St) (w : α → List UInt8) (l : List α) (t : List UInt8) (hl : l.length < 2 ^ 63) (h : ∀ a ∈ l, ∀ t, f ⟨w a ++ t, false⟩ = (a, ⟨t, false⟩)) :
    rList f ⟨wList w l ++ t, false⟩ = (l, ⟨t, false⟩) := by
  unfold rList wList
  rw [List.append_assoc, rNum_w _ _ false hl]
  simp [rItems_w f w l t h]

theorem rNums_w (l : List Int) (t : List UInt8) (hl : l.length < 2 ^ 63) (h : ∀ n ∈ l, I64 n) : rNums ⟨wNums l ++ t, false⟩ = (l, ⟨t, false⟩) :=
  rList_w rInt wInt l t hl fun n hn t => rInt_w n t false (h n hn)

theorem rTexts_w (l : List (List UInt8)) (t : List UInt8) (hl : l.length < 2 ^ 63) (h : ∀ x ∈ l, x.length < 2 ^ 63) : rTexts ⟨wTexts l ++ t, false⟩ = (l, ⟨t, false⟩) :=
  rList_w rText wText l t hl fun x hx t => rText_w x t false (h x hx)

/-! ### What is read was written -/
theorem rU_r (s : St) (h : (rU s).2.bad = false) : s.rest = Lib.uvarint (rU s).1 ++ (rU s).2.rest ∧ s.bad = false := by
  unfold rU at h ⊢
  cases hd : dec s.rest with
  | none => rw [hd] at h; cases h
  | some x =>
    rw [hd] at h
    exact ⟨((dec_some _ _ _).1 hd).1, h⟩

theorem rNum_r (s : St) (h : (rNum s).2.bad = false) : s.rest = Lib.uvarint (rNum s).1 ++ (rNum s).2.rest ∧ s.bad = false := by
  unfold rNum at h ⊢
  split
  · rename_i hlt
    rw [if_pos hlt] at h
    exact rU_r s h
  · rename_i hlt
    rw [if_neg hlt] at h
    cases h

theorem rInt_r (s : St) (h : (rInt s).2.bad = false) : s.rest = wInt (rInt s).1 ++ (rInt s).2.rest ∧ s.bad = false := by
  unfold wInt rInt at *
  rw [zigzag_unzigzag]
  exact rU_r s h

theorem rText_r (s : St) (h : (rText s).2.bad = false) : s.rest = wText (rText s).1 ++ (rText s).2.rest ∧ s.bad = false := by
  unfold rText at h ⊢
  split
  · rename_i hle
    rw [if_pos hle] at h
    have h1 := rNum_r s h
    refine ⟨?_, h1.2⟩
    unfold wText
    simp only [List.length_take, Nat.min_eq_left hle, List.append_assoc, List.take_append_drop]
    exact h1.1
  · rename_i hle
    rw [if_neg hle] at h
    cases h

/-- A reader that has failed stays so. -/
theorem rItems_r {α : Type} (f : St → α × St) (w : α → List UInt8) (hf : ∀ s, (f s).2.bad = false → s.rest = w (f s).1 ++ (f s).2.rest ∧ s.bad = false) :
    ∀ (n : Nat) (s : St), (rItems f n s).2.bad = false → s.rest = (rItems f n s).1.flatMap w ++ (rItems f n s).2.rest ∧ s.bad = false ∧ (rItems f n s).1.length = n
  | 0, s, h => by simpa [rItems] using h
  | n + 1, s, h => by
    unfold rItems at h ⊢
    cases hb : s.bad with
    | true => simp [hb] at h
    | false =>
      simp only [hb] at h ⊢
      have ih := rItems_r f w hf n (f s).2 h
      have h1 := hf s ih.2.1
      refine ⟨?_, trivial, by simp [ih.2.2]⟩
      simp only [Bool.false_eq_true, if_false, List.flatMap_cons, List.append_assoc]
      rw [← ih.1]
      exact h1.1

theorem rList_r {α : Type} (f : St → α × St) (w : α → List UInt8) (hf : ∀ s, (f s).2.bad = false → s.rest = w (f s).1 ++ (f s).2.rest ∧ s.bad = false)
    (s : St) (h : (rList f s).2.bad = false) : s.rest = wList w (rList f s).1 ++ (rList f s).2.rest ∧ s.bad = false := by
  unfold rList at h ⊢
  split
  · rename_i hb
    rw [if_pos hb] at h
    rw [hb] at h
    cases h
  · rename_i hb
    rw [if_neg hb] at h
    have h1 := rItems_r f w hf _ _ h
    have h2 := rNum_r s h1.2.1
    refine ⟨?_, h2.2⟩
    unfold wList
    rw [h1.2.2, List.append_assoc, ← h1.1]
    exact h2.1

theorem rNums_r (s : St) (h : (rNums s).2.bad = false) : s.rest = wNums (rNums s).1 ++ (rNums s).2.rest ∧ s.bad = false := rList_r rInt wInt rInt_r s h
theorem rTexts_r (s : St) (h : (rTexts s).2.bad = false) : s.rest = wTexts (rTexts s).1 ++ (rTexts s).2.rest ∧ s.bad = false := rList_r rText wText rText_r s h

end Go.Proofs.YtefgajipakjpeaaDoor
