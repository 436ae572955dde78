/-
  Plain Lean: what patch.Read reads of a string, and that it inverts Bytes. Conditions: those in each theorem's own statement.
-/
import Derived.Test.YtefgajipakjpeaaDoorBytes
namespace Go.Proofs.YtefgajipakjpeaaDoor
open Go.RowKit

structure PD where
  from_ : List UInt8
  to_ : List UInt8
  edits : List EditD
def PD.nil : PD := ⟨[], [], []⟩
def wPD (p : PD) : List UInt8 := wText p.from_ ++ wText p.to_ ++ wNum (p.edits.length : Int) ++ p.edits.flatMap wEdit
def PatchD.pd (p : PatchD) : PD := ⟨p.from_, p.to_, p.edits⟩
theorem wPatch_pd (p : PatchD) : wPatch p = wPD p.pd := rfl

def rEdit (s : St) : EditD × St := (⟨(rInt s).1, (rInt (rInt s).2).1, (rText (rInt (rInt s).2).2).1⟩, (rText (rInt (rInt s).2).2).2)
def rEdits : Nat → St → List EditD × St
  | 0, s => ([], s)
  | n + 1, s => if s.rest.isEmpty then ([], s) else ((rEdit s).1 :: (rEdits n (rEdit s).2).1, (rEdits n (rEdit s).2).2)

theorem rEdits_succ (n : Nat) (s : St) : rEdits (n + 1) s = if s.rest.isEmpty then ([], s) else ((rEdit s).1 :: (rEdits n (rEdit s).2).1, (rEdits n (rEdit s).2).2) := rfl
theorem rInt_less (s : St) (h : (rInt s).2.bad = false) : (rInt s).2.rest.length < s.rest.length := by
  have h1 := (rInt_r s h).1
  rw [h1, List.length_append]
  have := Lib.uvarint_pos (Lib.zigzag (rInt s).1)
  unfold wInt
  omega
theorem rU_bad (s : St) (h : (rU s).2.bad = true) : s.bad = true ∨ (rU s).2.rest = [] := by
  unfold rU at h ⊢
  cases hd : dec s.rest with
  | none => exact .inr rfl
  | some x => rw [hd] at h; exact .inl h
/-- Where something is left, an int takes at least one byte. -/
theorem rInt_takes (s : St) (h : s.rest ≠ []) : (rInt s).2.rest.length < s.rest.length := by
  show (rU s).2.rest.length < _
  unfold rU
  have hp : 0 < s.rest.length := List.length_pos_iff.2 h
  cases hd : dec s.rest with
  | none => exact hp
  | some x =>
    obtain ⟨m, r⟩ := x
    have h1 := ((dec_some _ _ _).1 hd).1
    have := Lib.uvarint_pos m
    show r.length < _
    rw [h1, List.length_append]
    omega
theorem rEdit_rest_le (s : St) : (rEdit s).2.rest.length ≤ s.rest.length := by
  have h1 := rInt_rest_le s
  have h2 := rInt_rest_le (rInt s).2
  have h3 := rText_rest_le (rInt (rInt s).2).2
  show (rText (rInt (rInt s).2).2).2.rest.length ≤ _
  omega
theorem rEdit_takes (s : St) (h : s.rest ≠ []) : (rEdit s).2.rest.length < s.rest.length := by
  have h1 := rInt_takes s h
  have h2 := rInt_rest_le (rInt s).2
  have h3 := rText_rest_le (rInt (rInt s).2).2
  show (rText (rInt (rInt s).2).2).2.rest.length < _
  omega

theorem wEdit_ne (e : EditD) (t : List UInt8) : (wEdit e ++ t).isEmpty = false := by
  have := Lib.uvarint_pos (Lib.zigzag e.from_)
  have h : wEdit e ++ t ≠ [] := by
    intro h
    have h2 := congrArg List.length h
    simp only [wEdit, wInt, List.length_append, List.length_nil] at h2
    omega
  cases hh : wEdit e ++ t with
  | nil => exact absurd hh h
  | cons a b => rfl
theorem rEdit_w (e : EditD) (t : List UInt8) (b : Bool) (h : e.Ok) : rEdit ⟨wEdit e ++ t, b⟩ = (e, ⟨t, b⟩) := by
  have ht : e.text.length < 2 ^ 63 := by have := h.text; unfold maxLen at this; omega
  have e1 : rInt ⟨wEdit e ++ t, b⟩ = (e.from_, ⟨wInt e.size ++ wText e.text ++ t, b⟩) := by
    unfold wEdit
    rw [List.append_assoc, List.append_assoc, rInt_w _ _ _ h.from_, List.append_assoc]
  have e2 : rInt ⟨wInt e.size ++ wText e.text ++ t, b⟩ = (e.size, ⟨wText e.text ++ t, b⟩) := by
    rw [List.append_assoc, rInt_w _ _ _ h.size]
  unfold rEdit
  rw [e1]
  simp only
  rw [e2]
  simp only
  rw [rText_w _ _ _ ht]
theorem rEdits_w : ∀ (l : List EditD) (t : List UInt8) (b : Bool), (∀ e ∈ l, e.Ok) → rEdits l.length ⟨l.flatMap wEdit ++ t, b⟩ = (l, ⟨t, b⟩)
  | [], t, b, _ => rfl
  | e :: l, t, b, h => by
    have h1 : (e :: l).flatMap wEdit ++ t = wEdit e ++ (l.flatMap wEdit ++ t) := by rw [List.flatMap_cons, List.append_assoc]
    rw [h1, List.length_cons]
    unfold rEdits
    rw [if_neg (by simp [wEdit_ne])]
    rw [rEdit_w e _ _ (h e List.mem_cons_self)]
    simp only
    rw [rEdits_w l t b (fun x hx => h x (List.mem_cons_of_mem _ hx))]

theorem rEdit_r (s : St) (h : (rEdit s).2.bad = false) : s.rest = wEdit (rEdit s).1 ++ (rEdit s).2.rest ∧ s.bad = false := by
  obtain ⟨h3, h4⟩ := rText_r (rInt (rInt s).2).2 h
  obtain ⟨h5, h6⟩ := rInt_r (rInt s).2 h4
  obtain ⟨h7, h8⟩ := rInt_r s h6
  refine ⟨?_, h8⟩
  rw [h7, h5, h3]
  simp [rEdit, wEdit, List.append_assoc]
theorem rEdits_r : ∀ (n : Nat) (s : St), (rEdits n s).2.bad = false → s.rest = (rEdits n s).1.flatMap wEdit ++ (rEdits n s).2.rest ∧ s.bad = false
  | 0, s, h => ⟨rfl, h⟩
  | n + 1, s, h => by
    rw [rEdits_succ] at h ⊢
    by_cases he : s.rest.isEmpty = true
    · rw [if_pos he] at h ⊢
      exact ⟨rfl, h⟩
    · rw [if_neg he] at h ⊢
      obtain ⟨h1, h2⟩ := rEdits_r n (rEdit s).2 h
      obtain ⟨h3, h4⟩ := rEdit_r s h2
      refine ⟨?_, h4⟩
      rw [h3, h1]
      simp [List.append_assoc]

/-- What Read reads: the two names, the number of edits, the edits and the reader behind them. -/
def rHead1 (l : List UInt8) : List UInt8 × St := rText ⟨l, false⟩
def rHead2 (l : List UInt8) : List UInt8 × St := rText (rHead1 l).2
def rCount (l : List UInt8) : Nat × St := rNum (rHead2 l).2
def rBody (l : List UInt8) : List EditD × St := rEdits (rCount l).1 (rCount l).2
def rOk (l : List UInt8) : Bool := (!(rBody l).2.bad && (rBody l).2.rest.isEmpty) && decide ((rBody l).1.length = (rCount l).1)
def rPD (l : List UInt8) : PD := if rOk l then ⟨(rHead1 l).1, (rHead2 l).1, (rBody l).1⟩ else PD.nil

structure PD.Ok (p : PD) : Prop where
  from_ : p.from_.length ≤ maxLen
  to_ : p.to_.length ≤ maxLen
  len : p.edits.length < 2 ^ 63
  edits : ∀ e ∈ p.edits, e.Ok

theorem rBody_w (p : PD) (t : List UInt8) (h : p.Ok) : (rHead1 (wPD p ++ t)).1 = p.from_ ∧ (rHead2 (wPD p ++ t)).1 = p.to_ ∧ (rCount (wPD p ++ t)).1 = p.edits.length ∧ rBody (wPD p ++ t) = (p.edits, ⟨t, false⟩) := by
  have hf : p.from_.length < 2 ^ 63 := by have := h.from_; unfold maxLen at this; omega
  have ht : p.to_.length < 2 ^ 63 := by have := h.to_; unfold maxLen at this; omega
  have e1 : rHead1 (wPD p ++ t) = (p.from_, ⟨wText p.to_ ++ (wNum (p.edits.length : Int) ++ (p.edits.flatMap wEdit ++ t)), false⟩) := by
    unfold rHead1 wPD
    rw [List.append_assoc, List.append_assoc, List.append_assoc, rText_w _ _ _ hf]
  have e2 : rHead2 (wPD p ++ t) = (p.to_, ⟨wNum (p.edits.length : Int) ++ (p.edits.flatMap wEdit ++ t), false⟩) := by
    unfold rHead2
    rw [e1]
    exact rText_w _ _ _ ht
  have e3 : rCount (wPD p ++ t) = (p.edits.length, ⟨p.edits.flatMap wEdit ++ t, false⟩) := by
    unfold rCount
    rw [e2]
    have hn : wNum (p.edits.length : Int) = Lib.uvarint p.edits.length := by
      unfold wNum
      rw [if_neg (by omega)]
      rfl
    rw [hn]
    exact rNum_w _ _ _ h.len
  refine ⟨by rw [e1], by rw [e2], by rw [e3], ?_⟩
  unfold rBody
  rw [e3]
  exact rEdits_w _ _ _ h.edits

theorem rPD_w (p : PD) (h : p.Ok) : rOk (wPD p) = true ∧ rPD (wPD p) = p := by
  obtain ⟨h1, h2, h3, h4⟩ := rBody_w p [] h
  rw [List.append_nil] at h1 h2 h3 h4
  have hk : rOk (wPD p) = true := by
    unfold rOk
    rw [h4, h3]
    simp
  refine ⟨hk, ?_⟩
  unfold rPD
  rw [if_pos hk, h1, h2, h4]
theorem rPD_more (p : PD) (x : UInt8) (t : List UInt8) (h : p.Ok) : rOk (wPD p ++ x :: t) = false := by
  obtain ⟨h1, h2, h3, h4⟩ := rBody_w p (x :: t) h
  unfold rOk
  rw [h4]
  simp
theorem rPD_r (l : List UInt8) (h : rOk l = true) : wPD (rPD l) = l := by
  have hk := h
  unfold rOk at hk
  simp only [Bool.and_eq_true, Bool.not_eq_true', decide_eq_true_eq, List.isEmpty_iff] at hk
  obtain ⟨⟨hb, hr⟩, hn⟩ := hk
  have hB : rBody l = rEdits (rCount l).1 (rCount l).2 := by unfold rBody; rfl
  obtain ⟨h1, h2⟩ := rEdits_r (rCount l).1 (rCount l).2 (by rw [← hB]; exact hb)
  obtain ⟨h3, h4⟩ := rNum_r (rHead2 l).2 h2
  obtain ⟨h5, h6⟩ := rText_r (rHead1 l).2 h4
  obtain ⟨h7, h8⟩ := rText_r ⟨l, false⟩ h6
  unfold rPD
  rw [if_pos h]
  rw [← hB] at h1
  have hlen : (rBody l).1.length = (rCount l).1 := hn
  unfold wPD
  rw [hlen]
  have e1 : wNum ((rCount l).1 : Int) = Lib.uvarint (rCount l).1 := by
    unfold wNum
    rw [if_neg (by omega)]
    rfl
  rw [e1]
  have g1 : (rCount l).2.rest = (rBody l).1.flatMap wEdit := by
    rw [h1, hr, List.append_nil]
  have g3 : (rHead2 l).2.rest = Lib.uvarint (rCount l).1 ++ (rBody l).1.flatMap wEdit := by
    rw [← g1]
    exact h3
  have g5 : (rHead1 l).2.rest = wText (rHead2 l).1 ++ (rHead2 l).2.rest := h5
  have g7 : l = wText (rHead1 l).1 ++ (rHead1 l).2.rest := h7
  conv => rhs; rw [g7, g5, g3]
  simp only [List.append_assoc]

/-- How far the loop of Read has come. -/
structure CameE (L n : Nat) (s1 : St) (i : Nat) (acc : List EditD) (st : St) : Prop where
  eq : ∃ k, n = i + k ∧ rEdits n s1 = (acc ++ (rEdits k st).1, (rEdits k st).2)
  len : acc.length = i
  fits : acc.length + st.rest.length ≤ L
theorem CameE.start {L n : Nat} {s1 : St} (h : s1.rest.length ≤ L) : CameE L n s1 0 [] s1 := ⟨⟨n, by omega, rfl⟩, rfl, by simpa using h⟩
theorem CameE.step {L n i : Nat} {s1 st : St} {acc : List EditD} (h : CameE L n s1 i acc st) (hi : i < n) (hr : st.rest ≠ []) : CameE L n s1 (i + 1) (acc ++ [(rEdit st).1]) (rEdit st).2 := by
  obtain ⟨⟨k, hk, e⟩, h2, h3⟩ := h
  obtain ⟨k', rfl⟩ : ∃ k', k = k' + 1 := ⟨k - 1, by omega⟩
  refine ⟨⟨k', by omega, ?_⟩, by rw [List.length_append, h2]; rfl, ?_⟩
  · rw [e, rEdits_succ, if_neg (by simpa using hr)]
    simp
  · have := rEdit_takes st hr
    rw [List.length_append, List.length_singleton]
    omega
theorem CameE.stop {L n i : Nat} {s1 st : St} {acc : List EditD} (h : CameE L n s1 i acc st) (hb : ¬ i < n ∨ st.rest = []) : rEdits n s1 = (acc, st) := by
  obtain ⟨⟨k, hk, e⟩, h2, h3⟩ := h
  rw [e]
  rcases hb with hb | hb
  · obtain rfl : k = 0 := by omega
    simp [rEdits]
  · cases k <;> simp [rEdits, hb]
theorem CameE.le {L n i : Nat} {s1 st : St} {acc : List EditD} (h : CameE L n s1 i acc st) : i ≤ n := by
  obtain ⟨⟨k, hk, _⟩, _, _⟩ := h
  omega

theorem rEdit_ok (s : St) (h : s.rest.length ≤ maxLen) : (rEdit s).1.Ok := by
  refine ⟨unzigzag_i64 (rU_lt _), unzigzag_i64 (rU_lt _), ?_⟩
  show (rText (rInt (rInt s).2).2).1.length ≤ maxLen
  have h1 := rInt_rest_le s
  have h2 := rInt_rest_le (rInt s).2
  have h3 := rNum_rest_le (rInt (rInt s).2).2
  unfold rText
  split
  · simp only [List.length_take]
    omega
  · simp
theorem rEdits_ok : ∀ (n : Nat) (s : St), s.rest.length ≤ maxLen → ∀ e ∈ (rEdits n s).1, e.Ok
  | 0, s, _ => by simp [rEdits]
  | n + 1, s, h => by
    unfold rEdits
    split
    · simp
    · intro e he
      rcases List.mem_cons.1 he with rfl | he
      · exact rEdit_ok s h
      · exact rEdits_ok n _ (Nat.le_trans (rEdit_rest_le s) h) e he

end Go.Proofs.YtefgajipakjpeaaDoor
