/-
  Plain Lean: making a list of edits compact, which results of a maker fit, and what they stand for in an old string. Conditions: those in each theorem's own statement.
-/
import Derived.Test.YtefgajipakjpeaaDoorAtom
namespace Go.Proofs.YtefgajipakjpeaaDoor
open Go.RowKit

/-- A round of the reference's Compact. -/
def compStep (out : List EditD) (e : EditD) : List EditD :=
  match out.getLast? with
  | some x =>
    if !e.text.isEmpty && !x.text.isEmpty then out.dropLast ++ [⟨x.from_, x.size, x.text ++ e.text⟩]
    else if (e.text.isEmpty && x.text.isEmpty) && decide (x.from_ + x.size = e.from_) then out.dropLast ++ [⟨x.from_, x.size + e.size, x.text⟩]
    else out ++ [e]
  | none => [e]
theorem compStep_nil (e : EditD) : compStep [] e = [e] := rfl
theorem compStep_snoc (l : List EditD) (x e : EditD) : compStep (l ++ [x]) e =
    if !e.text.isEmpty && !x.text.isEmpty then l ++ [⟨x.from_, x.size, x.text ++ e.text⟩]
    else if (e.text.isEmpty && x.text.isEmpty) && decide (x.from_ + x.size = e.from_) then l ++ [⟨x.from_, x.size + e.size, x.text⟩]
    else l ++ [x] ++ [e] := by
  unfold compStep
  simp
def compactL (l : List EditD) : List EditD := l.foldl compStep []
theorem compStep_length (out : List EditD) (e : EditD) : (compStep out e).length ≤ out.length + 1 := by
  rcases List.eq_nil_or_concat out with rfl | ⟨l, x, he⟩
  · simp [compStep_nil]
  · rw [List.concat_eq_append] at he
    subst he
    rw [compStep_snoc]
    split
    · simp
    · split
      · simp
      · simp
theorem comp_length : ∀ (l out : List EditD), (l.foldl compStep out).length ≤ out.length + l.length
  | [], out => by simp
  | e :: l, out => by
    have h1 := comp_length l (compStep out e)
    have h2 := compStep_length out e
    rw [List.foldl_cons, List.length_cons]
    omega

/-- The maker's own list never ends in a text. -/
def EndsCopy (es : List EditD) : Prop := es = [] ∨ ∃ l x, es = l ++ [x] ∧ x.text = []
theorem addCopy_ends (es : List EditD) (f s : Int) : EndsCopy (addCopy es f s) := by
  rcases List.eq_nil_or_concat es with rfl | ⟨l, x, he⟩
  · exact .inr ⟨[], _, rfl, rfl⟩
  · rw [List.concat_eq_append] at he
    subst he
    rw [addCopy_snoc]
    split
    · rename_i hc
      simp only [Bool.and_eq_true, List.isEmpty_iff, decide_eq_true_eq] at hc
      exact .inr ⟨l, _, rfl, hc.1⟩
    · exact .inr ⟨l ++ [x], _, rfl, rfl⟩
theorem comp_text (es : List EditD) (acc t : List UInt8) (h : EndsCopy es) (ht : t ≠ []) : compStep (flushL es acc) ⟨0, 0, t⟩ = flushL es (acc ++ t) := by
  have hte : t.isEmpty = false := by simpa using ht
  have hfl : flushL es (acc ++ t) = es ++ [⟨0, 0, acc ++ t⟩] := by
    unfold flushL
    rw [if_neg (by simp [ht])]
  rw [hfl]
  cases acc with
  | nil =>
    show compStep es ⟨0, 0, t⟩ = es ++ [⟨0, 0, t⟩]
    rcases h with rfl | ⟨l, x, rfl, hx⟩
    · rfl
    · rw [compStep_snoc, hx]
      simp [hte]
  | cons a acc =>
    show compStep (es ++ [⟨0, 0, a :: acc⟩]) ⟨0, 0, t⟩ = _
    rw [compStep_snoc]
    simp [hte]
theorem comp_copy (out : List EditD) (f s : Int) : compStep out ⟨f, s, []⟩ = addCopy out f s := by
  rcases List.eq_nil_or_concat out with rfl | ⟨l, x, he⟩
  · rfl
  · rw [List.concat_eq_append] at he
    subst he
    rw [compStep_snoc, addCopy_snoc]
    rfl
theorem comp_run : ∀ (l es : List EditD) (acc : List UInt8), (∀ e ∈ l, EOk e) → EndsCopy es → l.foldl compStep (flushL es acc) = flushL (runA (es, acc) (atomsL l)).1 (runA (es, acc) (atomsL l)).2
  | [], es, acc, _, _ => rfl
  | e :: l, es, acc, h, hc => by
    have he := h e List.mem_cons_self
    have hr := fun x hx => h x (List.mem_cons_of_mem _ hx)
    rw [List.foldl_cons, atomsL_cons, runA_append, runA_edit _ _ _ he]
    obtain ⟨f, s, t⟩ := e
    rcases he with ⟨a, b, c, d⟩ | ⟨a, b, c⟩
    · simp only at a b c d
      subst a
      rw [comp_copy]
      show List.foldl compStep (flushL (addCopy (flushL es acc) f s) []) l = _
      rw [comp_run l _ [] hr (addCopy_ends _ _ _)]
      rfl
    · simp only at a b c
      subst b c
      rw [comp_text es acc t hc a, comp_run l es _ hr hc]
      rw [if_neg (by simpa using a)]
theorem compact_make (l : List EditD) (h : ∀ e ∈ l, EOk e) : compactL l = makeA (atomsL l) := comp_run l [] [] h (.inl rfl)

theorem mem_make {l : List Atom} {e : EditD} (he : e ∈ makeA l) {x : Atom} (hx : x ∈ atoms e) : x ∈ l := by
  rw [← make_atoms l]
  exact List.mem_flatMap.2 ⟨e, he, hx⟩
/-- The edits of a run whose offsets lie in an old string of n bytes. -/
structure InE (n : Int) (m : Int) (e : EditD) : Prop where
  eok : EOk e
  from_ : e.from_ + e.size ≤ n
  size : e.size ≤ m
  text : e.text.length ≤ m
theorem make_in {n : Int} {l : List Atom} (hn : 0 ≤ n) (hn2 : n ≤ 16777216) (hi : insideA n l) : ∀ e ∈ makeA l, InE n l.length e := by
  obtain ⟨h1, h2⟩ := make_eok (insideA_mono hi (by omega))
  intro e he
  have hl := EOk.le_total h1 e he
  rw [h2] at hl
  have hk := h1 e he
  unfold lenI at hl
  rcases hk with ⟨a, b, c, d⟩ | ⟨a, b, c⟩
  · have hA : atoms e = offs e.from_ e.size.toNat := by unfold atoms; rw [if_pos (by simp [a])]
    have hm := mem_make he (x := .off (e.from_ + e.size - 1)) (by rw [hA]; exact mem_offs.2 (by omega))
    have := hi _ hm
    exact ⟨.inl ⟨a, b, c, d⟩, by omega, by omega, by rw [a]; simp⟩
  · exact ⟨.inr ⟨a, b, c⟩, by omega, by omega, by omega⟩
theorem InE.right {n m : Int} {e : EditD} (h : InE n m e) (hn : n ≤ 16777216) (hm : m ≤ 65536) : rightEB e = true := by
  have h1 := h.from_
  have h2 := h.size
  have h3 := h.text
  unfold rightEB
  rcases h.eok with ⟨a, b, c, d⟩ | ⟨a, b, c⟩
  · rw [if_pos (by simp [a])]
    simp only [Bool.and_eq_true, decide_eq_true_eq]
    omega
  · rw [if_neg (by simpa using a)]
    simp only [Bool.and_eq_true, decide_eq_true_eq]
    omega
theorem InE.ok {n m : Int} {e : EditD} (h : InE n m e) (hn : n ≤ 16777216) (hm : m ≤ 16777216) : e.Ok := by
  have h1 := h.from_
  have h2 := h.size
  have h3 := h.text
  refine ⟨?_, ?_, by unfold maxLen; omega⟩
  · unfold I64
    rcases h.eok with ⟨a, b, c, d⟩ | ⟨a, b, c⟩ <;> omega
  · unfold I64
    rcases h.eok with ⟨a, b, c, d⟩ | ⟨a, b, c⟩ <;> omega
theorem make_right {n : Int} {l : List Atom} (f t : List UInt8) (hf : f.length = 32) (ht : t.length = 32) (hn : 0 ≤ n) (hn2 : n ≤ 16777216) (hi : insideA n l) (hl : l.length ≤ 65536) : RightPD ⟨f, t, makeA l⟩ := by
  have h := make_in hn hn2 hi
  obtain ⟨h1, h2⟩ := make_eok (insideA_mono hi (by omega))
  have h3 := EOk.length_le h1
  exact ⟨hf, ht, by show (makeA l).length ≤ _; omega, fun e he => (h e he).right hn2 (by omega), by show totalI (makeA l) ≤ _; omega⟩
theorem wText32 {f : List UInt8} (h : f.length = 32) : (wText f).length ≤ 42 := by
  have := wText_le f (by unfold maxLen; omega)
  omega
/-- The joined patch with one that copies everything fits, where the first one is light. -/
theorem all_fits {n : Int} {es : List EditD} (f t : List UInt8) (hf : f.length = 32) (ht : t.length = 32) (hn : 0 ≤ n) (hn2 : n ≤ 16777216) (he : ∀ e ∈ es, EOk e) (hi : insideA n (atomsL es)) (hl : es.length ≤ 100) (htot : totalI es ≤ 10000) :
    fitQ ⟨f, t, makeA (atomsL es)⟩ = true := by
  have hA := atomsL_length he
  have hr := make_right (n := n) f t hf ht hn hn2 hi (by omega)
  have hin := make_in hn hn2 hi
  have hlen : (makeA (atomsL es)).length ≤ 100 := by
    rw [← compact_make es he]
    have := comp_length es []
    simp at this
    unfold compactL
    omega
  have h6 := wEdits_le (makeA (atomsL es)) hr.edits (fun e h => (hin e h).ok hn2 (by omega))
  have h7 := (make_eok (insideA_mono hi (by omega))).2
  have h8 := wText32 hf
  have h9 := wText32 ht
  have h10 : (wNum ((makeA (atomsL es)).length : Int)).length ≤ 10 := by
    unfold wNum
    rw [if_neg (by omega)]
    exact Lib.uvarint_length64 (by omega)
  unfold fitQ
  rw [(rightPD_iff _).2 hr, Bool.true_and, decide_eq_true_eq]
  unfold wPD
  simp only [List.length_append]
  omega
theorem uvarint_two {x : Nat} (h : x < 16384) : (Lib.uvarint x).length ≤ 2 := Lib.uvarint_length 1 x h
theorem wInt_two {n : Int} (h0 : 0 ≤ n) (h : n < 8192) : (wInt n).length ≤ 2 := by
  unfold wInt
  apply uvarint_two
  unfold Lib.zigzag
  split <;> omega
theorem wEdit_fine {n m : Int} {e : EditD} (h : InE n m e) (hn : n < 8192) (hm : m < 8192) : ((wEdit e).length : Int) ≤ 6 * lenI e := by
  have h1 := h.from_
  have h2 := h.size
  have h3 := h.text
  have h4 := h.eok.len
  unfold wEdit
  simp only [List.length_append]
  rcases h.eok with ⟨a, b, c, d⟩ | ⟨a, b, c⟩
  · have i1 := wInt_two b (by omega)
    have i2 : (wInt e.size).length ≤ 2 := wInt_two (by omega) (by omega)
    have i3 : (wText e.text).length ≤ 1 := by
      rw [a]
      unfold wText
      rw [List.append_nil]
      exact Lib.uvarint_length 0 _ (by decide)
    omega
  · have i1 : (wInt e.from_).length ≤ 1 := by rw [b]; exact Lib.uvarint_length 0 _ (by decide)
    have i2 : (wInt e.size).length ≤ 1 := by rw [c]; exact Lib.uvarint_length 0 _ (by decide)
    have i3 : (wText e.text).length ≤ 2 + e.text.length := by
      unfold wText
      rw [List.length_append]
      have := uvarint_two (x := e.text.length) (by omega)
      omega
    have i4 : (1 : Int) ≤ e.text.length := by
      have := List.length_pos_iff.2 a
      omega
    have i5 : lenI e = e.text.length := by unfold lenI; omega
    omega
theorem wEdits_fine {n m : Int} (hn : n < 8192) (hm : m < 8192) : ∀ (l : List EditD), (∀ e ∈ l, InE n m e) → ((l.flatMap wEdit).length : Int) ≤ 6 * totalI l
  | [], _ => by simp [totalI]
  | e :: l, h => by
    have h1 := wEdit_fine (h e List.mem_cons_self) hn hm
    have h2 := wEdits_fine hn hm l (fun x hx => h x (List.mem_cons_of_mem _ hx))
    rw [List.flatMap_cons, List.length_append, totalI_cons]
    omega
/-- Patches between small images fit. -/
theorem small_fits {n : Int} {l : List Atom} (f t : List UInt8) (hf : f.length = 32) (ht : t.length = 32) (hn : 0 ≤ n) (hn2 : n ≤ 6000) (hi : insideA n l) (hl : l.length ≤ 6000) : fitQ ⟨f, t, makeA l⟩ = true := by
  have hr := make_right (n := n) f t hf ht hn (by omega) hi (by omega)
  have hin := make_in hn (by omega) hi
  have h6 := wEdits_fine (by omega) (by omega) (makeA l) hin
  have h7 := (make_eok (insideA_mono hi (by omega))).2
  have h8 := wText32 hf
  have h9 := wText32 ht
  have h3 := EOk.length_le (make_eok (insideA_mono hi (by omega))).1
  have h10 : (wNum ((makeA l).length : Int)).length ≤ 10 := by
    unfold wNum
    rw [if_neg (by omega)]
    exact Lib.uvarint_length64 (by omega)
  unfold fitQ
  rw [(rightPD_iff _).2 hr, Bool.true_and, decide_eq_true_eq]
  unfold wPD
  simp only [List.length_append]
  omega

/-- Joining with a patch that copies everything. -/
theorem joinR_all (p : PD) (hp : rightPD p = true) (hl : p.edits.length ≤ 100) (ht : totalI p.edits ≤ 10000) (h0 : 0 < totalI p.edits) :
    rightPD ⟨p.to_, p.to_, [⟨0, totalI p.edits, []⟩]⟩ = true ∧ joinR p ⟨p.to_, p.to_, [⟨0, totalI p.edits, []⟩]⟩ = (⟨p.from_, p.to_, compactL p.edits⟩, 0) := by
  have hP := (rightPD_iff p).1 hp
  have hE : ∀ e ∈ p.edits, EOk e := fun e h => rightE_EOk (hP.edits e h)
  have hT := total_atoms hp
  have hat : atomsL [⟨0, totalI p.edits, []⟩] = offs 0 (totalI p.edits).toNat := atomsL_one _
  have hq : rightPD ⟨p.to_, p.to_, [⟨0, totalI p.edits, []⟩]⟩ = true := by
    rw [rightPD_iff]
    refine ⟨hP.to_, hP.to_, by simp, fun e he => ?_, ?_⟩
    · simp at he
      subst he
      show (decide ((0 : Int) ≤ 0) && decide (1 ≤ totalI p.edits) && decide (totalI p.edits ≤ 16777216) && decide ((0 : Int) ≤ 16777216 - totalI p.edits)) = true
      simp only [Bool.and_eq_true, decide_eq_true_eq]
      omega
    · show totalI [_] ≤ _
      rw [totalI_cons, totalI_nil]
      have : lenI ⟨0, totalI p.edits, []⟩ = totalI p.edits := by unfold lenI; simp; omega
      omega
  refine ⟨hq, ?_⟩
  obtain ⟨h1, _⟩ := joinR_run p ⟨p.to_, p.to_, [⟨0, totalI p.edits, []⟩]⟩ hp hq rfl
  rw [h1 (by
    show insideA _ (atomsL [_])
    rw [hat]
    intro o ho
    have := mem_offs.1 ho
    omega)]
  have e : (atomsL [⟨0, totalI p.edits, []⟩]).map (subA (atomsL p.edits)) = atomsL p.edits := by
    rw [hat, offs_sub _ _ _ (by omega) (by omega)]
    have e0 : (0 : Int).toNat = 0 := rfl
    rw [e0, List.drop_zero, List.take_of_length_le (by omega)]
  show fitR ⟨p.from_, p.to_, makeA ((atomsL [⟨0, totalI p.edits, []⟩]).map (subA (atomsL p.edits)))⟩ = _
  rw [e, compact_make _ hE]
  unfold fitR
  rw [if_pos (all_fits (n := 16777216) _ _ hP.from_ hP.to_ (by omega) (by omega) hE (right_inside hP.edits) hl ht)]

end Go.Proofs.YtefgajipakjpeaaDoor
