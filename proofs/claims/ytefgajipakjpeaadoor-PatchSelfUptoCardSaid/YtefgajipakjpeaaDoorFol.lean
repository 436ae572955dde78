/-
  Plain Lean: the maker's lists (flush, copy, follow): what they do, and that they stay in their bounds. Conditions: those in each theorem's own statement.
-/
import Derived.Test.YtefgajipakjpeaaDoorCopy
namespace Go.Proofs.YtefgajipakjpeaaDoor
open Go.RowKit

/-- An edit that a maker holds: a copy, or a text. -/
def EOk (e : EditD) : Prop := (e.text = [] ∧ 0 ≤ e.from_ ∧ e.from_ ≤ 16777216 ∧ 1 ≤ e.size) ∨ (e.text ≠ [] ∧ e.from_ = 0 ∧ e.size = 0)
/-- How long what a maker stands for is. -/
def totM (es : List EditD) (acc : List UInt8) : Int := totalI es + acc.length
structure MkOk (T : Int) (es : List EditD) (acc : List UInt8) : Prop where
  ok : ∀ e ∈ es, EOk e
  tot : totM es acc = T

theorem EOk.len {e : EditD} (h : EOk e) : 1 ≤ lenI e := by
  unfold lenI
  rcases h with ⟨h1, h2, h3, h4⟩ | ⟨h1, h2, h3⟩
  · omega
  · have := List.length_pos_iff.2 h1
    omega
theorem totalI_nil : totalI [] = 0 := rfl
theorem totalI_cons (e : EditD) (l : List EditD) : totalI (e :: l) = lenI e + totalI l := by simp [totalI]
theorem totalI_append (a b : List EditD) : totalI (a ++ b) = totalI a + totalI b := by simp [totalI]
theorem EOk.length_le : ∀ {es : List EditD}, (∀ e ∈ es, EOk e) → (es.length : Int) ≤ totalI es
  | [], _ => by simp [totalI]
  | e :: l, h => by
    have h1 := (h e List.mem_cons_self).len
    have h2 := EOk.length_le (fun x hx => h x (List.mem_cons_of_mem _ hx))
    rw [totalI_cons, List.length_cons]
    omega
theorem EOk.le_total : ∀ {es : List EditD}, (∀ e ∈ es, EOk e) → ∀ e ∈ es, lenI e ≤ totalI es
  | [], _, e, he => by simp at he
  | x :: l, h, e, he => by
    have h1 := (h x List.mem_cons_self).len
    have h2 := EOk.length_le (fun y hy => h y (List.mem_cons_of_mem _ hy))
    rw [totalI_cons]
    rcases List.mem_cons.1 he with rfl | he
    · omega
    · have := EOk.le_total (fun y hy => h y (List.mem_cons_of_mem _ hy)) e he
      omega

theorem MkOk.small {T : Int} {es : List EditD} {acc : List UInt8} (h : MkOk T es acc) (hT : T ≤ 16777216) : (∀ e ∈ es, e.Small) ∧ es.length ≤ 16777216 ∧ acc.length ≤ 16777216 := by
  have h1 := EOk.length_le h.ok
  have h2 := h.tot
  unfold totM at h2
  refine ⟨fun e he => ?_, by omega, by omega⟩
  have h3 := EOk.le_total h.ok e he
  unfold lenI at h3
  rcases h.ok e he with ⟨a, b, c, d⟩ | ⟨a, b, c⟩
  · exact ⟨b, by omega, by omega, by omega⟩
  · exact ⟨by omega, by omega, by omega, by omega⟩
theorem MkOk.nonneg {T : Int} {es : List EditD} {acc : List UInt8} (h : MkOk T es acc) : 0 ≤ T := by
  have h1 := EOk.length_le h.ok
  have h2 := h.tot
  unfold totM at h2
  omega

theorem MkOk.flush {T : Int} {es : List EditD} {acc : List UInt8} (h : MkOk T es acc) : MkOk T (flushL es acc) [] := by
  unfold flushL
  have h2 := h.tot
  unfold totM at h2
  cases acc with
  | nil => exact ⟨h.ok, by unfold totM; simpa using h2⟩
  | cons x t =>
    refine ⟨fun e he => ?_, ?_⟩
    · rcases List.mem_append.1 he with he | he
      · exact h.ok e he
      · simp at he
        subst he
        exact .inr ⟨by simp, rfl, rfl⟩
    · rw [if_neg (by simp)]
      unfold totM
      rw [totalI_append, totalI_cons, totalI_nil]
      have e : lenI ⟨0, 0, x :: t⟩ = ((x :: t).length : Int) := by unfold lenI; simp; omega
      rw [e]
      simp at h2 ⊢
      omega
theorem MkOk.copy {T f s : Int} {es : List EditD} {acc : List UInt8} (h : MkOk T es acc) (hf0 : 0 ≤ f) (hf1 : f ≤ 16777216) (hs : 1 ≤ s) : MkOk (T + s) (copyL es acc f s) [] := by
  unfold copyL
  have h1 := h.flush
  generalize flushL es acc = l at h1
  have h2 := h1.tot
  unfold totM at h2
  have hnew : EOk ⟨f, s, []⟩ := .inl ⟨rfl, hf0, hf1, hs⟩
  have hl : lenI ⟨f, s, []⟩ = s := by unfold lenI; simp; omega
  rcases List.eq_nil_or_concat l with rfl | ⟨l, x, he⟩
  · rw [addCopy_nil]
    refine ⟨by simpa using hnew, ?_⟩
    unfold totM
    rw [totalI_cons, hl, totalI_nil]
    rw [totalI_nil] at h2
    simp at h2 ⊢
    omega
  · rw [List.concat_eq_append] at he
    subst he
    rw [addCopy_snoc]
    have hx := h1.ok x (by simp)
    rw [totalI_append, totalI_cons, totalI_nil] at h2
    split
    · rename_i hc
      simp only [Bool.and_eq_true, List.isEmpty_iff, decide_eq_true_eq] at hc
      obtain ⟨ht, hsum⟩ := hc
      rcases hx with ⟨a, b, c, d⟩ | ⟨a, b, c⟩
      · have hlx : lenI x = x.size := by unfold lenI; rw [ht]; simp; omega
        have hly : lenI ⟨x.from_, x.size + s, x.text⟩ = x.size + s := by unfold lenI; rw [ht]; simp; omega
        refine ⟨fun e he => ?_, ?_⟩
        · rcases List.mem_append.1 he with he | he
          · exact h1.ok e (List.mem_append_left _ he)
          · simp at he
            subst he
            exact .inl ⟨ht, b, c, by show 1 ≤ x.size + s; omega⟩
        · unfold totM
          rw [totalI_append, totalI_cons, totalI_nil, hly]
          simp at h2 ⊢
          omega
      · exact absurd ht a
    · refine ⟨fun e he => ?_, ?_⟩
      · rcases List.mem_append.1 he with he | he
        · exact h1.ok e he
        · simp at he
          subst he
          exact hnew
      · unfold totM
        rw [totalI_append, totalI_append, totalI_cons, totalI_cons, totalI_nil, hl]
        simp at h2 ⊢
        omega
theorem MkOk.text {T : Int} {es : List EditD} {acc : List UInt8} (h : MkOk T es acc) (l : List UInt8) : MkOk (T + l.length) es (acc ++ l) := by
  refine ⟨h.ok, ?_⟩
  have h2 := h.tot
  unfold totM at h2 ⊢
  rw [List.length_append]
  omega

/-- follow, in plain Lean. -/
def folMk (e : EditD) (es : List EditD) (acc : List UInt8) (f part : Int) : List EditD × List UInt8 :=
  if e.text.isEmpty then (copyL es acc (e.from_ + f) part, []) else (es, acc ++ (e.text.drop f.toNat).take part.toNat)
def followL : List EditD → List EditD → List UInt8 → Int → Int → Bool × (List EditD × List UInt8)
  | [], es, acc, _, s => (decide (s = 0), (es, acc))
  | e :: l, es, acc, f, s =>
    if lenI e ≤ f then followL l es acc (f - lenI e) s
    else if s - min s (lenI e - f) = 0 then (true, folMk e es acc f (min s (lenI e - f)))
    else followL l (folMk e es acc f (min s (lenI e - f))).1 (folMk e es acc f (min s (lenI e - f))).2 0 (s - min s (lenI e - f))

theorem rightE_cases {e : EditD} (h : rightEB e = true) : (e.text = [] ∧ 0 ≤ e.from_ ∧ 1 ≤ e.size ∧ e.size ≤ 16777216 ∧ e.from_ ≤ 16777216 - e.size ∧ lenI e = e.size) ∨ (e.text ≠ [] ∧ e.from_ = 0 ∧ e.size = 0 ∧ e.text.length ≤ 65536 ∧ lenI e = e.text.length) := by
  unfold rightEB at h
  unfold lenI
  cases hem : e.text with
  | nil =>
    simp [hem] at h
    refine .inl ⟨rfl, ?_⟩
    simp
    omega
  | cons x t =>
    simp [hem] at h
    refine .inr ⟨by simp, ?_⟩
    simp
    omega
theorem rightE_EOk {e : EditD} (h : rightEB e = true) : EOk e := by
  rcases rightE_cases h with ⟨a, b, c, d, f, g⟩ | ⟨a, b, c, d, f⟩
  · exact .inl ⟨a, b, by omega, c⟩
  · exact .inr ⟨a, b, c⟩

theorem folMk_ok {e : EditD} {es : List EditD} {acc : List UInt8} {f part T : Int} (h : MkOk T es acc) (he : rightEB e = true) (hf : 0 ≤ f) (hp : 1 ≤ part) (hl : f + part ≤ lenI e) : MkOk (T + part) (folMk e es acc f part).1 (folMk e es acc f part).2 := by
  unfold folMk
  rcases rightE_cases he with ⟨a, b, c, d, g, k⟩ | ⟨a, b, c, d, g⟩
  · rw [if_pos (by simp [a])]
    exact h.copy (by omega) (by omega) hp
  · rw [if_neg (by simpa using a)]
    have h2 := h.text ((e.text.drop f.toNat).take part.toNat)
    have hlen : (((e.text.drop f.toNat).take part.toNat).length : Int) = part := by
      rw [List.length_take, List.length_drop]
      omega
    rw [hlen] at h2
    exact h2

end Go.Proofs.YtefgajipakjpeaaDoor
