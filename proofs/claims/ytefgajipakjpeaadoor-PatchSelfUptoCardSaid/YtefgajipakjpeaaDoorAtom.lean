/-
  Plain Lean: edits taken apart into single bytes and offsets; what joins do to them; joining is associative. Conditions: those in each theorem's own statement.
-/
import Derived.Test.YtefgajipakjpeaaDoorJoin
namespace Go.Proofs.YtefgajipakjpeaaDoor
open Go.RowKit

/-- One byte of what an edit stands for: a byte of a text, or an offset. -/
inductive Atom where
  | lit (b : UInt8)
  | off (o : Int)

def offs (f : Int) (n : Nat) : List Atom := (List.range n).map (fun k : Nat => Atom.off (f + (k : Int)))
theorem offs_zero (f : Int) : offs f 0 = [] := rfl
theorem offs_succ (f : Int) (n : Nat) : offs f (n + 1) = offs f n ++ [.off (f + n)] := by simp [offs, List.range_succ]
theorem offs_length (f : Int) (n : Nat) : (offs f n).length = n := by simp [offs]
theorem offs_get (f : Int) (n i : Nat) : (offs f n)[i]? = if i < n then some (.off (f + i)) else none := by
  unfold offs
  rw [List.getElem?_map]
  by_cases h : i < n
  · rw [List.getElem?_range h, if_pos h]
    rfl
  · rw [if_neg h, List.getElem?_eq_none (by simpa using h)]
    rfl
theorem offs_drop (f : Int) (n k : Nat) : (offs f n).drop k = offs (f + k) (n - k) := by
  apply List.ext_getElem?
  intro i
  rw [List.getElem?_drop, offs_get, offs_get]
  by_cases h : k + i < n
  · rw [if_pos h, if_pos (by omega)]
    congr 2
    push_cast
    omega
  · rw [if_neg h, if_neg (by omega)]
theorem offs_take (f : Int) (n k : Nat) (h : k ≤ n) : (offs f n).take k = offs f k := by
  apply List.ext_getElem?
  intro i
  rw [List.getElem?_take, offs_get, offs_get]
  by_cases h1 : i < k
  · rw [if_pos h1, if_pos h1, if_pos (by omega)]
  · rw [if_neg h1, if_neg h1]

def atoms (e : EditD) : List Atom := if e.text.isEmpty then offs e.from_ e.size.toNat else e.text.map Atom.lit
def atomsL (es : List EditD) : List Atom := es.flatMap atoms
theorem atomsL_nil : atomsL [] = [] := rfl
theorem atomsL_cons (e : EditD) (l : List EditD) : atomsL (e :: l) = atoms e ++ atomsL l := rfl
theorem atomsL_append (a b : List EditD) : atomsL (a ++ b) = atomsL a ++ atomsL b := by simp [atomsL]
theorem atomsL_one (e : EditD) : atomsL [e] = atoms e := by simp [atomsL]
theorem atoms_length {e : EditD} (h : EOk e) : ((atoms e).length : Int) = lenI e := by
  unfold atoms lenI
  rcases h with ⟨a, b, c, d⟩ | ⟨a, b, c⟩
  · rw [if_pos (by simp [a]), offs_length, a, List.length_nil]
    omega
  · rw [if_neg (by simpa using a), List.length_map]
    omega
theorem atomsL_length : ∀ {l : List EditD}, (∀ e ∈ l, EOk e) → ((atomsL l).length : Int) = totalI l
  | [], _ => rfl
  | e :: l, h => by
    have h1 := atoms_length (h e List.mem_cons_self)
    have h2 := atomsL_length (fun x hx => h x (List.mem_cons_of_mem _ hx))
    rw [atomsL_cons, List.length_append, totalI_cons]
    omega

/-- The maker, one byte at a time. -/
def stepM (m : List EditD × List UInt8) : Atom → List EditD × List UInt8
  | .lit b => (m.1, m.2 ++ [b])
  | .off o => (copyL m.1 m.2 o 1, [])
def runA (m : List EditD × List UInt8) (l : List Atom) : List EditD × List UInt8 := l.foldl stepM m
theorem runA_append (m : List EditD × List UInt8) (a b : List Atom) : runA m (a ++ b) = runA (runA m a) b := by simp [runA]
theorem runA_lits : ∀ (l : List UInt8) (es : List EditD) (acc : List UInt8), runA (es, acc) (l.map Atom.lit) = (es, acc ++ l)
  | [], es, acc => by simp [runA]
  | b :: l, es, acc => by
    show runA (es, acc ++ [b]) (l.map Atom.lit) = _
    rw [runA_lits l, List.append_assoc]
    rfl
theorem addCopy_last (l : List EditD) (f : Int) (n : Nat) : ∃ (l' : List EditD) (x : EditD), addCopy l f (n + 1) = l' ++ [x] ∧ x.text = [] ∧ x.from_ + x.size = f + (n + 1) ∧ addCopy l f (n + 1 + 1) = l' ++ [⟨x.from_, x.size + 1, []⟩] := by
  rcases List.eq_nil_or_concat l with rfl | ⟨l, y, he⟩
  · exact ⟨[], ⟨f, n + 1, []⟩, rfl, rfl, rfl, rfl⟩
  · rw [List.concat_eq_append] at he
    subst he
    rw [addCopy_snoc, addCopy_snoc]
    by_cases hc : (y.text.isEmpty && decide (y.from_ + y.size = f)) = true
    · rw [if_pos hc, if_pos hc]
      simp only [Bool.and_eq_true, List.isEmpty_iff, decide_eq_true_eq] at hc
      refine ⟨l, _, rfl, hc.1, by show y.from_ + (y.size + (n + 1)) = _; omega, ?_⟩
      show _ = l ++ [⟨y.from_, y.size + ((n : Int) + 1) + 1, []⟩]
      rw [hc.1, Int.add_assoc y.size]
    · rw [if_neg hc, if_neg hc]
      exact ⟨l ++ [y], ⟨f, n + 1, []⟩, rfl, rfl, rfl, rfl⟩
theorem runA_offs (es : List EditD) (acc : List UInt8) (f : Int) : ∀ n : Nat, runA (es, acc) (offs f (n + 1)) = (copyL es acc f (n + 1), [])
  | 0 => by
    rw [offs_succ, offs_zero, List.nil_append]
    show (copyL es acc (f + (0 : Nat)) 1, ([] : List UInt8)) = (copyL es acc f (((0 : Nat) : Int) + 1), [])
    have e : f + ((0 : Nat) : Int) = f := by omega
    rw [e]
    rfl
  | n + 1 => by
    rw [offs_succ, runA_append, runA_offs es acc f n]
    show (addCopy (flushL (addCopy (flushL es acc) f (n + 1)) []) (f + (n + 1 : Nat)) 1, ([] : List UInt8)) = (addCopy (flushL es acc) f (((n + 1 : Nat) : Int) + 1), [])
    obtain ⟨l', x, e1, e2, e3, e4⟩ := addCopy_last (flushL es acc) f n
    have ef : flushL (l' ++ [x]) [] = l' ++ [x] := rfl
    have en : (((n + 1 : Nat) : Int) + 1) = (n : Int) + 1 + 1 := by push_cast; rfl
    rw [e1, ef, addCopy_snoc, en, e4, if_pos (by rw [e2]; simp; omega), e2]
theorem runA_copy (es : List EditD) (acc : List UInt8) (f s : Int) (hs : 1 ≤ s) : runA (es, acc) (offs f s.toNat) = (copyL es acc f s, []) := by
  obtain ⟨n, rfl⟩ : ∃ n : Nat, s = n + 1 := ⟨(s - 1).toNat, by omega⟩
  have e : ((n : Int) + 1).toNat = n + 1 := by omega
  rw [e]
  exact runA_offs es acc f n
theorem runA_edit (es : List EditD) (acc : List UInt8) (e : EditD) (h : EOk e) : runA (es, acc) (atoms e) = if e.text.isEmpty then (copyL es acc e.from_ e.size, []) else (es, acc ++ e.text) := by
  unfold atoms
  rcases h with ⟨a, b, c, d⟩ | ⟨a, b, c⟩
  · rw [if_pos (by simp [a]), if_pos (by simp [a]), runA_copy _ _ _ _ d]
  · rw [if_neg (by simpa using a), if_neg (by simpa using a), runA_lits]

/-- The maker's list of a run. -/
def makeA (l : List Atom) : List EditD := flushL (runA ([], []) l).1 (runA ([], []) l).2

theorem folMk_run {e : EditD} (es : List EditD) (acc : List UInt8) {f part : Int} (h : EOk e) (hf : 0 ≤ f) (hp : 1 ≤ part) (hl : f + part ≤ lenI e) : folMk e es acc f part = runA (es, acc) (((atoms e).drop f.toNat).take part.toNat) := by
  have hlen := atoms_length h
  unfold folMk
  rcases h with ⟨a, b, c, d⟩ | ⟨a, b, c⟩
  · have hA : atoms e = offs e.from_ e.size.toNat := by unfold atoms; rw [if_pos (by simp [a])]
    rw [hA, offs_length] at hlen
    rw [if_pos (by simp [a]), hA, offs_drop, offs_take _ _ _ (by omega), runA_copy _ _ _ _ hp]
    have e1 : ((f.toNat : Nat) : Int) = f := by omega
    rw [e1]
  · have hA : atoms e = e.text.map Atom.lit := by unfold atoms; rw [if_neg (by simpa using a)]
    rw [if_neg (by simpa using a), hA, ← List.map_drop, ← List.map_take, runA_lits]

theorem followL_run : ∀ (l es : List EditD) (acc : List UInt8) (f s : Int), (∀ e ∈ l, EOk e) → 0 ≤ f → 1 ≤ s →
    ((followL l es acc f s).1 = true ↔ f + s ≤ totalI l) ∧ (f + s ≤ totalI l → (followL l es acc f s).2 = runA (es, acc) (((atomsL l).drop f.toNat).take s.toNat))
  | [], es, acc, f, s, _, hf, hs => by
    rw [totalI_nil]
    exact ⟨⟨fun h => by simp [followL] at h; omega, fun h => by omega⟩, fun h => by omega⟩
  | e :: l, es, acc, f, s, h, hf, hs => by
    have he := h e List.mem_cons_self
    have hr := fun x hx => h x (List.mem_cons_of_mem _ hx)
    have hlen := atoms_length he
    have hl1 := he.len
    have htl : 0 ≤ totalI l := by have := atomsL_length hr; omega
    rw [totalI_cons, atomsL_cons]
    unfold followL
    split
    · rename_i h1
      obtain ⟨i1, i2⟩ := followL_run l es acc (f - lenI e) s hr (by omega) hs
      refine ⟨⟨fun k => by have := i1.1 k; omega, fun k => i1.2 (by omega)⟩, fun k => ?_⟩
      have e1 : (f - lenI e).toNat = f.toNat - (atoms e).length := by omega
      rw [i2 (by omega), List.drop_append, List.drop_eq_nil_of_le (by omega : (atoms e).length ≤ f.toNat), List.nil_append, e1]
    · rename_i h1
      have hm := folMk_run (f := f) (part := min s (lenI e - f)) es acc he hf (by omega) (by omega)
      split
      · rename_i h2
        have e1 : min s (lenI e - f) = s := by omega
        refine ⟨⟨fun _ => by omega, fun _ => rfl⟩, fun _ => ?_⟩
        rw [hm, e1, List.drop_append_of_le_length (by omega), List.take_append_of_le_length (by rw [List.length_drop]; omega)]
      · rename_i h2
        have e1 : min s (lenI e - f) = lenI e - f := by omega
        obtain ⟨i1, i2⟩ := followL_run l (folMk e es acc f (min s (lenI e - f))).1 (folMk e es acc f (min s (lenI e - f))).2 0 (s - min s (lenI e - f)) hr (by omega) (by omega)
        refine ⟨⟨fun k => by have := i1.1 k; omega, fun k => i1.2 (by omega)⟩, fun k => ?_⟩
        rw [i2 (by omega)]
        show runA (folMk e es acc f (min s (lenI e - f))) _ = _
        rw [hm, ← runA_append, e1]
        congr 1
        have e2 : (0 : Int).toNat = 0 := rfl
        have e3 : ((atoms e).drop f.toNat).take (lenI e - f).toNat = (atoms e).drop f.toNat := List.take_of_length_le (by rw [List.length_drop]; omega)
        have e4 : s.toNat = ((atoms e).drop f.toNat).length + (s - (lenI e - f)).toNat := by rw [List.length_drop]; omega
        rw [List.drop_append_of_le_length (by omega), e2, List.drop_zero, e3, e4, List.take_length_add_append]

/-- What an atom of the second patch stands for, in the first one. -/
def subA (A : List Atom) : Atom → Atom
  | .lit b => .lit b
  | .off o => A.getD o.toNat (.lit 0)
def insideA (n : Int) (l : List Atom) : Prop := ∀ o, Atom.off o ∈ l → 0 ≤ o ∧ o < n
theorem mem_offs {f o : Int} {n : Nat} : Atom.off o ∈ offs f n ↔ f ≤ o ∧ o < f + n := by
  unfold offs
  rw [List.mem_map]
  constructor
  · rintro ⟨k, hk, he⟩
    injection he with he
    have := List.mem_range.1 hk
    omega
  · rintro ⟨h1, h2⟩
    exact ⟨(o - f).toNat, List.mem_range.2 (by omega), congrArg Atom.off (by omega)⟩
theorem offs_sub (A : List Atom) (f : Int) (n : Nat) (h0 : 0 ≤ f) (h : f + n ≤ A.length) : (offs f n).map (subA A) = (A.drop f.toNat).take n := by
  apply List.ext_getElem?
  intro i
  rw [List.getElem?_map, offs_get, List.getElem?_take, List.getElem?_drop]
  by_cases hi : i < n
  · rw [if_pos hi, if_pos hi]
    have e : (f + (i : Int)).toNat = f.toNat + i := by omega
    show some (A.getD (f + i).toNat (.lit 0)) = _
    rw [e, List.getD_eq_getElem?_getD]
    rw [List.getElem?_eq_getElem (by omega)]
    rfl
  · rw [if_neg hi, if_neg hi]
    rfl
theorem lits_sub (A : List Atom) (l : List UInt8) : (l.map Atom.lit).map (subA A) = l.map Atom.lit := by
  rw [List.map_map]
  rfl

theorem joinF_run (pe : List EditD) (hp : ∀ e ∈ pe, EOk e) : ∀ (l es : List EditD) (acc : List UInt8), (∀ e ∈ l, EOk e) →
    ((joinF pe l es acc).1 = true ↔ insideA (totalI pe) (atomsL l)) ∧ (insideA (totalI pe) (atomsL l) → (joinF pe l es acc).2 = runA (es, acc) ((atomsL l).map (subA (atomsL pe))))
  | [], es, acc, _ => ⟨⟨fun _ o ho => by simp [atomsL] at ho, fun _ => rfl⟩, fun _ => rfl⟩
  | e :: l, es, acc, h => by
    have he := h e List.mem_cons_self
    have hr := fun x hx => h x (List.mem_cons_of_mem _ hx)
    have hA := atomsL_length hp
    have hins : insideA (totalI pe) (atomsL (e :: l)) ↔ insideA (totalI pe) (atoms e) ∧ insideA (totalI pe) (atomsL l) := by
      rw [atomsL_cons]
      unfold insideA
      constructor
      · intro k
        exact ⟨fun o ho => k o (List.mem_append_left _ ho), fun o ho => k o (List.mem_append_right _ ho)⟩
      · rintro ⟨k1, k2⟩ o ho
        rcases List.mem_append.1 ho with ho | ho
        · exact k1 o ho
        · exact k2 o ho
    rw [hins, atomsL_cons, List.map_append]
    unfold joinF
    rcases he with ⟨a, b, c, d⟩ | ⟨a, b, c⟩
    · have hE : atoms e = offs e.from_ e.size.toNat := by unfold atoms; rw [if_pos (by simp [a])]
      obtain ⟨f1, f2⟩ := followL_run pe es acc e.from_ e.size hp b d
      have hin : insideA (totalI pe) (atoms e) ↔ e.from_ + e.size ≤ totalI pe := by
        rw [hE]
        unfold insideA
        constructor
        · intro k
          have := k (e.from_ + e.size - 1) (mem_offs.2 (by omega))
          omega
        · intro k o ho
          have := mem_offs.1 ho
          omega
      rw [if_pos (by simp [a]), hin]
      by_cases hk : e.from_ + e.size ≤ totalI pe
      · obtain ⟨i1, i2⟩ := joinF_run pe hp l (followL pe es acc e.from_ e.size).2.1 (followL pe es acc e.from_ e.size).2.2 hr
        rw [if_pos (f1.2 hk)]
        refine ⟨⟨fun k => ⟨hk, i1.1 k⟩, fun k => i1.2 k.2⟩, fun k => ?_⟩
        rw [i2 k.2]
        show runA (followL pe es acc e.from_ e.size).2 _ = _
        rw [f2 hk, hE, offs_sub _ _ _ b (by omega), runA_append]
      · rw [if_neg (fun k => hk (f1.1 k))]
        exact ⟨⟨fun k => by simp at k, fun k => absurd k.1 hk⟩, fun k => absurd k.1 hk⟩
    · have hE : atoms e = e.text.map Atom.lit := by unfold atoms; rw [if_neg (by simpa using a)]
      obtain ⟨i1, i2⟩ := joinF_run pe hp l es (acc ++ e.text) hr
      have hin : insideA (totalI pe) (atoms e) := by
        rw [hE]
        intro o ho
        obtain ⟨x, _, hx⟩ := List.mem_map.1 ho
        cases hx
      rw [if_neg (by simpa using a)]
      refine ⟨⟨fun k => ⟨hin, i1.1 k⟩, fun k => i1.2 k.2⟩, fun k => ?_⟩
      rw [i2 k.2, hE, lits_sub, runA_append, runA_lits]

/-- A list of edits that a maker has made stands for what it was made of. -/
structure SOk (es : List EditD) : Prop where
  size : ∀ e ∈ es, 0 ≤ e.size
theorem flush_atoms (es : List EditD) (acc : List UInt8) : atomsL (flushL es acc) = atomsL es ++ acc.map Atom.lit := by
  unfold flushL
  split
  · rename_i h
    rw [List.isEmpty_iff.1 h]
    simp
  · rename_i h
    rw [atomsL_append, atomsL_one]
    congr 1
    unfold atoms
    rw [if_neg h]
theorem flush_sok {es : List EditD} (h : SOk es) (acc : List UInt8) : SOk (flushL es acc) := by
  unfold flushL
  split
  · exact h
  · refine ⟨fun e he => ?_⟩
    rcases List.mem_append.1 he with he | he
    · exact h.size e he
    · simp at he
      subst he
      exact Int.le_refl _
theorem addCopy_atoms {es : List EditD} (h : SOk es) (o : Int) : atomsL (addCopy es o 1) = atomsL es ++ [.off o] ∧ SOk (addCopy es o 1) := by
  have hone : atoms ⟨o, 1, []⟩ = [.off o] := by
    show offs o 1 = _
    simp [offs]
  rcases List.eq_nil_or_concat es with rfl | ⟨l, x, he⟩
  · rw [addCopy_nil]
    exact ⟨by rw [atomsL_one, hone]; rfl, ⟨fun e he => by simp at he; subst he; show (0 : Int) ≤ 1; decide⟩⟩
  · rw [List.concat_eq_append] at he
    subst he
    have hx := h.size x (by simp)
    rw [addCopy_snoc]
    split
    · rename_i hc
      simp only [Bool.and_eq_true, List.isEmpty_iff, decide_eq_true_eq] at hc
      obtain ⟨ht, hs⟩ := hc
      refine ⟨?_, ⟨fun e he => ?_⟩⟩
      · rw [atomsL_append, atomsL_append, atomsL_one, atomsL_one, List.append_assoc]
        congr 1
        have e1 : atoms x = offs x.from_ x.size.toNat := by unfold atoms; rw [if_pos (by simp [ht])]
        have e2 : atoms ⟨x.from_, x.size + 1, x.text⟩ = offs x.from_ (x.size.toNat + 1) := by
          unfold atoms
          rw [if_pos (by simp [ht])]
          congr 1
          show (x.size + 1).toNat = _
          omega
        have e3 : x.from_ + (x.size.toNat : Int) = o := by omega
        rw [e1, e2, offs_succ, e3]
      · rcases List.mem_append.1 he with he | he
        · exact h.size e (List.mem_append_left _ he)
        · simp at he
          subst he
          show 0 ≤ x.size + 1
          omega
    · refine ⟨by rw [atomsL_append _ [_], atomsL_one, hone], ⟨fun e he => ?_⟩⟩
      rcases List.mem_append.1 he with he | he
      · exact h.size e he
      · simp at he
        subst he
        show (0 : Int) ≤ 1
        decide
theorem run_atoms : ∀ (l : List Atom) (m : List EditD × List UInt8), SOk m.1 → atomsL (flushL (runA m l).1 (runA m l).2) = atomsL (flushL m.1 m.2) ++ l ∧ SOk (runA m l).1
  | [], m, h => ⟨by simp [runA], h⟩
  | .lit b :: l, m, h => by
    obtain ⟨i1, i2⟩ := run_atoms l (m.1, m.2 ++ [b]) h
    refine ⟨?_, i2⟩
    show atomsL (flushL (runA (m.1, m.2 ++ [b]) l).1 (runA (m.1, m.2 ++ [b]) l).2) = _
    rw [i1, flush_atoms, flush_atoms]
    simp
  | .off o :: l, m, h => by
    obtain ⟨a1, a2⟩ := addCopy_atoms (flush_sok h m.2) o
    obtain ⟨i1, i2⟩ := run_atoms l (copyL m.1 m.2 o 1, []) a2
    refine ⟨?_, i2⟩
    show atomsL (flushL (runA (copyL m.1 m.2 o 1, []) l).1 (runA (copyL m.1 m.2 o 1, []) l).2) = _
    rw [i1]
    show atomsL (addCopy (flushL m.1 m.2) o 1) ++ l = _
    rw [a1, List.append_assoc]
    rfl
theorem make_atoms (l : List Atom) : atomsL (makeA l) = l := by
  have h := (run_atoms l ([], []) ⟨fun e he => by cases he⟩).1
  unfold makeA
  rw [h]
  rfl

/-- Every edit of a run is a copy or a text. -/
theorem run_mk : ∀ (l : List Atom) (m : List EditD × List UInt8) (T : Int), MkOk T m.1 m.2 → insideA 16777217 l → MkOk (T + l.length) (runA m l).1 (runA m l).2
  | [], m, T, h, _ => by simpa [runA] using h
  | .lit b :: l, m, T, h, hi => by
    have h1 := h.text [b]
    have h2 := run_mk l (m.1, m.2 ++ [b]) (T + 1) h1 (fun o ho => hi o (List.mem_cons_of_mem _ ho))
    have e : T + ((Atom.lit b :: l).length : Int) = T + 1 + l.length := by rw [List.length_cons]; omega
    rw [e]
    exact h2
  | .off o :: l, m, T, h, hi => by
    have ho := hi o List.mem_cons_self
    have h1 := h.copy (f := o) (s := 1) ho.1 (by omega) (by omega)
    have h2 := run_mk l (copyL m.1 m.2 o 1, []) (T + 1) h1 (fun o ho => hi o (List.mem_cons_of_mem _ ho))
    have e : T + ((Atom.off o :: l).length : Int) = T + 1 + l.length := by rw [List.length_cons]; omega
    rw [e]
    exact h2
theorem make_eok {l : List Atom} (hi : insideA 16777217 l) : (∀ e ∈ makeA l, EOk e) ∧ totalI (makeA l) = l.length := by
  have h0 : MkOk 0 (([], []) : List EditD × List UInt8).1 (([], []) : List EditD × List UInt8).2 := ⟨(by intro e he; cases he), rfl⟩
  have h := (run_mk l ([], []) 0 h0 hi).flush
  refine ⟨h.ok, ?_⟩
  have h2 := h.tot
  unfold totM at h2
  simp at h2
  exact h2
theorem right_inside {l : List EditD} (h : ∀ e ∈ l, rightEB e = true) : insideA 16777216 (atomsL l) := by
  intro o ho
  unfold atomsL at ho
  obtain ⟨e, he, ho⟩ := List.mem_flatMap.1 ho
  unfold atoms at ho
  rcases rightE_cases (h e he) with ⟨a, b, c, d, g, k⟩ | ⟨a, b, c, d, g⟩
  · rw [if_pos (by simp [a])] at ho
    have := mem_offs.1 ho
    omega
  · rw [if_neg (by simpa using a)] at ho
    obtain ⟨x, _, hx⟩ := List.mem_map.1 ho
    cases hx
theorem insideA_mono {n m : Int} {l : List Atom} (h : insideA n l) (hm : n ≤ m) : insideA m l := fun o ho => ⟨(h o ho).1, by have := (h o ho).2; omega⟩
theorem getD_mem {A : List Atom} {i : Nat} (h : i < A.length) (d : Atom) : A.getD i d ∈ A := by
  rw [List.getD_eq_getElem?_getD, List.getElem?_eq_getElem h]
  exact List.getElem_mem h
theorem sub_inside {n : Int} {A l : List Atom} (hA : insideA n A) (hl : insideA A.length l) : insideA n (l.map (subA A)) := by
  intro o ho
  obtain ⟨x, hx, he⟩ := List.mem_map.1 ho
  cases x with
  | lit b => cases he
  | off k =>
    have hk := hl k hx
    have hm := getD_mem (A := A) (i := k.toNat) (by omega) (.lit 0)
    have he' : A.getD k.toNat (.lit 0) = .off o := he
    rw [he'] at hm
    exact hA o hm
theorem sub_sub {A Q R : List Atom} (hR : insideA Q.length R) : R.map (subA (Q.map (subA A))) = (R.map (subA Q)).map (subA A) := by
  rw [List.map_map]
  apply List.map_congr_left
  intro x hx
  cases x with
  | lit b => rfl
  | off k =>
    have hk := hR k hx
    show (Q.map (subA A)).getD k.toNat (.lit 0) = subA A (Q.getD k.toNat (.lit 0))
    rw [List.getD_eq_getElem?_getD, List.getD_eq_getElem?_getD, List.getElem?_map, List.getElem?_eq_getElem (by omega)]
    rfl

theorem joinR_run (p q : PD) (hp : rightPD p = true) (hq : rightPD q = true) (he : p.to_ = q.from_) :
    (insideA (totalI p.edits) (atomsL q.edits) → joinR p q = fitR ⟨p.from_, q.to_, makeA ((atomsL q.edits).map (subA (atomsL p.edits)))⟩) ∧ (¬ insideA (totalI p.edits) (atomsL q.edits) → joinR p q = (PD.nil, 2)) := by
  have hP := (rightPD_iff p).1 hp
  have hQ := (rightPD_iff q).1 hq
  obtain ⟨h1, h2⟩ := joinF_run p.edits (fun e h => rightE_EOk (hP.edits e h)) q.edits [] [] (fun e h => rightE_EOk (hQ.edits e h))
  have hb : (!(rightPD p && rightPD q)) = false := by rw [hp, hq]; rfl
  refine ⟨fun k => ?_, fun k => ?_⟩
  · unfold joinR
    rw [if_neg (by rw [hb]; simp), if_neg (by simpa using he), if_pos (h1.2 k), h2 k]
    rfl
  · unfold joinR
    rw [if_neg (by rw [hb]; simp), if_neg (by simpa using he), if_neg (fun h => k (h1.1 h))]
theorem fitR_ok {p : PD} (h : (fitR p).2 = 0) : fitR p = (p, 0) ∧ rightPD p = true := by
  unfold fitR at h ⊢
  split at h
  · rename_i k
    rw [if_pos k]
    unfold fitQ at k
    simp only [Bool.and_eq_true] at k
    exact ⟨rfl, k.1⟩
  · cases h
theorem fitR_err (p : PD) : (fitR p).2 = 0 ∨ (fitR p).2 = 7 := by
  unfold fitR
  split
  · exact .inl rfl
  · exact .inr rfl
theorem joinR_err (p q : PD) (hp : rightPD p = true) (hq : rightPD q = true) (he : p.to_ = q.from_) : (joinR p q).2 = 0 ∨ (joinR p q).2 = 2 ∨ (joinR p q).2 = 7 := by
  obtain ⟨h1, h2⟩ := joinR_run p q hp hq he
  by_cases hi : insideA (totalI p.edits) (atomsL q.edits)
  · rw [h1 hi]
    rcases fitR_err ⟨p.from_, q.to_, makeA ((atomsL q.edits).map (subA (atomsL p.edits)))⟩ with h | h
    · exact .inl h
    · exact .inr (.inr h)
  · rw [h2 hi]
    exact .inr (.inl rfl)
/-- What a join that succeeds gives. -/
theorem joinR_ok {p q : PD} (hp : rightPD p = true) (hq : rightPD q = true) (he : p.to_ = q.from_) (h : (joinR p q).2 = 0) :
    insideA (totalI p.edits) (atomsL q.edits) ∧ joinR p q = (⟨p.from_, q.to_, makeA ((atomsL q.edits).map (subA (atomsL p.edits)))⟩, 0) ∧ rightPD (joinR p q).1 = true := by
  obtain ⟨h1, h2⟩ := joinR_run p q hp hq he
  by_cases hi : insideA (totalI p.edits) (atomsL q.edits)
  · rw [h1 hi] at h ⊢
    obtain ⟨k1, k2⟩ := fitR_ok h
    rw [k1]
    exact ⟨hi, rfl, k2⟩
  · rw [h2 hi] at h
    cases h
theorem total_atoms {p : PD} (h : rightPD p = true) : totalI p.edits = (atomsL p.edits).length :=
  (atomsL_length (fun e he => rightE_EOk (((rightPD_iff p).1 h).edits e he))).symm
/-- Joining is associative. -/
theorem joinR_assoc (p q r : PD) (hp : rightPD p = true) (hq : rightPD q = true) (hr : rightPD r = true) (e1 : p.to_ = q.from_) (e2 : q.to_ = r.from_) (ha : (joinR p q).2 = 0) (hb : (joinR q r).2 = 0) :
    joinR (joinR p q).1 r = joinR p (joinR q r).1 ∧ totalI (joinR p q).1.edits = totalI q.edits := by
  obtain ⟨a1, a2, a3⟩ := joinR_ok hp hq e1 ha
  obtain ⟨b1, b2, b3⟩ := joinR_ok hq hr e2 hb
  have ta := total_atoms a3
  have tp := total_atoms hp
  have tq := total_atoms hq
  rw [a2] at a3 ta
  rw [b2] at b3
  simp only [make_atoms, List.length_map] at ta
  rw [a2, b2]
  obtain ⟨x1, _⟩ := joinR_run ⟨p.from_, q.to_, makeA ((atomsL q.edits).map (subA (atomsL p.edits)))⟩ r a3 hr e2
  obtain ⟨y1, _⟩ := joinR_run p ⟨q.from_, r.to_, makeA ((atomsL r.edits).map (subA (atomsL q.edits)))⟩ hp b3 e1
  refine ⟨?_, by show totalI (makeA _) = _; rw [tq]; exact ta⟩
  show joinR ⟨p.from_, q.to_, makeA ((atomsL q.edits).map (subA (atomsL p.edits)))⟩ r = joinR p ⟨q.from_, r.to_, makeA ((atomsL r.edits).map (subA (atomsL q.edits)))⟩
  rw [x1 (by show insideA (totalI (makeA _)) _; rw [ta, ← tq]; exact b1), y1 (by
    show insideA _ (atomsL (makeA _))
    rw [make_atoms]
    exact sub_inside a1 (by rw [← tq]; exact b1))]
  show fitR ⟨p.from_, r.to_, makeA ((atomsL r.edits).map (subA (atomsL (makeA _))))⟩ = fitR ⟨p.from_, r.to_, makeA ((atomsL (makeA _)).map (subA (atomsL p.edits)))⟩
  rw [make_atoms, make_atoms, sub_sub (by rw [← tq]; exact b1)]

end Go.Proofs.YtefgajipakjpeaaDoor
