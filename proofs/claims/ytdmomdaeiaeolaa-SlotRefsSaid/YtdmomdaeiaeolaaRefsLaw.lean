/-
  For SlotRefs: what is needed depends on which refs there are; units with other nodes in memory of the call's own. Conditions: none beyond the hypotheses.
-/
import Derived.Test.YtdmomdaeiaeolaaBoxes
namespace Go.Proofs.Ytdmomdaeiaeolaa
open Go.RowKit

theorem refInfo : (Try.prog.info? 53).map (fun i => (i.zero, i.size, i.bytes)) = some (some (.agg #[.int .i64 0, .int .i64 0, .int .i64 0, .int .i64 0, .int .i64 0, .int .i64 0, .int .i64 0]), 7, 56) := by kernel_rfl
theorem nodeInfo : (Try.prog.info? 51).map (fun i => (i.zero, i.size, i.bytes)) = some (some (.agg #[.string ByteArray.empty, .string ByteArray.empty, .int .i64 0, .int .i64 0, .int .i64 0, .string ByteArray.empty, .slice none 0 0, .slice none 0 0, .slice none 0 0, .slice none 0 0, .slice none 0 0, .slice none 0 0]), 12, 216) := by kernel_rfl

/-! ### Plain -/
theorem needL_congr (m : Nat) {rs rs' : List RefD} (h : ∀ r, r ∈ rs ↔ r ∈ rs') : needL m rs = needL m rs' := by
  unfold needL
  congr 1
  apply List.filter_congr
  intro n _
  rw [Bool.eq_iff_iff]
  simp [needB, h]
theorem needL_iff (m : Nat) (rs : List RefD) (z : Int) : z ∈ needL m rs ↔ ∃ n : Nat, z = (n : Int) ∧ n < m ∧ ∃ r ∈ rs, usesB r n = true := by
  unfold needL
  simp only [List.mem_map, List.mem_filter, List.mem_range, needB, List.any_eq_true]
  constructor
  · rintro ⟨n, ⟨h1, h2⟩, rfl⟩
    exact ⟨n, rfl, h1, h2⟩
  · rintro ⟨n, rfl, h1, h2⟩
    exact ⟨n, ⟨h1, h2⟩, rfl⟩
theorem needL_sub (m : Nat) {rs rs' : List RefD} (h : ∀ r ∈ rs', r ∈ rs) (z : Int) (hz : z ∈ needL m rs') : z ∈ needL m rs := by
  obtain ⟨n, h1, h2, r, h3, h4⟩ := (needL_iff m rs' z).1 hz
  exact (needL_iff m rs z).2 ⟨n, h1, h2, r, h r h3, h4⟩
theorem needL_gone (m : Nat) {rs rs' : List RefD} {g : RefD} (h : ∀ r ∈ rs, r = g ∨ r ∈ rs') (z : Int) (hz : z ∈ needL m rs) (hn : z ∉ needL m rs') : z = g.tn ∧ g.tk = 1 := by
  obtain ⟨n, h1, h2, r, h3, h4⟩ := (needL_iff m rs z).1 hz
  rcases h r h3 with rfl | h5
  · simp only [usesB, callB, Bool.and_eq_true, beq_iff_eq] at h4
    exact ⟨h1.trans h4.2.symm, h4.1.1⟩
  · exact absurd ((needL_iff m rs' z).2 ⟨n, h1, h2, r, h5, h4⟩) hn

/-- A unit with other nodes; a node with other refs. -/
def backU (u : UnitD) (A : Option Addr) (c : Nat) (ns : List NodeD) : UnitD := { u with nA := A, nc := c, nodes := ns }
def nodeW (x : NodeD) (A : Option Addr) (c : Nat) (rs : List RefD) : NodeD := { x with A := A, c := c, refs := rs }

theorem back_need (u : UnitD) (A : Option Addr) (c : Nat) (ns : List NodeD) (h : ns.map NodeD.refs = u.nodes.reverse.map fun n => n.refs.reverse) : (backU u A c ns).need = u.need := by
  show needL u.imps.length (ns.flatMap NodeD.refs) = needL u.imps.length (u.nodes.flatMap NodeD.refs)
  apply needL_congr
  intro r
  have h1 : ns.flatMap NodeD.refs = (ns.map NodeD.refs).flatten := by rw [List.flatMap_def]
  rw [h1, h]
  simp only [List.mem_flatten, List.mem_map, List.mem_reverse, List.mem_flatMap]
  constructor
  · rintro ⟨l, ⟨x, hx, rfl⟩, hr⟩
    exact ⟨x, hx, List.mem_reverse.1 hr⟩
  · rintro ⟨x, hx, hr⟩
    exact ⟨_, ⟨x, hx, rfl⟩, List.mem_reverse.2 hr⟩

theorem less_sub (ns : List NodeD) (a : Nat) (ha : a < ns.length) (x : NodeD) (hx : ∀ r ∈ x.refs, r ∈ (ns[a]'ha).refs) : ∀ r ∈ (ns.set a x).flatMap NodeD.refs, r ∈ ns.flatMap NodeD.refs := by
  intro r hr
  obtain ⟨y, hy, hr2⟩ := List.mem_flatMap.1 hr
  rcases List.mem_or_eq_of_mem_set hy with h | rfl
  · exact List.mem_flatMap.2 ⟨y, h, hr2⟩
  · exact List.mem_flatMap.2 ⟨_, List.getElem_mem ha, hx r hr2⟩
theorem less_gone (ns : List NodeD) (a b : Nat) (ha : a < ns.length) (hb : b < (ns[a]'ha).refs.length) (x : NodeD) (hx : x.refs = (ns[a]'ha).refs.take b ++ (ns[a]'ha).refs.drop (b + 1)) :
    ∀ r ∈ ns.flatMap NodeD.refs, r = (ns[a]'ha).refs[b]'hb ∨ r ∈ (ns.set a x).flatMap NodeD.refs := by
  intro r hr
  obtain ⟨y, hy, hr⟩ := List.mem_flatMap.1 hr
  obtain ⟨i, hi, rfl⟩ := List.getElem_of_mem hy
  by_cases hia : i = a
  · subst hia
    obtain ⟨j, hj, rfl⟩ := List.getElem_of_mem hr
    by_cases hjb : j = b
    · subst hjb; exact .inl rfl
    · refine .inr (List.mem_flatMap.2 ⟨x, List.mem_set hi x, ?_⟩)
      rw [hx, List.mem_append]
      rcases Nat.lt_or_ge j b with h | h
      · exact .inl (List.mem_take_iff_getElem.2 ⟨j, by omega, rfl⟩)
      · exact .inr (List.mem_drop_iff_getElem.2 ⟨j - (b + 1), by omega, by congr 1; omega⟩)
  · refine .inr (List.mem_flatMap.2 ⟨ns[i], ?_, hr⟩)
    have : (ns.set a x)[i]? = some ns[i] := by rw [List.getElem?_set_ne (by omega), List.getElem?_eq_getElem hi]
    exact List.mem_of_getElem? this

theorem flat_set {α : Type} (f : α → List Value) (k : Nat) (hk : ∀ a, (f a).length = k) (v : Value) (x : α) : ∀ (l : List α) (i j : Nat) (hi : i < l.length), j < k → f x = (f (l[i]'hi)).set j v → (l.flatMap f).set (i * k + j) v = (l.set i x).flatMap f
  | [], i, j, hi, _, _ => by simp at hi
  | a :: l, 0, j, _, hj, hx => by
    rw [List.flatMap_cons, Nat.zero_mul, Nat.zero_add, List.set_append_left _ _ (by rw [hk]; exact hj)]
    rw [List.set_cons_zero, List.flatMap_cons, hx]
    rfl
  | a :: l, i + 1, j, hi, hj, hx => by
    rw [List.flatMap_cons, List.set_append_right _ _ (by rw [hk, Nat.succ_mul]; omega), hk, show (i + 1) * k + j - k = i * k + j by rw [Nat.succ_mul]; omega, flat_set f k hk v x l i j (by simpa using hi) hj hx]
    rfl

/-! ### In memory -/
theorem own_shape {w : World} {B s : Nat} {e : TypeId} {v : Value} {n : Nat} {xs : List Value} (h : w.ownsRow B e s v n xs) : ∃ A c, v = .slice A n c := by
  rcases h.2 with ⟨hv, hn⟩ | ⟨g, cap, cur, hv, _⟩
  · exact ⟨none, 0, by rw [hv, hn]⟩
  · exact ⟨_, _, hv⟩
theorem own_ne {w : World} {B s : Nat} {e t : TypeId} {v : Value} {n g : Nat} {cs : Array Value} {xs : List Value} (h : w.ownsRow B e s v n xs) (hb : Blk w g t cs) (hne : t ≠ e) : v.ownBlock ≠ some g := by
  intro hv
  rcases h.2 with ⟨rfl, _⟩ | ⟨g', cap, cur, rfl, _, hg, _⟩
  · simp [Value.ownBlock] at hv
  · simp only [Value.ownBlock, Option.some.injEq] at hv
    subst hv
    unfold Blk at hb
    rw [hb] at hg
    injection hg with hg
    injection hg with _ ht
    exact hne ht
theorem own_blk {w : World} {B s : Nat} {e : TypeId} {v : Value} {n g : Nat} {xs : List Value} (h : w.ownsRow B e s v n xs) (hv : v.ownBlock = some g) : ∃ cs, Blk w g e cs := by
  rcases h.2 with ⟨rfl, _⟩ | ⟨g', cap, cur, rfl, _, hg, _⟩
  · simp [Value.ownBlock] at hv
  · simp only [Value.ownBlock, Option.some.injEq] at hv
    subst hv
    exact ⟨cur, hg⟩
/-- Two rows of different types: one stays while the other one grows. -/
theorem own_kept2 {w w' : World} {B B' s s' : Nat} {e e' : TypeId} {v v' : Value} {n n' : Nat} {xs xs' : List Value} (h : w.ownsRow B e s v n xs) (h' : w.ownsRow B' e' s' v' n' xs') (hne : e' ≠ e) (hg : w.grownBy w' v'.ownBlock) : w'.ownsRow B e s v n xs := by
  refine h.kept hg ?_
  cases hv : v'.ownBlock with
  | none => cases h2 : v.ownBlock <;> simp
  | some g =>
    obtain ⟨cs, hb⟩ := own_blk h' hv
    exact .inr (own_ne h hb hne)
theorem own_far {w : World} {B s g i : Nat} {e t : TypeId} {v u : Value} {n : Nat} {cs : Array Value} {xs : List Value} (h : w.ownsRow B e s v n xs) (hb : Blk w g t cs) (hne : t ≠ e) : (w.setCell ⟨g, i, none⟩ u).ownsRow B e s v n xs :=
  ownsRow_setCell_other h (own_ne h hb hne) u
theorem own_below {w w' : World} {B s : Nat} {e : TypeId} {v : Value} {n : Nat} {xs : List Value} (h : w.ownsRow B e s v n xs) (hb : Below w.heap.size w w') : w'.ownsRow B e s v n xs := by
  refine ⟨h.1, ?_⟩
  rcases h.2 with hn | ⟨g, cap, cur, rfl, hB, hgg, rest⟩
  · exact .inl hn
  · refine .inr ⟨g, cap, cur, rfl, hB, ?_, rest⟩
    rw [hb.block g (Array.getElem?_eq_some_iff.1 hgg).1]
    exact hgg
theorem Reads.of_own' {w : World} {B s : Nat} {e : TypeId} {A : Option Addr} {n c : Nat} {xs : List Value} (h : w.ownsRow B e s (.slice A n c) n xs) : Reads w w.heap.size s A n xs := Reads.of_own h

/-- A node whose refs lie in a row of the call's own. -/
def RowT (w : World) (n : NodeD) : Prop := w.ownsRow 0 53 7 (.slice n.A n.refs.length n.c) n.refs.length (n.refs.flatMap RefD.parts)

structure BackOk (u : UnitD) (base : Nat) (w : World) (A : Option Addr) (c q : Nat) (ns : List NodeD) : Prop where
  len : ns.length + q = u.nodes.length
  refs : ns.map NodeD.refs = (u.nodes.drop q).reverse.map fun n => n.refs.reverse
  row : w.ownsRow base 51 12 (.slice A ns.length c) ns.length (ns.flatMap NodeD.parts)
  rows : ∀ n ∈ ns, RowT w n

section
variable {u : UnitD} {base : Nat} {w w' : World} {A : Option Addr} {c q : Nat} {ns : List NodeD}
theorem BackOk.below (h : BackOk u base w A c q ns) (hb : Below w.heap.size w w') : BackOk u base w' A c q ns := ⟨h.len, h.refs, own_below h.row hb, fun n hn => own_below (h.rows n hn) hb⟩
theorem BackOk.alloc (h : BackOk u base w A c q ns) (o : Obj) : BackOk u base (w.alloc o) A c q ns := ⟨h.len, h.refs, h.row.alloc o, fun n hn => (h.rows n hn).alloc o⟩
theorem BackOk.far {g i : Nat} {t : TypeId} {cs : Array Value} {v : Value} (h : BackOk u base w A c q ns) (hb : Blk w g t cs) (h1 : t ≠ 51) (h2 : t ≠ 53) : BackOk u base (w.setCell ⟨g, i, none⟩ v) A c q ns :=
  ⟨h.len, h.refs, own_far h.row hb h1, fun n hn => own_far (h.rows n hn) hb h2⟩
theorem BackOk.start (u : UnitD) (base : Nat) (w : World) : BackOk u base w none 0 u.nodes.length [] := ⟨by simp, by simp, World.ownsRow_nil _ _ _ _, fun n hn => by cases hn⟩
theorem BackOk.step {p : Nat} {A2 : Option Addr} {c2 : Nat} {v' : Value} (hp : p < u.nodes.length) (h : BackOk u base w A c (p + 1) ns) (hx : RowT w (nodeW (u.nodes[p]'hp) A2 c2 (u.nodes[p]'hp).refs.reverse))
    (hown : w'.ownsRow base 51 12 v' (ns.length + 1) (ns.flatMap NodeD.parts ++ (nodeW (u.nodes[p]'hp) A2 c2 (u.nodes[p]'hp).refs.reverse).parts)) (hgrow : w.grownBy w' (Value.slice A ns.length c).ownBlock) :
    ∃ A' c', v' = .slice A' (ns.length + 1) c' ∧ BackOk u base w' A' c' p (ns ++ [nodeW (u.nodes[p]'hp) A2 c2 (u.nodes[p]'hp).refs.reverse]) := by
  obtain ⟨A', c', rfl⟩ := own_shape hown
  refine ⟨A', c', rfl, by have := h.len; simp; omega, ?_, ?_, ?_⟩
  · rw [List.map_append, h.refs, List.drop_eq_getElem_cons hp, List.reverse_cons, List.map_append]
    rfl
  · rw [List.flatMap_append, List.length_append]
    simpa using hown
  · intro n hn
    rcases List.mem_append.1 hn with hn | hn
    · exact own_kept2 (h.rows n hn) h.row (by decide) hgrow
    · rw [List.mem_singleton] at hn
      subst hn
      exact own_kept2 hx h.row (by decide) hgrow
theorem BackOk.unit {B : Nat} (h : BackOk u base w A c 0 ns) (hu : u.Ok w B) (hB : B ≤ w.heap.size) : (backU u A c ns).Ok w w.heap.size ∧ (backU u A c ns).need = u.need := by
  have hr := h.refs
  rw [List.drop_zero] at hr
  have hof : ∀ n ∈ ns, ∃ x ∈ u.nodes, n.refs = x.refs.reverse := fun n hn => by
    have h1 : n.refs ∈ ns.map NodeD.refs := List.mem_map.2 ⟨n, hn, rfl⟩
    rw [hr] at h1
    obtain ⟨x, hx, he⟩ := List.mem_map.1 h1
    exact ⟨x, List.mem_reverse.1 hx, he.symm⟩
  refine ⟨⟨?_, hu.ilen, Reads.of_own' h.row, fun n hn => ?_, hu.icells.more hB, hu.imps⟩, back_need u A c ns hr⟩
  · have := h.len
    have := hu.nlen
    show ns.length ≤ _
    omega
  · obtain ⟨x, hx, he⟩ := hof n hn
    refine ⟨?_, Reads.of_own' (h.rows n hn), fun r hr => ?_⟩
    · rw [he, List.length_reverse]
      exact (hu.nodes x hx).len
    · rw [he] at hr
      exact (hu.nodes x hx).refs r (List.mem_reverse.1 hr)
end

end Go.Proofs.Ytdmomdaeiaeolaa
