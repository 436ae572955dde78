/-
  A struct stored whole into its own new variable: what the walk goes on from. Conditions: those in each theorem's own statement.
-/
import Derived.Test.YtefgajipakjpeaaDoorApply
namespace Go.Proofs.YtefgajipakjpeaaDoor
open Go.RowKit

theorem Blk.put {w : World} {Z : Array Value} {T : TypeId} {cs : List Value} (hl : cs.length = Z.size) :
    Blk ((w.alloc (.cells Z T)).setCells w.heap.size 0 cs.toArray.toList) w.heap.size T cs.toArray ∧ Below w.heap.size w ((w.alloc (.cells Z T)).setCells w.heap.size 0 cs.toArray.toList) :=
  ⟨by simpa using (Blk.new w T Z).setCells (vs := cs) hl, Below.setCells _ 0 _ ((Below.refl _ _).alloc (Nat.le_refl _) _) (Nat.le_refl _)⟩
theorem wpList_new_store {P : Program} {ops : Array Oper} {rest : List Oper} {op : Oper} {a : Act} {w : World} {Z : Array Value} {Q : Exit → Act → World → Prop} (hgd : op.guard = none) (ty : TypeId) (x y : Operand) (ho : op.op = .store ty x y)
    (cs : List Value) (hx : a.eval x = .pointer (some ⟨w.heap.size, 0, none⟩)) (hy : a.eval y = .agg cs.toArray) (hz : cs.length = Z.size) (hi : (P.info? ty).map (·.size) = some cs.length) (h1 : ∀ v ∈ cs, v.oneCell' = true)
    (h : ∀ w', Blk w' w.heap.size ty cs.toArray → Below w.heap.size w w' → wpList P ops Q rest (a.put op.dst undef) w') : wpList P ops Q (op :: rest) a (w.alloc (.cells Z ty)) :=
  wpList_store_mid hgd ty x y ho w.heap.size 0 cs.toArray hx hy ((Blk.new w ty Z).there (by rw [List.size_toArray, hz]; exact Nat.le_refl _)) (by rw [hi, List.size_toArray]) (all_one h1)
    (h _ (Blk.put hz).1 (Blk.put hz).2)
theorem PatchD.one (p : PatchD) : ∀ v ∈ p.parts, v.oneCell' = true := by
  intro v hv
  simp only [PatchD.parts, List.mem_cons, List.not_mem_nil, or_false] at hv
  rcases hv with rfl | rfl | rfl <;> rfl
theorem patchInfo (p : PatchD) : (Tryd.prog.info? 24).map (·.size) = some p.parts.length := by
  show _ = some 3
  kernel_rfl

/-- A Go call in a region that draws its order, the only operation that may come up: every side condition is closed or an evaluation in the frame. -/
theorem wpAnyH_call {P : Program} {ops : Array Oper} {Q : Exit → Act → World → Prop} {md : Region.Mode} {S : World → Prop} {fuel : Nat} {listed : Array Bool} {a : Act} {w : World} {i : Nat} (hr : Region.ready md ops listed = [i])
    (f : FuncId) (xs : Array Operand) (ts : Array TypeId) (d : Option Tmp) (hop : (ops[i]?).map (fun o => (o.op, o.dst)) = some (Op.call { callee := .value (.func f), args := xs, argTypes := ts }, d))
    (hw : (ops[i]?).map (fun o => Region.wanted o (yielded ops a.tmps)) = some true) (hcf : ∀ (vs : Array Value) (w : World), (callFunc f vs).run P w = .ok (.enter f vs) w) (vs : Array Value) (hv : xs.map a.eval = vs)
    {R : Ending → World → Prop} (hc : Calls P f vs w R) (h : ∀ e w', R e w' → ∃ v, e = .returned v ∧ S w' ∧ (S w' → wpAnyH P md ops Q S fuel (listed.setIfInBounds i true) (a.put d v) w')) :
    wpAnyH P md ops Q S (fuel + 1) listed a w := by
  cases hi : ops[i]? with
  | none => rw [hi] at hop; cases hop
  | some o =>
    rw [hi] at hop hw
    simp only [Option.map_some, Option.some.injEq, Prod.mk.injEq] at hop hw
    obtain ⟨h1, h2⟩ := hop
    refine wpAnyH_ready hr (by simp) (AllReadyH.cons hi (fun K hK => ?_) AllReadyH.nil)
    refine step_callG hw f xs ts h1 hcf vs hv hc (fun e w' hR => ?_)
    obtain ⟨v, he, hS, hk⟩ := h e w' hR
    exact ⟨v, he, hK.out _ _ hS (by rw [h2]; exact hk)⟩

/-- An operation that yields its value whatever the world: taken first, every side condition closed or an evaluation in the frame. -/
theorem wpAnyH_pure {P : Program} {ops : Array Oper} {Q : Exit → Act → World → Prop} {md : Region.Mode} {S : World → Prop} {fuel : Nat} {listed : Array Bool} {a : Act} {w : World} {i : Nat} (d : Option Tmp) (v : Value)
    (hd : (ops[i]?).map (·.dst) = some d) (hs : Region.noSelect ops = true) (hf : Region.free md ops listed i = true) (hr : (Region.ready md ops listed).contains i = true)
    (hQ : ∀ c a w, Q (.panic c) (a.put d v) w → Q (.panic c) a w) (hw : (ops[i]?).map (fun o => Region.wanted o (yielded ops a.tmps)) = some true)
    (hy : ∀ w, (ops[i]?).map (fun o => (execOp a.eval o).run P w) = some (.ok (.value v) w)) (hS : S w)
    (h : wpAnyH P md ops Q S fuel (listed.setIfInBounds i true) (a.put d v) w) : wpAnyH P md ops Q S (fuel + 1) listed a w := by
  cases hi : ops[i]? with
  | none => rw [hi] at hd; cases hd
  | some o =>
    rw [hi] at hd hw hy
    simp only [Option.map_some, Option.some.injEq] at hd hw hy
    subst hd
    exact wpAnyH_take hi hs hf hr hQ (Or.inl ⟨hw, fun w _ => hy w⟩) hS h
/-- An operation that reads a cell which S names. -/
theorem wpAnyH_read {P : Program} {ops : Array Oper} {Q : Exit → Act → World → Prop} {md : Region.Mode} {S : World → Prop} {fuel : Nat} {listed : Array Bool} {a : Act} {w : World} {i : Nat} (d : Option Tmp) (v : Value)
    (hd : (ops[i]?).map (·.dst) = some d) (hs : Region.noSelect ops = true) (hf : Region.free md ops listed i = true) (hr : (Region.ready md ops listed).contains i = true)
    (hQ : ∀ c a w, Q (.panic c) (a.put d v) w → Q (.panic c) a w) (hw : (ops[i]?).map (fun o => Region.wanted o (yielded ops a.tmps)) = some true)
    (hy : ∀ o, ops[i]? = some o → ∀ w, S w → (execOp a.eval o).run P w = .ok (.value v) w) (hS : S w)
    (h : wpAnyH P md ops Q S fuel (listed.setIfInBounds i true) (a.put d v) w) : wpAnyH P md ops Q S (fuel + 1) listed a w := by
  cases hi : ops[i]? with
  | none => rw [hi] at hd; cases hd
  | some o =>
    rw [hi] at hd hw
    simp only [Option.map_some, Option.some.injEq] at hd hw
    subst hd
    exact wpAnyH_take hi hs hf hr hQ (Or.inl ⟨hw, hy o hi⟩) hS h
/-- An operation that is not wanted. -/
theorem wpAnyH_skip {P : Program} {ops : Array Oper} {Q : Exit → Act → World → Prop} {md : Region.Mode} {S : World → Prop} {fuel : Nat} {listed : Array Bool} {a : Act} {w : World} {i : Nat} (d : Option Tmp)
    (hd : (ops[i]?).map (·.dst) = some d) (hs : Region.noSelect ops = true) (hf : Region.free md ops listed i = true) (hr : (Region.ready md ops listed).contains i = true)
    (hQ : ∀ c a w, Q (.panic c) (a.put d undef) w → Q (.panic c) a w) (hw : (ops[i]?).map (fun o => Region.wanted o (yielded ops a.tmps)) = some false) (hS : S w)
    (h : wpAnyH P md ops Q S fuel (listed.setIfInBounds i true) (a.put d undef) w) : wpAnyH P md ops Q S (fuel + 1) listed a w := by
  cases hi : ops[i]? with
  | none => rw [hi] at hd; cases hd
  | some o =>
    rw [hi] at hd hw
    simp only [Option.map_some, Option.some.injEq] at hd hw
    subst hd
    exact wpAnyH_take hi hs hf hr hQ (Or.inr ⟨hw, rfl⟩) hS h
theorem wpAnyH_loadB {P : Program} {ops : Array Oper} {Q : Exit → Act → World → Prop} {md : Region.Mode} {S : World → Prop} {fuel : Nat} {listed : Array Bool} {a : Act} {w : World} {i : Nat} (d : Option Tmp) (ty : TypeId) (x : Operand) (b : Nat) (cs : List Value) (t : TypeDesc)
    (hop : (ops[i]?).map (fun o => (o.op, o.dst)) = some (.load ty x, d)) (hs : Region.noSelect ops = true) (hf : Region.free md ops listed i = true) (hr : (Region.ready md ops listed).contains i = true)
    (hQ : ∀ c a w, Q (.panic c) (a.put d (.agg cs.toArray)) w → Q (.panic c) a w) (hw : (ops[i]?).map (fun o => Region.wanted o (yielded ops a.tmps)) = some true) (hx : a.eval x = .pointer (some ⟨b, 0, none⟩))
    (hl : ∀ w, S w → w.rangeAt b 0 cs) (hu : P.underlying ty = some t) (ht : t.isRow = true) (hz : (P.info? ty).map (·.size) = some cs.length) (hS : S w)
    (h : wpAnyH P md ops Q S fuel (listed.setIfInBounds i true) (a.put d (.agg cs.toArray)) w) : wpAnyH P md ops Q S (fuel + 1) listed a w := by
  cases hi : ops[i]? with
  | none => rw [hi] at hop; cases hop
  | some o =>
    rw [hi] at hop hw
    simp only [Option.map_some, Option.some.injEq, Prod.mk.injEq] at hop hw
    obtain ⟨h1, h2⟩ := hop
    subst h2
    exact wpAnyH_take hi hs hf hr hQ (yieldsIf_load_mid hw ty x h1 b 0 hx cs t hl hu ht hz) hS h

end Go.Proofs.YtefgajipakjpeaaDoor
