/-
  The boxed parameters of the statements, and small aids: a layout with its slots' capacity, 'in' over a beginning of a slice.
-/
import Derived.Test.YtdmomdaeiaeolaaKeepsLaw
namespace Go.Proofs.Ytdmomdaeiaeolaa
open Go.ChangeShapes Go.WideShapes Go.ChangeAt Go.RowKit Go.Deep

theorem few_imps {u : UnitD} (h : fewB u = true) : u.imps.length ≤ 10 := by
  simp only [fewB, Bool.and_eq_true, decide_eq_true_eq] at h
  exact h.1.1

/-- The three boxes stand. -/
structure Boxes (N : Nat) (old : UnitD) (l : LayD) (u : UnitD) (w0 w : World) : Prop where
  b0 : Blk w N 32 old.parts.toArray
  b1 : Blk w (N + 1) 36 l.parts.toArray
  b2 : Blk w (N + 1 + 1) 32 u.parts.toArray
  bel : Below N w0 w
theorem Boxes.below {N : Nat} {old : UnitD} {l : LayD} {u : UnitD} {w0 w w' : World} (h : Boxes N old l u w0 w) (hb : Below w.heap.size w w') : Boxes N old l u w0 w' :=
  ⟨h.b0.below hb h.b0.lt, h.b1.below hb h.b1.lt, h.b2.below hb h.b2.lt, h.bel.trans (hb.mono (Nat.le_of_lt h.b0.lt))⟩
theorem Boxes.drewN {N : Nat} {old : UnitD} {l : LayD} {u : UnitD} {w0 w : World} (h : Boxes N old l u w0 w) (n : Nat) : Boxes N old l u w0 (w.drewN n) :=
  ⟨h.b0, h.b1, h.b2, below_drewN h.bel n⟩

theorem Reads.take_ints {w : World} {B : Nat} {A : Option Addr} {zs : List Int} {i : Nat} (hi : i ≤ zs.length) (h : Reads w B 1 A zs.length (intCells zs)) : Reads w B 1 A i (intCells (zs.take i)) := by
  refine ⟨by rw [intCells_length, List.length_take]; omega, fun hn => ?_⟩
  obtain ⟨ad, e, hb, hc⟩ := h.2 (by omega)
  refine ⟨ad, e, hb, fun j u hu => hc j u ?_⟩
  unfold intCells at hu ⊢
  rw [List.getElem?_map, List.getElem?_take] at hu
  rw [List.getElem?_map]
  split at hu
  · exact hu
  · cases hu

theorem in_take {w : World} {B : Nat} {A : Option Addr} {zs : List Int} {i c : Nat} (hi : i ≤ zs.length) (h : Reads w B 1 A zs.length (intCells zs)) (hl : zs.length ≤ 9223372036854775807) (z : Int) :
    Calls Try.prog 15 #[.slice A i c, .int .i64 z] w fun e w' => e = .returned (.bool (decide (z ∈ zs.take i))) ∧ w' = w := by
  have hlen : (zs.take i).length = i := by rw [List.length_take]; omega
  have h1 := in_any A c B (zs.take i) z w (by rw [hlen]; exact h.take_ints hi) (by omega)
  rw [hlen] at h1
  exact h1.mono fun _ _ ⟨h2, h3⟩ => ⟨h2, h3.symm⟩

section
variable {H : Type} {enc : TypeId × Value → H} {w : World} {base : Nat} {held : Bool}
theorem cap_le {t e : TypeId} {n k c : Nat} {A : Option Addr} {y : DataW H × List MemPlace} (ht : Try.prog.underlying t = some (.slice e)) (h : DataW.trod enc Try.prog w base (fun _ => true) held n t [.slice A k c] = some y) : k ≤ c := by
  rcases open_slice ht h with h0 | ⟨a, len, cap, m, n, D, Pl, hcs, hb, hl, _⟩
  · have := (List.cons.inj h0.1).1
    injection this with _ h1 h2
    omega
  · have := (List.cons.inj hcs).1
    injection this with _ h1 h2
    omega
theorem openLayC {r : Reach} {b0 : Nat} {v : Value} {d : DataW H} {p : List MemPlace} (hv : Value.okWide Try.prog w r b0 36 v) (h : DataW.Trod enc Try.prog w base (fun _ => true) held 36 v d p) :
    ∃ l : LayD, v = .agg l.parts.toArray ∧ l.Ok w w.heap.size ∧ l.slots.length ≤ l.sc := by
  obtain ⟨l, rfl, hok⟩ := openLay hv h
  obtain ⟨fuel, hf⟩ := h
  have hf' : DataW.trod enc Try.prog w base (fun _ => true) held fuel 36 l.parts = some (d, p) := hf
  obtain ⟨m1, z1, h1⟩ := field_of Try.underlying36 hf' 1 _ rfl
  exact ⟨l, rfl, hok, cap_le Try.underlying33 h1⟩
end

end Go.Proofs.Ytdmomdaeiaeolaa
