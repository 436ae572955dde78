/-
  Arguments of the statements' types, opened: a patch; the two tables that the row lists.
-/
import Derived.Test.YtefgajipakjpeaaDoorEdit
import Derived.Test.YtefgajipakjpeaaDoorPerm
import Derived.Test.YtefgajipakjpeaaDoorCards
import Derived.Test.YtefgajipakjpeaaDoorTie
import Derived.ProofKit
import Derived.ShutString
import Derived.Lib.SmallJoins
import Derived.Deep.Slices
import Derived.Deep.Fields
import Derived.ChangeSame
import Derived.SliceStrings
import Derived.OpenShut
import Derived.Deep.DeepHandedRow
import Derived.Lib.LaidTab
import Derived.Stop.LaidErr
namespace Go.Proofs.YtefgajipakjpeaaDoor
open Go.Joins Go.ChangeShapes Go.WideShapes Go.RowKit Go.Deep

section
variable {H : Type} {enc : TypeId × Value → H} {w : World} {base : Nat} {held : Bool}

theorem choose_list {α : Type} {p : Nat → α → Prop} : ∀ (n : Nat), (∀ i, i < n → ∃ x, p i x) → ∃ vs : List α, vs.length = n ∧ ∀ i (h : i < vs.length), p i (vs[i]'h)
  | 0, _ => ⟨[], rfl, fun i h => absurd h (by simp)⟩
  | n + 1, h => by
    obtain ⟨vs, hl, hp⟩ := choose_list n (fun i hi => h i (by omega))
    obtain ⟨x, hx⟩ := h n (by omega)
    refine ⟨vs ++ [x], by simp [hl], fun i hi => ?_⟩
    by_cases hin : i < vs.length
    · rw [List.getElem_append_left hin]; exact hp i hin
    · have : i = vs.length := by simp at hi; omega
      subst this
      simp only [List.getElem_concat_length]
      rw [hl]
      exact hx

/-- A slice of rows of k cells that came in. -/
theorem open_rows {α : Type} {parts : α → List Value} {Ok : α → Prop} {t e : TypeId} {k fuel : Nat} {cs : List Value} {x : DataW H × List MemPlace} (hp : ∀ a, (parts a).length = k) (hk : 0 < k)
    (ht : Tryd.prog.underlying t = some (.slice e)) (hC : Tryd.prog.cellsOf e = k)
    (he : ∀ (n : Nat) (cs' : List Value) (y : DataW H × List MemPlace), cs'.length = k → DataW.trod enc Tryd.prog w base (fun _ => true) held n e cs' = some y → ∃ a, cs' = parts a ∧ Ok a)
    (h : DataW.trod enc Tryd.prog w base (fun _ => true) held fuel t cs = some x) :
    ∃ (A : Option Addr) (xs : List α) (c : Nat), cs = [.slice A xs.length c] ∧ xs.length ≤ 9223372036854775807 ∧ Reads w w.heap.size k A xs.length (xs.flatMap parts) ∧ ∀ a ∈ xs, Ok a := by
  rcases open_slice ht h with h0 | ⟨a, len, cap, m, n, D, Pl, hcs, hb, hl, hm, hmm, hx, hi⟩
  · exact ⟨none, [], 0, h0.1, by simp, Reads.none_, by simp⟩
  · simp only [if_true] at hmm
    subst hmm
    rw [hC] at hi
    obtain ⟨xs, hxl, hxs⟩ := choose_list (p := fun i x => Ok x ∧ ∀ j u, (parts x)[j]? = some u → w.cell? (a.add (i * k + j)) = some u) len (fun i him => by
      obtain ⟨cs', hc, ht'⟩ := hi i (by omega)
      obtain ⟨_, hcl, hat⟩ := World.cells?_some hc
      obtain ⟨x, rfl, hok⟩ := he n cs' _ hcl ht'
      refine ⟨x, hok, fun j u hu => ?_⟩
      have hj : j < k := by
        rw [← hp x]
        exact (List.getElem?_eq_some_iff.1 hu).1
      rw [← Go.Deep.add_add, hat j hj, hu])
    subst hxl
    refine ⟨some a, xs, _, hcs, by unfold maxLen at hm; omega, ⟨flat_length parts k hp xs, fun hn => ⟨a, rfl, ?_, fun j u hu => ?_⟩⟩, fun x hx => ?_⟩
    · have h0 : (parts (xs[0]'hn))[0]? = some ((parts (xs[0]'hn))[0]'(by rw [hp]; exact hk)) := List.getElem?_eq_getElem _
      have := cell_lt ((hxs 0 hn).2 0 _ h0)
      rwa [block_of_add] at this
    · have hj : j < (xs.flatMap parts).length := (List.getElem?_eq_some_iff.1 hu).1
      rw [flat_length parts k hp] at hj
      have hq : j / k < xs.length := (Nat.div_lt_iff_lt_mul hk).2 hj
      have e : j = j / k * k + j % k := by rw [Nat.mul_comm]; exact (Nat.div_add_mod j k).symm
      rw [e] at hu ⊢
      rw [flat_at parts k hp xs (j / k) (j % k) hq (Nat.mod_lt _ hk)] at hu
      exact (hxs (j / k) hq).2 (j % k) u hu
    · obtain ⟨i, hi', rfl⟩ := List.getElem_of_mem hx
      exact (hxs i hi').1

theorem open_int1 {n : Nat} {c : Value} {y : DataW H × List MemPlace} (h : DataW.trod enc Tryd.prog w base (fun _ => true) held n 3 [c] = some y) : ∃ z, c = .int .i64 z ∧ I64 z := by
  obtain ⟨a, e0, _, wa⟩ := DataW.trod_int Tryd.underlying3 h
  simp only [List.cons.injEq, and_true] at e0
  exact ⟨a, e0, wf_I64 wa⟩
theorem open_str1 {n : Nat} {c : Value} {y : DataW H × List MemPlace} (h : DataW.trod enc Tryd.prog w base (fun _ => true) held n 9 [c] = some y) : ∃ l : List UInt8, c = .string ⟨l.toArray⟩ ∧ l.length ≤ maxLen := by
  obtain ⟨s, e2, _, ws⟩ := DataW.trod_string Tryd.underlying9 h
  simp only [List.cons.injEq, and_true] at e2
  exact ⟨s.data.toList, by rw [e2, Lib.mk_data], by rw [← Lib.size_eq]; exact ws⟩

theorem open_bytes1 {n : Nat} {c : Value} {y : DataW H × List MemPlace} (h : DataW.trod enc Tryd.prog w base (fun _ => true) held n 9 [c] = some y) : ∃ s : ByteArray, c = .string s := by
  obtain ⟨l, hl, _⟩ := open_str1 h
  exact ⟨_, hl⟩
theorem open_bool1 {n : Nat} {c : Value} {y : DataW H × List MemPlace} (h : DataW.trod enc Tryd.prog w base (fun _ => true) held n 4 [c] = some y) : ∃ b, c = .bool b := by
  obtain ⟨b, hb, _⟩ := DataW.trod_bool Tryd.underlying4 h
  exact ⟨b, (List.cons.inj hb).1⟩
/-- One cell of a struct. -/
theorem field_of {fs : Array Field} {t : TypeId} {n : Nat} {cs : List Value} {y : DataW H × List MemPlace} (ht : Tryd.prog.underlying t = some (.struct fs)) (h : DataW.trod enc Tryd.prog w base (fun _ => true) held n t cs = some y) (i : Nat) (f : Field) (hi : fs[i]? = some f) :
    ∃ (m : Nat) (z : DataW H × List MemPlace), DataW.trod enc Tryd.prog w base (fun _ => true) held m f.type ((cs.drop f.offset).take (Tryd.prog.cellsOf f.type)) = some z := by
  obtain ⟨ys, m, _, _, _, hlen, hg⟩ := DataW.trod_struct ht h
  have hlt : i < ys.length := by rw [hlen]; exact (Array.getElem?_eq_some_iff.1 hi).1
  exact ⟨m, _, (hg i f hi).trans (List.getElem?_eq_getElem hlt)⟩


set_option maxRecDepth 100000 in
theorem open_edit (n : Nat) (cs : List Value) (y : DataW H × List MemPlace) (hl : cs.length = 3) (h : DataW.trod enc Tryd.prog w base (fun _ => true) held n 56 cs = some y) : ∃ r : EditD, cs = r.parts ∧ r.Ok := by
  match cs, hl with
  | [c0, c1, c2], _ =>
    obtain ⟨m1, z1, h1⟩ := field_of Tryd.underlying56 h 0 _ rfl
    obtain ⟨k1, rfl, w1⟩ := open_int1 h1
    obtain ⟨m2, z2, h2⟩ := field_of Tryd.underlying56 h 1 _ rfl
    obtain ⟨k2, rfl, w2⟩ := open_int1 h2
    obtain ⟨m3, z3, h3⟩ := field_of Tryd.underlying56 h 2 _ rfl
    obtain ⟨s3, rfl, n3⟩ := open_str1 h3
    exact ⟨⟨k1, k2, s3⟩, rfl, ⟨w1, w2, n3⟩⟩

set_option maxRecDepth 100000 in
theorem openPatch {r : Reach} {b0 : Nat} {v : Value} {d : DataW H} {p : List MemPlace} (hv : Value.okWide Tryd.prog w r b0 24 v) (h : DataW.Trod enc Tryd.prog w base (fun _ => true) held 24 v d p) :
    ∃ u : PatchD, v = .agg u.parts.toArray ∧ u.Ok w w.heap.size := by
  obtain ⟨cs, rfl, hsz⟩ := okWide_struct Tryd.underlying24 hv
  obtain ⟨fuel, hf⟩ := h
  have hf' : DataW.trod enc Tryd.prog w base (fun _ => true) held fuel 24 cs.toList = some (d, p) := hf
  have hl : cs.toList.length = 3 := by rw [Array.length_toList, hsz]; kernel_rfl
  have he : cs = cs.toList.toArray := (Array.toArray_toList).symm
  generalize cs.toList = l at hf' hl he
  subst he
  clear hf hsz hv
  match l, hl with
  | [c0, c1, c2], _ =>
    obtain ⟨m1, z1, h1⟩ := field_of Tryd.underlying24 hf' 2 _ rfl
    obtain ⟨A, es, c, hcs, hel, hed, hok⟩ := open_rows (k := 3) (parts := EditD.parts) (Ok := EditD.Ok) EditD.parts_length (by decide) Tryd.underlying22 (by kernel_rfl) open_edit h1
    have hc2 : c2 = .slice A es.length c := (List.cons.inj hcs).1
    subst hc2
    obtain ⟨_, _, g0⟩ := field_of Tryd.underlying24 hf' 0 _ rfl
    obtain ⟨s0, rfl, n0⟩ := open_str1 g0
    obtain ⟨_, _, g1⟩ := field_of Tryd.underlying24 hf' 1 _ rfl
    obtain ⟨s1, rfl, n1⟩ := open_str1 g1
    exact ⟨⟨s0, s1, A, c, es⟩, rfl, ⟨n0, n1, hel, hed, hok⟩⟩
end

theorem gCons : Tryd.prog.globalNamed "linchpin/digest.constants" = some 0 := by kernel_rfl
theorem gTurns : Tryd.prog.globalNamed "linchpin/digest.turns" = some 1 := by kernel_rfl
theorem tyCons : (Tryd.prog.globals[0]?).map (·.type) = some 208 := by kernel_rfl
theorem tyTurns : (Tryd.prog.globals[1]?).map (·.type) = some 211 := by kernel_rfl
theorem cellsT208 : Tryd.prog.cellsOf 208 = 24 := by kernel_rfl
theorem cellsT94 : Tryd.prog.cellsOf 94 = 1 := by kernel_rfl
theorem cellsT211 : Tryd.prog.cellsOf 211 = 25 := by kernel_rfl
theorem cellsT3 : Tryd.prog.cellsOf 3 = 1 := by kernel_rfl
/-- What the rows list: the two tables stand in memory. -/
theorem tables {W : World} (h : laidMetH Tryd.prog Rows.patchReadsRow.laid W) : Tabs W := by
  have h1 : laidMet Tryd.prog (("linchpin/digest.turns", Lib.tabData .i64 (turnsL.map Int.ofNat)) :: ("linchpin/digest.constants", Lib.tabData .u64 constsL) :: []) W := h
  have ht := Lib.tabIs_of_head gTurns tyTurns Tryd.underlying211 Tryd.underlying3 cellsT3 cellsT211 h1
  have hc := Lib.tabIs_of_head gCons tyCons Tryd.underlying208 Tryd.underlying94 cellsT94 cellsT208 h1.tail
  have ct : ∀ i, i < 25 → W.cell? ⟨1, i, none⟩ = some (.int .i64 ((turnsL.getD i 0 : Nat) : Int)) := fun i hi => by
    have h2 := ht.cell gTurns i hi
    rw [h2]
    have h3 : ∀ j : Fin 25, (turnsL.map Int.ofNat).getD j.val 0 = ((turnsL.getD j.val 0 : Nat) : Int) := by decide
    rw [h3 ⟨i, hi⟩]
  exact ⟨fun i hi => hc.cell gCons i hi, ct, cell_lt (ct 0 (by decide))⟩

end Go.Proofs.YtefgajipakjpeaaDoor
