/-
  Arguments of the statements' types, opened: an int, a Value by value, a slice of Values.
-/
import Derived.Test.YtcamfdmmcbimfaaRef
import Derived.ProofKit
import Derived.OpenShut
import Derived.ShutString
import Derived.ChangeOld
import Derived.Lib.SmallJoins
import Derived.Deep.Slices
import Derived.Deep.Fields
import Derived.ChangeSame
import Derived.SliceStrings
namespace Go.Proofs.Ytcamfdmmcbimfaa
open Go.Joins Go.ChangeShapes Go.WideShapes Go.RowKit Go.Deep

theorem wf_I64 {n : Int} (h : (Lit.int .i64 n).wf = true) : I64 n := by
  simp [Lit.wf, IntKind.min, IntKind.max, IntKind.bits, IntKind.signed] at h
  exact h

theorem cell_lt {w : World} {p : Addr} {v : Value} (h : w.cell? p = some v) : p.block < w.heap.size := by
  rcases Nat.lt_or_ge p.block w.heap.size with h1 | h1
  · exact h1
  · simp [World.cell?, Array.getElem?_eq_none h1] at h

section
variable {H : Type} {enc : TypeId × Value → H} {w : World} {base : Nat} {spare : Nat → Bool} {held : Bool}

theorem open_agg5 {P : Program} {r : Reach} {b0 : Nat} {t : TypeId} {f0 f1 f2 f3 f4 : Field} {v : Value} {d : DataW H} {p : List MemPlace} (hs : P.underlying t = some (.struct #[f0, f1, f2, f3, f4])) (hone : oneCellFields P #[f0, f1, f2, f3, f4] = true) (hC : P.cellsOf t = 5)
    (hv : Value.okWide P w r b0 t v) (h : DataW.Trod enc P w base spare held t v d p) :
    ∃ (v0 v1 v2 v3 v4 : Value) (y0 y1 y2 y3 y4 : DataW H × List MemPlace) (n : Nat), v = .agg #[v0, v1, v2, v3, v4] ∧
      DataW.trod enc P w base spare held n f0.type [v0] = some y0 ∧ DataW.trod enc P w base spare held n f1.type [v1] = some y1 ∧ DataW.trod enc P w base spare held n f2.type [v2] = some y2 ∧ DataW.trod enc P w base spare held n f3.type [v3] = some y3 ∧ DataW.trod enc P w base spare held n f4.type [v4] = some y4 := by
  obtain ⟨cs, rfl, hsz⟩ := okWide_struct hs hv
  obtain ⟨l⟩ := cs
  match l, hsz.trans hC with
  | [c0, c1, c2, c3, c4], _ =>
    obtain ⟨fuel, hf⟩ := h
    obtain ⟨xs, n, _, hx, _, hlen, hg⟩ := DataW.trod_struct hs hf
    obtain ⟨o0, k0⟩ := hone_of hone 0 f0 rfl
    obtain ⟨o1, k1⟩ := hone_of hone 1 f1 rfl
    obtain ⟨o2, k2⟩ := hone_of hone 2 f2 rfl
    obtain ⟨o3, k3⟩ := hone_of hone 3 f3 rfl
    obtain ⟨o4, k4⟩ := hone_of hone 4 f4 rfl
    match xs, hlen with
    | [y0, y1, y2, y3, y4], _ =>
      exact ⟨c0, c1, c2, c3, c4, y0, y1, y2, y3, y4, n, rfl, by simpa [Value.cells, o0, k0] using hg 0 f0 rfl, by simpa [Value.cells, o1, k1] using hg 1 f1 rfl, by simpa [Value.cells, o2, k2] using hg 2 f2 rfl, by simpa [Value.cells, o3, k3] using hg 3 f3 rfl, by simpa [Value.cells, o4, k4] using hg 4 f4 rfl⟩

/-- A slice of ints that came in. -/
theorem openInts {n : Nat} {v : Value} {y : DataW H × List MemPlace} (h : DataW.trod enc Try.prog w base (fun _ => true) held n 22 [v] = some y) :
    ∃ (A : Option Addr) (zs : List Int) (c : Nat), v = .slice A zs.length c ∧ zs.length ≤ 9223372036854775807 ∧ Reads w w.heap.size 1 A zs.length (intCells zs) ∧ ∀ z ∈ zs, I64 z := by
  rcases open_ints Try.underlying22 Try.underlying3 (by kernel_rfl) h with ⟨hcs, _⟩ | ⟨a, len, cap, zs, hcs, _, hl, hm, hz, _, hcell, hwz⟩
  · simp only [List.cons.injEq, and_true] at hcs
    exact ⟨none, [], 0, hcs, by simp, Reads.none_, by simp⟩
  · simp only [List.cons.injEq, and_true] at hcs
    simp only [if_true] at hz
    have hlen : (zs.take len).length = len := by simp; omega
    refine ⟨some a, zs.take len, cap, by rw [hcs, hlen], by rw [hlen]; unfold maxLen at hm; omega, ⟨by simp [intCells], fun hn => ⟨a, rfl, ?_, fun j u hu => ?_⟩⟩, fun z hz2 => wf_I64 (hwz z (List.mem_of_mem_take hz2))⟩
    · have := cell_lt (hcell 0 (by omega))
      rwa [block_of_add] at this
    · simp only [intCells, List.getElem?_map, Option.map_eq_some_iff] at hu
      obtain ⟨z, hz1, rfl⟩ := hu
      rw [List.getElem?_take] at hz1
      split at hz1
      · rw [hcell j (by omega), List.getD, hz1]; rfl
      · cases hz1

/-- A slice of strings that came in. -/
theorem openTexts {n : Nat} {v : Value} {y : DataW H × List MemPlace} (h : DataW.trod enc Try.prog w base (fun _ => true) held n 23 [v] = some y) :
    ∃ (A : Option Addr) (ts : List (List UInt8)) (c : Nat), v = .slice A ts.length c ∧ ts.length ≤ 9223372036854775807 ∧ Reads w w.heap.size 1 A ts.length (strCellsL ts) ∧ ∀ x ∈ ts, x.length ≤ 9223372036854775807 := by
  rcases open_strings Try.underlying23 Try.underlying9 (by kernel_rfl) h with ⟨hcs, _⟩ | ⟨a, len, cap, zs, hcs, _, hl, hm, hz, _, hcell, hwz⟩
  · simp only [List.cons.injEq, and_true] at hcs
    exact ⟨none, [], 0, hcs, by simp, Reads.none_, by simp⟩
  · simp only [List.cons.injEq, and_true] at hcs
    simp only [if_true] at hz
    have hlen : ((zs.take len).map fun s => s.data.toList).length = len := by simp; omega
    refine ⟨some a, (zs.take len).map fun s => s.data.toList, cap, by rw [hcs, hlen], by rw [hlen]; unfold maxLen at hm; omega, ⟨by simp [strCellsL], fun hn => ⟨a, rfl, ?_, fun j u hu => ?_⟩⟩, ?_⟩
    · have := cell_lt (hcell 0 (by omega))
      rwa [block_of_add] at this
    · simp only [strCellsL, List.map_map, List.getElem?_map, Option.map_eq_some_iff] at hu
      obtain ⟨z, hz1, rfl⟩ := hu
      rw [List.getElem?_take] at hz1
      split at hz1
      · rw [hcell j (by omega), List.getD, hz1]
        simp
      · cases hz1
    · intro x hx
      simp only [List.mem_map] at hx
      obtain ⟨s, hs, rfl⟩ := hx
      have := hwz s (List.mem_of_mem_take hs)
      unfold maxLen at this
      rw [← Lib.size_eq]
      omega

/-- The five readings of a Value make one. -/
theorem val_of {n : Nat} {v0 v1 v2 v3 v4 : Value} {y0 y1 y2 y3 y4 : DataW H × List MemPlace}
    (h0 : DataW.trod enc Try.prog w base (fun _ => true) held n 3 [v0] = some y0) (h1 : DataW.trod enc Try.prog w base (fun _ => true) held n 3 [v1] = some y1) (h2 : DataW.trod enc Try.prog w base (fun _ => true) held n 9 [v2] = some y2)
    (h3 : DataW.trod enc Try.prog w base (fun _ => true) held n 22 [v3] = some y3) (h4 : DataW.trod enc Try.prog w base (fun _ => true) held n 23 [v4] = some y4) :
    ∃ x : Val, [v0, v1, v2, v3, v4] = x.parts ∧ x.Ok w w.heap.size := by
  obtain ⟨a, e0, _, wa⟩ := DataW.trod_int Try.underlying3 h0
  obtain ⟨b, e1, _, wb⟩ := DataW.trod_int Try.underlying3 h1
  obtain ⟨s, e2, _, ws⟩ := DataW.trod_string Try.underlying9 h2
  obtain ⟨A, zs, c, e3, hzl, hzr, hzi⟩ := openInts h3
  obtain ⟨A', ts, c', e4, htl, htr, hti⟩ := openTexts h4
  simp only [List.cons.injEq, and_true] at e0 e1 e2
  subst e0 e1 e2 e3 e4
  refine ⟨⟨a, b, s.data.toList, A, c, zs, A', c', ts⟩, ?_, ⟨wf_I64 wa, wf_I64 wb, ?_, hzl, htl, hzr, hzi, htr, hti⟩⟩
  · simp [Val.parts]
  · show s.data.toList.length ≤ _
    rw [← Lib.size_eq]
    unfold maxLen at ws
    omega

theorem openVal {r : Reach} {b0 : Nat} {v : Value} {d : DataW H} {p : List MemPlace} (hv : Value.okWide Try.prog w r b0 25 v) (h : DataW.Trod enc Try.prog w base (fun _ => true) held 25 v d p) :
    ∃ x : Val, v = .agg x.parts.toArray ∧ x.Ok w w.heap.size := by
  obtain ⟨v0, v1, v2, v3, v4, y0, y1, y2, y3, y4, n, rfl, h0, h1, h2, h3, h4⟩ := open_agg5 Try.underlying25 (by kernel_rfl) (by kernel_rfl) hv h
  obtain ⟨x, hx, hok⟩ := val_of h0 h1 h2 h3 h4
  exact ⟨x, by rw [← hx], hok⟩

theorem open_slice_fields {P : Program} {t e : TypeId} {fs : Array Field} {fuel : Nat} {cs : List Value} {x : DataW H × List MemPlace} (ht : P.underlying t = some (.slice e)) (he : P.underlying e = some (.struct fs))
    (hone : oneCellFields P fs = true) (hC : P.cellsOf e = fs.size) (h : DataW.trod enc P w base spare held fuel t cs = some x) :
    (cs = [.slice none 0 0]) ∨
    ∃ (a : Addr) (len cap m : Nat), cs = [.slice (some a) len cap] ∧ len ≤ cap ∧ cap ≤ maxLen ∧ m = (if spare a.block then cap else len) ∧
      ∀ i, i < m → ∃ (n : Nat), ∀ (j : Nat) (f : Field), fs[j]? = some f → ∃ (v : Value) (y : DataW H × List MemPlace), w.cell? (a.add (i * fs.size + j)) = some v ∧ DataW.trod enc P w base spare held n f.type [v] = some y := by
  rcases open_slice ht h with h0 | ⟨a, len, cap, m, n, D, Pl, hcs, hb, hl, hm, hmm, hx, hi⟩
  · exact .inl h0.1
  · refine .inr ⟨a, len, cap, m, hcs, hl, hm, hmm, fun i him => ?_⟩
    obtain ⟨cs', hc, ht'⟩ := hi i him
    rw [hC] at hc
    obtain ⟨ys, n', hn', hy, hlen, hyl, hf⟩ := DataW.trod_struct he ht'
    obtain ⟨_, hcl, hat⟩ := World.cells?_some hc
    refine ⟨n', fun j f hj => ?_⟩
    obtain ⟨ho, hk⟩ := hone_of hone j f hj
    have hjl : j < fs.size := (Array.getElem?_eq_some_iff.1 hj).1
    have hcell := hat j hjl
    have hv : cs'[j]? = some (cs'[j]'(by omega)) := List.getElem?_eq_getElem (by omega)
    have h1 := hf j f hj
    rw [ho, hk] at h1
    have hone' : (cs'.drop j).take 1 = [cs'[j]'(by omega)] := by
      rw [List.drop_eq_getElem_cons (by omega)]
      rfl
    rw [hone'] at h1
    have hys : ys[j]? = some (ys[j]'(by omega)) := List.getElem?_eq_getElem (by omega)
    refine ⟨_, _, ?_, h1.trans hys⟩
    rw [← Go.Deep.add_add, hcell, hv]

theorem choose_list {p : Nat → Val → Prop} : ∀ (n : Nat), (∀ i, i < n → ∃ x, p i x) → ∃ vs : List Val, vs.length = n ∧ ∀ i (h : i < vs.length), p i (vs[i]'h)
  | 0, _ => ⟨[], rfl, fun i h => absurd h (by simp)⟩
  | n + 1, h => by
    obtain ⟨vs, hl, hp⟩ := choose_list n (fun i hi => h i (by omega))
    obtain ⟨x, hx⟩ := h n (by omega)
    refine ⟨vs ++ [x], by simp [hl], fun i hi => ?_⟩
    by_cases hin : i < vs.length
    · rw [List.getElem_append_left hin]; exact hp i hin
    · have : i = vs.length := by simp at hi; omega
      subst this
      simp only [List.getElem_concat_length]
      rw [hl]
      exact hx

/-- A slice of Values that came in. -/
theorem openVals {r : Reach} {b0 : Nat} {v : Value} {d : DataW H} {p : List MemPlace} (hv : Value.okWide Try.prog w r b0 28 v) (h : DataW.Trod enc Try.prog w base (fun _ => true) held 28 v d p) :
    ∃ (A : Option Addr) (vs : List Val) (c : Nat), v = .slice A vs.length c ∧ vs.length ≤ 9223372036854775807 ∧ ValsAt w w.heap.size A vs := by
  obtain ⟨A, len, cap, rfl⟩ := okWide_slice Try.underlying28 hv
  obtain ⟨fuel, hf⟩ := h
  rcases open_slice_fields Try.underlying28 Try.underlying25 (by kernel_rfl) (by kernel_rfl) hf with hcs | ⟨a, len', cap', m, hcs, hl, hm, hmm, hi⟩
  · simp [Value.cells] at hcs
    obtain ⟨rfl, rfl, rfl⟩ := hcs
    exact ⟨none, [], 0, rfl, by simp, Reads.none_, by simp⟩
  · simp [Value.cells] at hcs
    obtain ⟨rfl, rfl, rfl⟩ := hcs
    simp only [if_true] at hmm
    subst hmm
    obtain ⟨vs, hvl, hvs⟩ := choose_list (p := fun i x => x.Ok w w.heap.size ∧ ∀ j u, x.parts[j]? = some u → w.cell? (a.add (i * 5 + j)) = some u) len (fun i him => by
      obtain ⟨n, hf⟩ := hi i (by omega)
      obtain ⟨v0, y0, c0, t0⟩ := hf 0 _ rfl
      obtain ⟨v1, y1, c1, t1⟩ := hf 1 _ rfl
      obtain ⟨v2, y2, c2, t2⟩ := hf 2 _ rfl
      obtain ⟨v3, y3, c3, t3⟩ := hf 3 _ rfl
      obtain ⟨v4, y4, c4, t4⟩ := hf 4 _ rfl
      obtain ⟨x, hx, hok⟩ := val_of t0 t1 t2 t3 t4
      refine ⟨x, hok, fun j u hu => ?_⟩
      rw [← hx] at hu
      match j, hu with
      | 0, hu => simp at hu; subst hu; exact c0
      | 1, hu => simp at hu; subst hu; exact c1
      | 2, hu => simp at hu; subst hu; exact c2
      | 3, hu => simp at hu; subst hu; exact c3
      | 4, hu => simp at hu; subst hu; exact c4)
    subst hvl
    have hflat : (vs.flatMap Val.parts).length = vs.length * 5 := by
      clear hvs hi hf hl hv
      induction vs with
      | nil => rfl
      | cons x vs ih => rw [List.flatMap_cons, List.length_append, Val.parts_length, ih, List.length_cons]; omega
    refine ⟨some a, vs, _, rfl, by unfold maxLen at hm; omega, ⟨hflat, fun hn => ⟨a, rfl, ?_, fun j u hu => ?_⟩⟩, fun x hx => ?_⟩
    · have := cell_lt ((hvs 0 hn).2 0 _ rfl)
      rwa [block_of_add] at this
    · have hj : j < (vs.flatMap Val.parts).length := by
        rcases Nat.lt_or_ge j (vs.flatMap Val.parts).length with h1 | h1
        · exact h1
        · rw [List.getElem?_eq_none h1] at hu; cases hu
      rw [hflat] at hj
      have hq : j / 5 < vs.length := by omega
      have e : j = j / 5 * 5 + j % 5 := by omega
      rw [e] at hu ⊢
      rw [parts_at vs (j / 5) (j % 5) hq (by omega)] at hu
      exact (hvs (j / 5) hq).2 (j % 5) u hu
    · obtain ⟨i, hi', rfl⟩ := List.getElem_of_mem hx
      exact (hvs i hi').1
end

end Go.Proofs.Ytcamfdmmcbimfaa
