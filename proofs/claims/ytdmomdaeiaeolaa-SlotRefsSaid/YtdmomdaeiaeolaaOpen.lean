/-
  Arguments of the statements' types, opened: a unit, a layout, a slice of ints.
-/
import Derived.Test.YtdmomdaeiaeolaaBase
namespace Go.Proofs.Ytdmomdaeiaeolaa
open Go.Joins Go.ChangeShapes Go.WideShapes Go.RowKit Go.Deep

section
variable {H : Type} {enc : TypeId × Value → H} {w : World} {base : Nat} {held : Bool}

theorem choose_list {α : Type} {p : Nat → α → Prop} : ∀ (n : Nat), (∀ i, i < n → ∃ x, p i x) → ∃ vs : List α, vs.length = n ∧ ∀ i (h : i < vs.length), p i (vs[i]'h)
  | 0, _ => ⟨[], rfl, fun i h => absurd h (by simp)⟩
  | n + 1, h => by
    obtain ⟨vs, hl, hp⟩ := choose_list n (fun i hi => h i (by omega))
    obtain ⟨x, hx⟩ := h n (by omega)
    refine ⟨vs ++ [x], by simp [hl], fun i hi => ?_⟩
    by_cases hin : i < vs.length
    · rw [List.getElem_append_left hin]; exact hp i hin
    · have : i = vs.length := by simp at hi; omega
      subst this
      simp only [List.getElem_concat_length]
      rw [hl]
      exact hx

/-- A slice of rows of k cells that came in. -/
theorem open_rows {α : Type} {parts : α → List Value} {Ok : α → Prop} {t e : TypeId} {k fuel : Nat} {cs : List Value} {x : DataW H × List MemPlace} (hp : ∀ a, (parts a).length = k) (hk : 0 < k)
    (ht : Try.prog.underlying t = some (.slice e)) (hC : Try.prog.cellsOf e = k)
    (he : ∀ (n : Nat) (cs' : List Value) (y : DataW H × List MemPlace), cs'.length = k → DataW.trod enc Try.prog w base (fun _ => true) held n e cs' = some y → ∃ a, cs' = parts a ∧ Ok a)
    (h : DataW.trod enc Try.prog w base (fun _ => true) held fuel t cs = some x) :
    ∃ (A : Option Addr) (xs : List α) (c : Nat), cs = [.slice A xs.length c] ∧ xs.length ≤ 9223372036854775807 ∧ Reads w w.heap.size k A xs.length (xs.flatMap parts) ∧ ∀ a ∈ xs, Ok a := by
  rcases open_slice ht h with h0 | ⟨a, len, cap, m, n, D, Pl, hcs, hb, hl, hm, hmm, hx, hi⟩
  · exact ⟨none, [], 0, h0.1, by simp, Reads.none_, by simp⟩
  · simp only [if_true] at hmm
    subst hmm
    rw [hC] at hi
    obtain ⟨xs, hxl, hxs⟩ := choose_list (p := fun i x => Ok x ∧ ∀ j u, (parts x)[j]? = some u → w.cell? (a.add (i * k + j)) = some u) len (fun i him => by
      obtain ⟨cs', hc, ht'⟩ := hi i (by omega)
      obtain ⟨_, hcl, hat⟩ := World.cells?_some hc
      obtain ⟨x, rfl, hok⟩ := he n cs' _ hcl ht'
      refine ⟨x, hok, fun j u hu => ?_⟩
      have hj : j < k := by
        rw [← hp x]
        exact (List.getElem?_eq_some_iff.1 hu).1
      rw [← Go.Deep.add_add, hat j hj, hu])
    subst hxl
    refine ⟨some a, xs, _, hcs, by unfold maxLen at hm; omega, ⟨flat_length parts k hp xs, fun hn => ⟨a, rfl, ?_, fun j u hu => ?_⟩⟩, fun x hx => ?_⟩
    · have h0 : (parts (xs[0]'hn))[0]? = some ((parts (xs[0]'hn))[0]'(by rw [hp]; exact hk)) := List.getElem?_eq_getElem _
      have := cell_lt ((hxs 0 hn).2 0 _ h0)
      rwa [block_of_add] at this
    · have hj : j < (xs.flatMap parts).length := (List.getElem?_eq_some_iff.1 hu).1
      rw [flat_length parts k hp] at hj
      have hq : j / k < xs.length := (Nat.div_lt_iff_lt_mul hk).2 hj
      have e : j = j / k * k + j % k := by rw [Nat.mul_comm]; exact (Nat.div_add_mod j k).symm
      rw [e] at hu ⊢
      rw [flat_at parts k hp xs (j / k) (j % k) hq (Nat.mod_lt _ hk)] at hu
      exact (hxs (j / k) hq).2 (j % k) u hu
    · obtain ⟨i, hi', rfl⟩ := List.getElem_of_mem hx
      exact (hxs i hi').1

theorem open_int1 {n : Nat} {c : Value} {y : DataW H × List MemPlace} (h : DataW.trod enc Try.prog w base (fun _ => true) held n 3 [c] = some y) : ∃ z, c = .int .i64 z ∧ I64 z := by
  obtain ⟨a, e0, _, wa⟩ := DataW.trod_int Try.underlying3 h
  simp only [List.cons.injEq, and_true] at e0
  exact ⟨a, e0, wf_I64 wa⟩
theorem open_str1 {n : Nat} {c : Value} {y : DataW H × List MemPlace} (h : DataW.trod enc Try.prog w base (fun _ => true) held n 9 [c] = some y) : ∃ l : List UInt8, c = .string ⟨l.toArray⟩ ∧ l.length ≤ maxLen := by
  obtain ⟨s, e2, _, ws⟩ := DataW.trod_string Try.underlying9 h
  simp only [List.cons.injEq, and_true] at e2
  exact ⟨s.data.toList, by rw [e2, Lib.mk_data], by rw [← Lib.size_eq]; exact ws⟩

theorem open_bytes1 {n : Nat} {c : Value} {y : DataW H × List MemPlace} (h : DataW.trod enc Try.prog w base (fun _ => true) held n 9 [c] = some y) : ∃ s : ByteArray, c = .string s := by
  obtain ⟨l, hl, _⟩ := open_str1 h
  exact ⟨_, hl⟩
theorem open_bool1 {n : Nat} {c : Value} {y : DataW H × List MemPlace} (h : DataW.trod enc Try.prog w base (fun _ => true) held n 4 [c] = some y) : ∃ b, c = .bool b := by
  obtain ⟨b, hb, _⟩ := DataW.trod_bool Try.underlying4 h
  exact ⟨b, (List.cons.inj hb).1⟩
theorem open_sl1 {t e : TypeId} {n : Nat} {c : Value} {y : DataW H × List MemPlace} (ht : Try.prog.underlying t = some (.slice e)) (h : DataW.trod enc Try.prog w base (fun _ => true) held n t [c] = some y) : ∃ x : SlD, c = .slice x.A x.n x.c := by
  rcases DataW.trod_slice ht h with h0 | ⟨a, len, cap, elems, rest, n, _, hc, _⟩
  · exact ⟨⟨none, 0, 0⟩, (List.cons.inj h0.1).1⟩
  · exact ⟨⟨some a, len, cap⟩, (List.cons.inj hc).1⟩

/-- One cell of a struct. -/
theorem field_of {fs : Array Field} {t : TypeId} {n : Nat} {cs : List Value} {y : DataW H × List MemPlace} (ht : Try.prog.underlying t = some (.struct fs)) (h : DataW.trod enc Try.prog w base (fun _ => true) held n t cs = some y) (i : Nat) (f : Field) (hi : fs[i]? = some f) :
    ∃ (m : Nat) (z : DataW H × List MemPlace), DataW.trod enc Try.prog w base (fun _ => true) held m f.type ((cs.drop f.offset).take (Try.prog.cellsOf f.type)) = some z := by
  obtain ⟨ys, m, _, _, _, hlen, hg⟩ := DataW.trod_struct ht h
  have hlt : i < ys.length := by rw [hlen]; exact (Array.getElem?_eq_some_iff.1 hi).1
  exact ⟨m, _, (hg i f hi).trans (List.getElem?_eq_getElem hlt)⟩

theorem open_ref (n : Nat) (cs : List Value) (y : DataW H × List MemPlace) (hl : cs.length = 7) (h : DataW.trod enc Try.prog w base (fun _ => true) held n 53 cs = some y) : ∃ r : RefD, cs = r.parts ∧ r.Ok := by
  match cs, hl with
  | [c0, c1, c2, c3, c4, c5, c6], _ =>
    obtain ⟨m1, z1, h1⟩ := field_of Try.underlying53 h 1 _ rfl
    obtain ⟨k1, rfl, w1⟩ := open_int1 h1
    obtain ⟨m2, z2, h2⟩ := field_of Try.underlying53 h 2 _ rfl
    obtain ⟨m3, z3, h3⟩ := field_of Try.underlying28 h2 0 _ rfl
    obtain ⟨k2, rfl, w2⟩ := open_int1 h3
    obtain ⟨m4, z4, h4⟩ := field_of Try.underlying28 h2 1 _ rfl
    obtain ⟨k3, rfl, w3⟩ := open_int1 h4
    obtain ⟨_, _, g0⟩ := field_of Try.underlying53 h 0 _ rfl
    obtain ⟨_, _, g4⟩ := field_of Try.underlying28 h2 2 _ rfl
    obtain ⟨_, _, g5⟩ := field_of Try.underlying28 h2 3 _ rfl
    obtain ⟨_, _, g6⟩ := field_of Try.underlying53 h 3 _ rfl
    obtain ⟨d0, rfl, _⟩ := open_int1 g0
    obtain ⟨d4, rfl, _⟩ := open_int1 g4
    obtain ⟨d5, rfl, _⟩ := open_int1 g5
    obtain ⟨d6, rfl, _⟩ := open_int1 g6
    exact ⟨⟨d0, k1, k2, k3, d4, d5, d6⟩, rfl, ⟨w1, w2, w3⟩⟩

theorem open_node (n : Nat) (cs : List Value) (y : DataW H × List MemPlace) (hl : cs.length = 12) (h : DataW.trod enc Try.prog w base (fun _ => true) held n 51 cs = some y) : ∃ r : NodeD, cs = r.parts ∧ r.Ok w w.heap.size := by
  match cs, hl with
  | [c0, c1, c2, c3, c4, c5, c6, c7, c8, c9, c10, c11], _ =>
    obtain ⟨m1, z1, h1⟩ := field_of Try.underlying51 h 6 _ rfl
    obtain ⟨A, rs, c, hcs, hrl, hrd, hok⟩ := open_rows (k := 7) (parts := RefD.parts) (Ok := RefD.Ok) RefD.parts_length (by decide) Try.underlying44 (by kernel_rfl) open_ref h1
    have hc6 : c6 = .slice A rs.length c := (List.cons.inj hcs).1
    subst hc6
    obtain ⟨_, _, g0⟩ := field_of Try.underlying51 h 0 _ rfl
    obtain ⟨d0, rfl⟩ := open_bytes1 g0
    obtain ⟨_, _, g1⟩ := field_of Try.underlying51 h 1 _ rfl
    obtain ⟨d1, rfl⟩ := open_bytes1 g1
    obtain ⟨_, _, g2⟩ := field_of Try.underlying51 h 2 _ rfl
    obtain ⟨d2, rfl, _⟩ := open_int1 g2
    obtain ⟨_, _, g3⟩ := field_of Try.underlying51 h 3 _ rfl
    obtain ⟨d3, rfl, _⟩ := open_int1 g3
    obtain ⟨_, _, g4⟩ := field_of Try.underlying51 h 4 _ rfl
    obtain ⟨d4, rfl, _⟩ := open_int1 g4
    obtain ⟨_, _, g5⟩ := field_of Try.underlying51 h 5 _ rfl
    obtain ⟨d5, rfl⟩ := open_bytes1 g5
    obtain ⟨_, _, g7⟩ := field_of Try.underlying51 h 7 _ rfl
    obtain ⟨d7, rfl⟩ := open_sl1 Try.underlying45 g7
    obtain ⟨_, _, g8⟩ := field_of Try.underlying51 h 8 _ rfl
    obtain ⟨d8, rfl⟩ := open_sl1 Try.underlying46 g8
    obtain ⟨_, _, g9⟩ := field_of Try.underlying51 h 9 _ rfl
    obtain ⟨d9, rfl⟩ := open_sl1 Try.underlying47 g9
    obtain ⟨_, _, g10⟩ := field_of Try.underlying51 h 10 _ rfl
    obtain ⟨d10, rfl⟩ := open_sl1 Try.underlying48 g10
    obtain ⟨_, _, g11⟩ := field_of Try.underlying51 h 11 _ rfl
    obtain ⟨d11, rfl⟩ := open_sl1 Try.underlying49 g11
    exact ⟨⟨d0, d1, d2, d3, d4, d5, A, c, rs, d7, d8, d9, d10, d11⟩, rfl, ⟨hrl, hrd, hok⟩⟩

theorem open_imp (n : Nat) (cs : List Value) (y : DataW H × List MemPlace) (hl : cs.length = 5) (h : DataW.trod enc Try.prog w base (fun _ => true) held n 57 cs = some y) : ∃ r : ImpD, cs = r.parts ∧ r.Ok := by
  match cs, hl with
  | [c0, c1, c2, c3, c4], _ =>
    obtain ⟨m1, z1, h1⟩ := field_of Try.underlying57 h 0 _ rfl
    obtain ⟨s1, rfl, n1⟩ := open_str1 h1
    obtain ⟨m2, z2, h2⟩ := field_of Try.underlying57 h 1 _ rfl
    obtain ⟨s2, rfl, n2⟩ := open_str1 h2
    obtain ⟨_, _, g2⟩ := field_of Try.underlying57 h 2 _ rfl
    obtain ⟨d2, rfl, _⟩ := open_int1 g2
    obtain ⟨_, _, g3⟩ := field_of Try.underlying57 h 3 _ rfl
    obtain ⟨d3, rfl⟩ := open_bool1 g3
    obtain ⟨_, _, g4⟩ := field_of Try.underlying57 h 4 _ rfl
    obtain ⟨d4, rfl⟩ := open_bool1 g4
    exact ⟨⟨s1, s2, d2, d3, d4⟩, rfl, ⟨n1, n2⟩⟩

theorem openUnit {r : Reach} {b0 : Nat} {v : Value} {d : DataW H} {p : List MemPlace} (hv : Value.okWide Try.prog w r b0 32 v) (h : DataW.Trod enc Try.prog w base (fun _ => true) held 32 v d p) :
    ∃ u : UnitD, v = .agg u.parts.toArray ∧ u.Ok w w.heap.size := by
  obtain ⟨cs, rfl, hsz⟩ := okWide_struct Try.underlying32 hv
  obtain ⟨fuel, hf⟩ := h
  have hf' : DataW.trod enc Try.prog w base (fun _ => true) held fuel 32 cs.toList = some (d, p) := hf
  have hl : cs.toList.length = 14 := by rw [Array.length_toList, hsz]; kernel_rfl
  have he : cs = cs.toList.toArray := (Array.toArray_toList).symm
  generalize cs.toList = l at hf' hl he
  subst he
  clear hf hsz hv
  match l, hl with
  | [c0, c1, c2, c3, c4, c5, c6, c7, c8, c9, c10, c11, c12, c13], _ =>
    obtain ⟨m1, z1, h1⟩ := field_of Try.underlying32 hf' 2 _ rfl
    obtain ⟨A, ns, c, hcs, hnl, hnd, hnok⟩ := open_rows (k := 12) (parts := NodeD.parts) (Ok := fun n => n.Ok w w.heap.size) NodeD.parts_length (by decide) Try.underlying22 (by kernel_rfl) open_node h1
    have hc2 : c2 = .slice A ns.length c := (List.cons.inj hcs).1
    subst hc2
    obtain ⟨m2, z2, h2⟩ := field_of Try.underlying32 hf' 3 _ rfl
    obtain ⟨A', is, c', hcs', hil, hid, hiok⟩ := open_rows (k := 5) (parts := ImpD.parts) (Ok := ImpD.Ok) ImpD.parts_length (by decide) Try.underlying23 (by kernel_rfl) open_imp h2
    have hc3 : c3 = .slice A' is.length c' := (List.cons.inj hcs').1
    subst hc3
    obtain ⟨_, _, g0⟩ := field_of Try.underlying32 hf' 0 _ rfl
    obtain ⟨d0, rfl⟩ := open_bytes1 g0
    obtain ⟨_, _, g1⟩ := field_of Try.underlying32 hf' 1 _ rfl
    obtain ⟨d1, rfl⟩ := open_bool1 g1
    obtain ⟨_, _, g4⟩ := field_of Try.underlying32 hf' 4 _ rfl
    obtain ⟨d4, rfl⟩ := open_sl1 Try.underlying24 g4
    obtain ⟨_, _, g5⟩ := field_of Try.underlying32 hf' 5 _ rfl
    obtain ⟨d5, rfl⟩ := open_sl1 Try.underlying25 g5
    obtain ⟨_, _, g6⟩ := field_of Try.underlying32 hf' 6 _ rfl
    obtain ⟨d6, rfl⟩ := open_sl1 Try.underlying25 g6
    obtain ⟨_, _, g7⟩ := field_of Try.underlying32 hf' 7 _ rfl
    obtain ⟨d7, rfl⟩ := open_sl1 Try.underlying26 g7
    obtain ⟨_, _, g12⟩ := field_of Try.underlying32 hf' 9 _ rfl
    obtain ⟨d12, rfl⟩ := open_sl1 Try.underlying29 g12
    obtain ⟨_, _, g13⟩ := field_of Try.underlying32 hf' 10 _ rfl
    obtain ⟨d13, rfl⟩ := open_sl1 Try.underlying30 g13
    obtain ⟨_, _, gE⟩ := field_of Try.underlying32 hf' 8 _ rfl
    obtain ⟨_, _, g8⟩ := field_of Try.underlying28 gE 0 _ rfl
    obtain ⟨d8, rfl, _⟩ := open_int1 g8
    obtain ⟨_, _, g9⟩ := field_of Try.underlying28 gE 1 _ rfl
    obtain ⟨d9, rfl, _⟩ := open_int1 g9
    obtain ⟨_, _, g10⟩ := field_of Try.underlying28 gE 2 _ rfl
    obtain ⟨d10, rfl, _⟩ := open_int1 g10
    obtain ⟨_, _, g11⟩ := field_of Try.underlying28 gE 3 _ rfl
    obtain ⟨d11, rfl, _⟩ := open_int1 g11
    exact ⟨⟨d0, d1, A, c, ns, A', c', is, d4, d5, d6, d7, d8, d9, d10, d11, d12, d13⟩, rfl, ⟨hnl, hil, hnd, hnok, hid, hiok⟩⟩

theorem int_rows (zs : List Int) : zs.flatMap (fun z => [Value.int .i64 z]) = intCells zs := by
  induction zs with
  | nil => rfl
  | cons z zs ih => rw [List.flatMap_cons, ih]; rfl
theorem openInts {fuel : Nat} {cs : List Value} {y : DataW H × List MemPlace} (h : DataW.trod enc Try.prog w base (fun _ => true) held fuel 33 cs = some y) :
    ∃ (A : Option Addr) (zs : List Int) (c : Nat), cs = [.slice A zs.length c] ∧ zs.length ≤ 9223372036854775807 ∧ Reads w w.heap.size 1 A zs.length (intCells zs) ∧ ∀ z ∈ zs, I64 z := by
  obtain ⟨A, zs, c, h1, h2, h3, h4⟩ := open_rows (k := 1) (parts := fun z => [Value.int .i64 z]) (Ok := I64) (fun _ => rfl) (by decide) Try.underlying33 (by kernel_rfl) (fun n cs' y' hl h' => by
    match cs', hl with
    | [c], _ =>
      obtain ⟨z, rfl, hz⟩ := open_int1 h'
      exact ⟨z, rfl, hz⟩) h
  rw [int_rows] at h3
  exact ⟨A, zs, c, h1, h2, h3, h4⟩

theorem openSlots {r : Reach} {b0 : Nat} {v : Value} {d : DataW H} {p : List MemPlace} (hv : Value.okWide Try.prog w r b0 33 v) (h : DataW.Trod enc Try.prog w base (fun _ => true) held 33 v d p) :
    ∃ (A : Option Addr) (zs : List Int) (c : Nat), v = .slice A zs.length c ∧ zs.length ≤ 9223372036854775807 ∧ Reads w w.heap.size 1 A zs.length (intCells zs) ∧ ∀ z ∈ zs, I64 z := by
  obtain ⟨n, hn⟩ := h
  obtain ⟨a, len, cap, rfl⟩ := okWide_slice Try.underlying33 hv
  obtain ⟨A, zs, c, h1, h2⟩ := openInts hn
  have h1' : ([Value.slice a len cap] : List Value) = [.slice A zs.length c] := h1
  exact ⟨A, zs, c, (List.cons.inj h1').1, h2⟩

theorem openLay {r : Reach} {b0 : Nat} {v : Value} {d : DataW H} {p : List MemPlace} (hv : Value.okWide Try.prog w r b0 36 v) (h : DataW.Trod enc Try.prog w base (fun _ => true) held 36 v d p) :
    ∃ l : LayD, v = .agg l.parts.toArray ∧ l.Ok w w.heap.size := by
  obtain ⟨cs, rfl, hsz⟩ := okWide_struct Try.underlying36 hv
  obtain ⟨fuel, hf⟩ := h
  have hf' : DataW.trod enc Try.prog w base (fun _ => true) held fuel 36 cs.toList = some (d, p) := hf
  have hl : cs.toList.length = 7 := by rw [Array.length_toList, hsz]; kernel_rfl
  have he : cs = cs.toList.toArray := (Array.toArray_toList).symm
  generalize cs.toList = l at hf' hl he
  subst he
  clear hf hsz hv
  match l, hl with
  | [c0, c1, c2, c3, c4, c5, c6], _ =>
    obtain ⟨m1, z1, h1⟩ := field_of Try.underlying36 hf' 1 _ rfl
    obtain ⟨A, zs, c, hcs, hzl, hzr, hzi⟩ := openInts h1
    have hc1 : c1 = .slice A zs.length c := (List.cons.inj hcs).1
    subst hc1
    obtain ⟨_, _, g0⟩ := field_of Try.underlying36 hf' 0 _ rfl
    obtain ⟨d0, rfl⟩ := open_sl1 Try.underlying33 g0
    obtain ⟨_, _, g2⟩ := field_of Try.underlying36 hf' 2 _ rfl
    obtain ⟨d2, rfl⟩ := open_sl1 Try.underlying34 g2
    obtain ⟨_, _, g3⟩ := field_of Try.underlying36 hf' 3 _ rfl
    obtain ⟨d3, rfl, _⟩ := open_int1 g3
    obtain ⟨_, _, g4⟩ := field_of Try.underlying36 hf' 4 _ rfl
    obtain ⟨d4, rfl, _⟩ := open_int1 g4
    obtain ⟨_, _, g5⟩ := field_of Try.underlying36 hf' 5 _ rfl
    obtain ⟨d5, rfl, _⟩ := open_int1 g5
    obtain ⟨_, _, g6⟩ := field_of Try.underlying36 hf' 6 _ rfl
    obtain ⟨d6, rfl, _⟩ := open_int1 g6
    exact ⟨⟨d0, A, c, zs, d2, d3, d4, d5, d6⟩, rfl, ⟨hzl, hzr, hzi⟩⟩
end

end Go.Proofs.Ytdmomdaeiaeolaa
