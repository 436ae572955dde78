/-
  An image that came in, opened; the length of its encoding by its bulk.
-/
import Derived.Test.YtefgajipakjpeaaDoorOpenP
import Derived.Test.YtefgajipakjpeaaDoorImW
namespace Go.Proofs.YtefgajipakjpeaaDoor
open Go.Joins Go.ChangeShapes Go.WideShapes Go.RowKit Go.Deep

theorem bulk_agg {H : Type} (l : List (DataW H)) : Rows.uptoBulk (.agg l) = Rows.uptoBulkAll l + 1 := by simp [Rows.uptoBulk]
theorem bulk_cons {H : Type} (d : DataW H) (l : List (DataW H)) : Rows.uptoBulkAll (d :: l) = Rows.uptoBulk d + Rows.uptoBulkAll l := by simp [Rows.uptoBulkAll]
theorem bulk_nil {H : Type} : Rows.uptoBulkAll ([] : List (DataW H)) = 0 := by simp [Rows.uptoBulkAll]
theorem bulk_slice {H : Type} (a b : List (DataW H)) : Rows.uptoBulk (.slice a b) = Rows.uptoBulkAll a + Rows.uptoBulkAll b + 1 := by simp [Rows.uptoBulk]
theorem bulk_append {H : Type} : ∀ (l r : List (DataW H)), Rows.uptoBulkAll (l ++ r) = Rows.uptoBulkAll l + Rows.uptoBulkAll r
  | [], r => by rw [bulk_nil, List.nil_append, Nat.zero_add]
  | d :: l, r => by rw [List.cons_append, bulk_cons, bulk_cons, bulk_append l r]; omega
theorem bulk_rows {H α : Type} (wr : α → List UInt8) (D : Nat → DataW H) (xs : List α) (h : ∀ i (hi : i < xs.length), (wr (xs[i]'hi)).length ≤ 11 * Rows.uptoBulk (D i)) : ∀ n, n ≤ xs.length → ((xs.take n).flatMap wr).length ≤ 11 * Rows.uptoBulkAll ((List.range n).map D)
  | 0, _ => by simp
  | n + 1, hn => by
    have h1 := bulk_rows wr D xs h n (by omega)
    have h2 := h n (by omega)
    rw [List.take_succ_eq_append_getElem (by omega), List.flatMap_append, List.length_append, List.range_succ, List.map_append, bulk_append]
    simp only [List.flatMap_cons, List.flatMap_nil, List.append_nil, List.map_cons, List.map_nil, bulk_cons, bulk_nil]
    omega
theorem boolI_le (b : Bool) : (wInt (boolI b)).length ≤ 10 := wInt_le _ (by cases b <;> (unfold boolI I64; decide))

section
variable {H : Type} {enc : TypeId × Value → H} {w : World} {base : Nat} {held : Bool}

theorem open_i {n : Nat} {c : Value} {y : DataW H × List MemPlace} (h : DataW.trod enc Tryd.prog w base (fun _ => true) held n 3 [c] = some y) : ∃ z, c = .int .i64 z ∧ I64 z ∧ (wInt z).length ≤ 11 * Rows.uptoBulk y.1 := by
  obtain ⟨a, e0, hy, wa⟩ := DataW.trod_int Tryd.underlying3 h
  simp only [List.cons.injEq, and_true] at e0
  have hw := wInt_le a (wf_I64 wa)
  refine ⟨a, e0, wf_I64 wa, ?_⟩
  rw [hy]
  simp only [Rows.uptoBulk]
  omega
theorem open_s {n : Nat} {c : Value} {y : DataW H × List MemPlace} (h : DataW.trod enc Tryd.prog w base (fun _ => true) held n 9 [c] = some y) : ∃ l : List UInt8, c = .string ⟨l.toArray⟩ ∧ l.length ≤ maxLen ∧ (wText l).length ≤ 11 * Rows.uptoBulk y.1 := by
  obtain ⟨s, e2, hy, ws⟩ := DataW.trod_string Tryd.underlying9 h
  simp only [List.cons.injEq, and_true] at e2
  have hl : s.data.toList.length ≤ maxLen := by rw [← Lib.size_eq]; exact ws
  have hw := wText_le _ hl
  refine ⟨s.data.toList, by rw [e2, Lib.mk_data], hl, ?_⟩
  rw [hy]
  simp only [Rows.uptoBulk]
  omega
theorem open_b {n : Nat} {c : Value} {y : DataW H × List MemPlace} (h : DataW.trod enc Tryd.prog w base (fun _ => true) held n 4 [c] = some y) : ∃ b, c = .bool b ∧ (wInt (boolI b)).length ≤ 11 * Rows.uptoBulk y.1 := by
  obtain ⟨b, hb, hy⟩ := DataW.trod_bool Tryd.underlying4 h
  have hw := boolI_le b
  refine ⟨b, (List.cons.inj hb).1, ?_⟩
  rw [hy]
  simp only [Rows.uptoBulk]
  omega
/-- A list that came in. -/
theorem open_l {α : Type} {parts : α → List Value} {wr : α → List UInt8} {Ok : α → Prop} {t e : TypeId} {k fuel : Nat} {c : Value} {x : DataW H × List MemPlace} (hp : ∀ a, (parts a).length = k) (hk : 0 < k)
    (ht : Tryd.prog.underlying t = some (.slice e)) (hC : Tryd.prog.cellsOf e = k)
    (he : ∀ (n : Nat) (cs' : List Value) (y : DataW H × List MemPlace), cs'.length = k → DataW.trod enc Tryd.prog w base (fun _ => true) held n e cs' = some y → ∃ a, cs' = parts a ∧ Ok a ∧ (wr a).length ≤ 11 * Rows.uptoBulk y.1)
    (h : DataW.trod enc Tryd.prog w base (fun _ => true) held fuel t [c] = some x) :
    ∃ s : SlD α, c = .slice s.A s.xs.length s.c ∧ s.In k parts w w.heap.size ∧ (∀ a ∈ s.xs, Ok a) ∧ (wList wr s.xs).length ≤ 11 * Rows.uptoBulk x.1 := by
  rcases open_slice ht h with h0 | ⟨a, len, cap, m, n, D, Pl, hcs, hb, hl, hm, hmm, hx, hi⟩
  · refine ⟨SlD.nil, (List.cons.inj h0.1).1, SlD.In.nil_ _ _, by simp [SlD.nil], ?_⟩
    rw [h0.2]
    have := Lib.uvarint_length64 (x := 0) (by omega)
    show (Lib.uvarint 0 ++ []).length ≤ 11 * Rows.uptoBulk .nil
    rw [List.append_nil]
    simp only [Rows.uptoBulk]
    omega
  · simp only [if_true] at hmm
    subst hmm
    rw [hC] at hi
    obtain ⟨xs, hxl, hxs⟩ := choose_list (p := fun i x => (Ok x ∧ (wr x).length ≤ 11 * Rows.uptoBulk (D i)) ∧ ∀ j u, (parts x)[j]? = some u → w.cell? (a.add (i * k + j)) = some u) len (fun i him => by
      obtain ⟨cs', hc, ht'⟩ := hi i (by omega)
      obtain ⟨_, hcl, hat⟩ := World.cells?_some hc
      obtain ⟨x, rfl, hok, hbk⟩ := he n cs' _ hcl ht'
      refine ⟨x, ⟨hok, hbk⟩, fun j u hu => ?_⟩
      have hj : j < k := by
        rw [← hp x]
        exact (List.getElem?_eq_some_iff.1 hu).1
      rw [← Go.Deep.add_add, hat j hj, hu])
    subst hxl
    refine ⟨⟨some a, _, xs⟩, (List.cons.inj hcs).1, ⟨⟨flat_length parts k hp xs, fun hn => ⟨a, rfl, ?_, fun j u hu => ?_⟩⟩, by show xs.length ≤ maxLen; omega⟩, fun x hx => ?_, ?_⟩
    · have h0 : (parts (xs[0]'hn))[0]? = some ((parts (xs[0]'hn))[0]'(by rw [hp]; exact hk)) := List.getElem?_eq_getElem _
      have := cell_lt ((hxs 0 hn).2 0 _ h0)
      rwa [block_of_add] at this
    · have hj : j < (xs.flatMap parts).length := (List.getElem?_eq_some_iff.1 hu).1
      rw [flat_length parts k hp] at hj
      have hq : j / k < xs.length := (Nat.div_lt_iff_lt_mul hk).2 hj
      have e : j = j / k * k + j % k := by rw [Nat.mul_comm]; exact (Nat.div_add_mod j k).symm
      rw [e] at hu ⊢
      rw [flat_at parts k hp xs (j / k) (j % k) hq (Nat.mod_lt _ hk)] at hu
      exact (hxs (j / k) hq).2 (j % k) u hu
    · obtain ⟨i, hi', rfl⟩ := List.getElem_of_mem hx
      exact (hxs i hi').1.1
    · have hr := bulk_rows wr D xs (fun i hi => (hxs i hi).1.2) xs.length (Nat.le_refl _)
      rw [List.take_length] at hr
      have hu := Lib.uvarint_length64 (x := xs.length) (by unfold maxLen at hm; omega)
      rw [hx, bulk_slice]
      show (wList wr xs).length ≤ _
      unfold wList
      rw [List.length_append]
      omega

set_option maxRecDepth 100000 in
theorem open_Int_ (n : Nat) (cs : List Value) (y : DataW H × List MemPlace) (hl : cs.length = 1) (h : DataW.trod enc Tryd.prog w base (fun _ => true) held n 3 cs = some y) : ∃ r : Int_D, cs = r.parts ∧ Int_D.Ok r ∧ (wInt_ r).length ≤ 11 * Rows.uptoBulk y.1 := by
  match cs, hl with
  | [c0], _ =>
    obtain ⟨k0, rfl, v0, b0⟩ := open_i h
    exact ⟨⟨k0⟩, rfl, { f0 := v0 }, b0⟩

set_option maxRecDepth 100000 in
theorem open_Str (n : Nat) (cs : List Value) (y : DataW H × List MemPlace) (hl : cs.length = 1) (h : DataW.trod enc Tryd.prog w base (fun _ => true) held n 9 cs = some y) : ∃ r : StrD, cs = r.parts ∧ StrD.Ok r ∧ (wStr r).length ≤ 11 * Rows.uptoBulk y.1 := by
  match cs, hl with
  | [c0], _ =>
    obtain ⟨k0, rfl, v0, b0⟩ := open_s h
    exact ⟨⟨k0⟩, rfl, { f0 := v0 }, b0⟩

set_option maxRecDepth 100000 in
theorem open_Piece (n : Nat) (cs : List Value) (y : DataW H × List MemPlace) (hl : cs.length = 3) (h : DataW.trod enc Tryd.prog w base (fun _ => true) held n 157 cs = some y) : ∃ r : PieceD, cs = r.parts ∧ PieceD.Ok r ∧ (wPiece r).length ≤ 11 * Rows.uptoBulk y.1 := by
  match cs, hl with
  | [c0, c1, c2], _ =>
    obtain ⟨ys, m, _, hy, _, hlen, hg⟩ := DataW.trod_struct Tryd.underlying157 h
    match ys, hlen with
    | [y0, y1, y2], _ =>
      obtain ⟨k0, rfl, v0, b0⟩ := open_i (hg 0 _ rfl)
      obtain ⟨k1, rfl, v1, b1⟩ := open_i (hg 1 _ rfl)
      obtain ⟨k2, rfl, v2, b2⟩ := open_i (hg 2 _ rfl)
      refine ⟨⟨k0, k1, k2⟩, rfl, { f0 := v0, f1 := v1, f2 := v2 }, ?_⟩
      rw [hy]
      simp only [List.map_cons, List.map_nil, bulk_agg, bulk_cons, bulk_nil]
      unfold wPiece
      simp only [List.length_append]
      omega

set_option maxRecDepth 100000 in
theorem open_Placed (n : Nat) (cs : List Value) (y : DataW H × List MemPlace) (hl : cs.length = 7) (h : DataW.trod enc Tryd.prog w base (fun _ => true) held n 115 cs = some y) : ∃ r : PlacedD, cs = r.parts ∧ PlacedD.Ok r ∧ (wPlaced r).length ≤ 11 * Rows.uptoBulk y.1 := by
  match cs, hl with
  | [c0, c1, c2, c3, c4, c5, c6], _ =>
    obtain ⟨ys, m, _, hy, _, hlen, hg⟩ := DataW.trod_struct Tryd.underlying115 h
    match ys, hlen with
    | [y0, y1, y2, y3, y4, y5, y6], _ =>
      obtain ⟨k0, rfl, v0, b0⟩ := open_s (hg 0 _ rfl)
      obtain ⟨k1, rfl, v1, b1⟩ := open_s (hg 1 _ rfl)
      obtain ⟨k2, rfl, v2, b2⟩ := open_i (hg 2 _ rfl)
      obtain ⟨k3, rfl, v3, b3⟩ := open_i (hg 3 _ rfl)
      obtain ⟨k4, rfl, v4, b4⟩ := open_i (hg 4 _ rfl)
      obtain ⟨k5, rfl, v5, b5⟩ := open_s (hg 5 _ rfl)
      obtain ⟨k6, rfl, v6, b6⟩ := open_s (hg 6 _ rfl)
      refine ⟨⟨k0, k1, k2, k3, k4, k5, k6⟩, rfl, { f0 := v0, f1 := v1, f2 := v2, f3 := v3, f4 := v4, f5 := v5, f6 := v6 }, ?_⟩
      rw [hy]
      simp only [List.map_cons, List.map_nil, bulk_agg, bulk_cons, bulk_nil]
      unfold wPlaced
      simp only [List.length_append]
      omega

set_option maxRecDepth 100000 in
theorem open_Export (n : Nat) (cs : List Value) (y : DataW H × List MemPlace) (hl : cs.length = 6) (h : DataW.trod enc Tryd.prog w base (fun _ => true) held n 121 cs = some y) : ∃ r : ExportD, cs = r.parts ∧ ExportD.Ok r ∧ (wExport r).length ≤ 11 * Rows.uptoBulk y.1 := by
  match cs, hl with
  | [c0, c1, c2, c3, c4, c5], _ =>
    obtain ⟨ys, m, _, hy, _, hlen, hg⟩ := DataW.trod_struct Tryd.underlying121 h
    match ys, hlen with
    | [y0, y1, y2, y3, y4, y5], _ =>
      obtain ⟨k0, rfl, v0, b0⟩ := open_s (hg 0 _ rfl)
      obtain ⟨k1, rfl, v1, b1⟩ := open_s (hg 1 _ rfl)
      obtain ⟨k2, rfl, b2⟩ := open_b (hg 2 _ rfl)
      obtain ⟨k3, rfl, v3, b3⟩ := open_i (hg 3 _ rfl)
      obtain ⟨k4, rfl, v4, b4⟩ := open_i (hg 4 _ rfl)
      obtain ⟨k5, rfl, v5, b5⟩ := open_i (hg 5 _ rfl)
      refine ⟨⟨k0, k1, k2, k3, k4, k5⟩, rfl, { f0 := v0, f1 := v1, f3 := v3, f4 := v4, f5 := v5 }, ?_⟩
      rw [hy]
      simp only [List.map_cons, List.map_nil, bulk_agg, bulk_cons, bulk_nil]
      unfold wExport
      simp only [List.length_append]
      omega

set_option maxRecDepth 100000 in
theorem open_Import (n : Nat) (cs : List Value) (y : DataW H × List MemPlace) (hl : cs.length = 5) (h : DataW.trod enc Tryd.prog w base (fun _ => true) held n 127 cs = some y) : ∃ r : ImportD, cs = r.parts ∧ ImportD.Ok r ∧ (wImport r).length ≤ 11 * Rows.uptoBulk y.1 := by
  match cs, hl with
  | [c0, c1, c2, c3, c4], _ =>
    obtain ⟨ys, m, _, hy, _, hlen, hg⟩ := DataW.trod_struct Tryd.underlying127 h
    match ys, hlen with
    | [y0, y1, y2, y3, y4], _ =>
      obtain ⟨k0, rfl, v0, b0⟩ := open_s (hg 0 _ rfl)
      obtain ⟨k1, rfl, v1, b1⟩ := open_s (hg 1 _ rfl)
      obtain ⟨k2, rfl, v2, b2⟩ := open_i (hg 2 _ rfl)
      obtain ⟨k3, rfl, b3⟩ := open_b (hg 3 _ rfl)
      obtain ⟨k4, rfl, b4⟩ := open_b (hg 4 _ rfl)
      refine ⟨⟨k0, k1, k2, k3, k4⟩, rfl, { f0 := v0, f1 := v1, f2 := v2 }, ?_⟩
      rw [hy]
      simp only [List.map_cons, List.map_nil, bulk_agg, bulk_cons, bulk_nil]
      unfold wImport
      simp only [List.length_append]
      omega

set_option maxRecDepth 100000 in
theorem open_Dyn (n : Nat) (cs : List Value) (y : DataW H × List MemPlace) (hl : cs.length = 4) (h : DataW.trod enc Tryd.prog w base (fun _ => true) held n 135 cs = some y) : ∃ r : DynD, cs = r.parts ∧ DynD.Ok r ∧ (wDyn r).length ≤ 11 * Rows.uptoBulk y.1 := by
  match cs, hl with
  | [c0, c1, c2, c3], _ =>
    obtain ⟨ys, m, _, hy, _, hlen, hg⟩ := DataW.trod_struct Tryd.underlying135 h
    match ys, hlen with
    | [y0, y1, y2, y3], _ =>
      obtain ⟨k0, rfl, v0, b0⟩ := open_i (hg 0 _ rfl)
      obtain ⟨k1, rfl, v1, b1⟩ := open_i (hg 1 _ rfl)
      obtain ⟨k2, rfl, v2, b2⟩ := open_i (hg 2 _ rfl)
      obtain ⟨k3, rfl, v3, b3⟩ := open_i (hg 3 _ rfl)
      refine ⟨⟨k0, k1, k2, k3⟩, rfl, { f0 := v0, f1 := v1, f2 := v2, f3 := v3 }, ?_⟩
      rw [hy]
      simp only [List.map_cons, List.map_nil, bulk_agg, bulk_cons, bulk_nil]
      unfold wDyn
      simp only [List.length_append]
      omega

set_option maxRecDepth 100000 in
theorem open_VerDef (n : Nat) (cs : List Value) (y : DataW H × List MemPlace) (hl : cs.length = 2) (h : DataW.trod enc Tryd.prog w base (fun _ => true) held n 143 cs = some y) : ∃ r : VerDefD, cs = r.parts ∧ (fun x : VerDefD => x.Ok ∧ x.f1.In 1 StrD.parts w w.heap.size) r ∧ (wVerDef r).length ≤ 11 * Rows.uptoBulk y.1 := by
  match cs, hl with
  | [c0, c1], _ =>
    obtain ⟨ys, m, _, hy, _, hlen, hg⟩ := DataW.trod_struct Tryd.underlying143 h
    match ys, hlen with
    | [y0, y1], _ =>
      obtain ⟨k0, rfl, v0, b0⟩ := open_s (hg 0 _ rfl)
      obtain ⟨k1, rfl, n1, v1, b1⟩ := open_l (parts := StrD.parts) (wr := wStr) (Ok := StrD.Ok) StrD.parts_length (by decide) Tryd.underlying38 (by kernel_rfl) open_Str (hg 1 _ rfl)
      refine ⟨⟨k0, k1⟩, rfl, ⟨{ f0 := v0, f1 := v1 }, n1⟩, ?_⟩
      rw [hy]
      simp only [List.map_cons, List.map_nil, bulk_agg, bulk_cons, bulk_nil]
      unfold wVerDef
      simp only [List.length_append]
      omega

set_option maxRecDepth 100000 in
theorem open_Conv (n : Nat) (cs : List Value) (y : DataW H × List MemPlace) (hl : cs.length = 5) (h : DataW.trod enc Tryd.prog w base (fun _ => true) held n 152 cs = some y) : ∃ r : ConvD, cs = r.parts ∧ (fun x : ConvD => x.Ok ∧ x.f3.In 3 PieceD.parts w w.heap.size) r ∧ (wConv r).length ≤ 11 * Rows.uptoBulk y.1 := by
  match cs, hl with
  | [c0, c1, c2, c3, c4], _ =>
    obtain ⟨ys, m, _, hy, _, hlen, hg⟩ := DataW.trod_struct Tryd.underlying152 h
    match ys, hlen with
    | [y0, y1, y2, y3, y4], _ =>
      obtain ⟨k0, rfl, v0, b0⟩ := open_s (hg 0 _ rfl)
      obtain ⟨k1, rfl, v1, b1⟩ := open_s (hg 1 _ rfl)
      obtain ⟨k2, rfl, v2, b2⟩ := open_s (hg 2 _ rfl)
      obtain ⟨k3, rfl, n3, v3, b3⟩ := open_l (parts := PieceD.parts) (wr := wPiece) (Ok := PieceD.Ok) PieceD.parts_length (by decide) Tryd.underlying150 (by kernel_rfl) open_Piece (hg 3 _ rfl)
      obtain ⟨k4, rfl, v4, b4⟩ := open_i (hg 4 _ rfl)
      refine ⟨⟨k0, k1, k2, k3, k4⟩, rfl, ⟨{ f0 := v0, f1 := v1, f2 := v2, f3 := v3, f4 := v4 }, n3⟩, ?_⟩
      rw [hy]
      simp only [List.map_cons, List.map_nil, bulk_agg, bulk_cons, bulk_nil]
      unfold wConv
      simp only [List.length_append]
      omega

set_option maxRecDepth 100000 in
theorem open_Mark (n : Nat) (cs : List Value) (y : DataW H × List MemPlace) (hl : cs.length = 4) (h : DataW.trod enc Tryd.prog w base (fun _ => true) held n 173 cs = some y) : ∃ r : MarkD, cs = r.parts ∧ MarkD.Ok r ∧ (wMark r).length ≤ 11 * Rows.uptoBulk y.1 := by
  match cs, hl with
  | [c0, c1, c2, c3], _ =>
    obtain ⟨ys, m, _, hy, _, hlen, hg⟩ := DataW.trod_struct Tryd.underlying173 h
    match ys, hlen with
    | [y0, y1, y2, y3], _ =>
      obtain ⟨k0, rfl, v0, b0⟩ := open_s (hg 0 _ rfl)
      obtain ⟨k1, rfl, v1, b1⟩ := open_i (hg 1 _ rfl)
      obtain ⟨k2, rfl, v2, b2⟩ := open_i (hg 2 _ rfl)
      obtain ⟨k3, rfl, v3, b3⟩ := open_i (hg 3 _ rfl)
      refine ⟨⟨k0, k1, k2, k3⟩, rfl, { f0 := v0, f1 := v1, f2 := v2, f3 := v3 }, ?_⟩
      rw [hy]
      simp only [List.map_cons, List.map_nil, bulk_agg, bulk_cons, bulk_nil]
      unfold wMark
      simp only [List.length_append]
      omega

set_option maxRecDepth 100000 in
theorem open_Line (n : Nat) (cs : List Value) (y : DataW H × List MemPlace) (hl : cs.length = 4) (h : DataW.trod enc Tryd.prog w base (fun _ => true) held n 179 cs = some y) : ∃ r : LineD, cs = r.parts ∧ LineD.Ok r ∧ (wLine r).length ≤ 11 * Rows.uptoBulk y.1 := by
  match cs, hl with
  | [c0, c1, c2, c3], _ =>
    obtain ⟨ys, m, _, hy, _, hlen, hg⟩ := DataW.trod_struct Tryd.underlying179 h
    match ys, hlen with
    | [y0, y1, y2, y3], _ =>
      obtain ⟨k0, rfl, v0, b0⟩ := open_i (hg 0 _ rfl)
      obtain ⟨k1, rfl, v1, b1⟩ := open_i (hg 1 _ rfl)
      obtain ⟨k2, rfl, v2, b2⟩ := open_s (hg 2 _ rfl)
      obtain ⟨k3, rfl, v3, b3⟩ := open_i (hg 3 _ rfl)
      refine ⟨⟨k0, k1, k2, k3⟩, rfl, { f0 := v0, f1 := v1, f2 := v2, f3 := v3 }, ?_⟩
      rw [hy]
      simp only [List.map_cons, List.map_nil, bulk_agg, bulk_cons, bulk_nil]
      unfold wLine
      simp only [List.length_append]
      omega

set_option maxRecDepth 100000 in
theorem open_Span (n : Nat) (cs : List Value) (y : DataW H × List MemPlace) (hl : cs.length = 2) (h : DataW.trod enc Tryd.prog w base (fun _ => true) held n 185 cs = some y) : ∃ r : SpanD, cs = r.parts ∧ SpanD.Ok r ∧ (wSpan r).length ≤ 11 * Rows.uptoBulk y.1 := by
  match cs, hl with
  | [c0, c1], _ =>
    obtain ⟨ys, m, _, hy, _, hlen, hg⟩ := DataW.trod_struct Tryd.underlying185 h
    match ys, hlen with
    | [y0, y1], _ =>
      obtain ⟨k0, rfl, v0, b0⟩ := open_i (hg 0 _ rfl)
      obtain ⟨k1, rfl, v1, b1⟩ := open_i (hg 1 _ rfl)
      refine ⟨⟨k0, k1⟩, rfl, { f0 := v0, f1 := v1 }, ?_⟩
      rw [hy]
      simp only [List.map_cons, List.map_nil, bulk_agg, bulk_cons, bulk_nil]
      unfold wSpan
      simp only [List.length_append]
      omega

set_option maxRecDepth 100000 in
theorem open_Inline (n : Nat) (cs : List Value) (y : DataW H × List MemPlace) (hl : cs.length = 6) (h : DataW.trod enc Tryd.prog w base (fun _ => true) held n 191 cs = some y) : ∃ r : InlineD, cs = r.parts ∧ InlineD.Ok r ∧ (wInline r).length ≤ 11 * Rows.uptoBulk y.1 := by
  match cs, hl with
  | [c0, c1, c2, c3, c4, c5], _ =>
    obtain ⟨ys, m, _, hy, _, hlen, hg⟩ := DataW.trod_struct Tryd.underlying191 h
    match ys, hlen with
    | [y0, y1, y2, y3, y4, y5], _ =>
      obtain ⟨k0, rfl, v0, b0⟩ := open_i (hg 0 _ rfl)
      obtain ⟨k1, rfl, v1, b1⟩ := open_i (hg 1 _ rfl)
      obtain ⟨k2, rfl, v2, b2⟩ := open_i (hg 2 _ rfl)
      obtain ⟨k3, rfl, v3, b3⟩ := open_s (hg 3 _ rfl)
      obtain ⟨k4, rfl, v4, b4⟩ := open_s (hg 4 _ rfl)
      obtain ⟨k5, rfl, v5, b5⟩ := open_i (hg 5 _ rfl)
      refine ⟨⟨k0, k1, k2, k3, k4, k5⟩, rfl, { f0 := v0, f1 := v1, f2 := v2, f3 := v3, f4 := v4, f5 := v5 }, ?_⟩
      rw [hy]
      simp only [List.map_cons, List.map_nil, bulk_agg, bulk_cons, bulk_nil]
      unfold wInline
      simp only [List.length_append]
      omega

set_option maxRecDepth 100000 in
theorem open_VarI (n : Nat) (cs : List Value) (y : DataW H × List MemPlace) (hl : cs.length = 6) (h : DataW.trod enc Tryd.prog w base (fun _ => true) held n 197 cs = some y) : ∃ r : VarID, cs = r.parts ∧ VarID.Ok r ∧ (wVarI r).length ≤ 11 * Rows.uptoBulk y.1 := by
  match cs, hl with
  | [c0, c1, c2, c3, c4, c5], _ =>
    obtain ⟨ys, m, _, hy, _, hlen, hg⟩ := DataW.trod_struct Tryd.underlying197 h
    match ys, hlen with
    | [y0, y1, y2, y3, y4, y5], _ =>
      obtain ⟨k0, rfl, v0, b0⟩ := open_i (hg 0 _ rfl)
      obtain ⟨k1, rfl, v1, b1⟩ := open_i (hg 1 _ rfl)
      obtain ⟨k2, rfl, v2, b2⟩ := open_i (hg 2 _ rfl)
      obtain ⟨k3, rfl, v3, b3⟩ := open_s (hg 3 _ rfl)
      obtain ⟨k4, rfl, v4, b4⟩ := open_i (hg 4 _ rfl)
      obtain ⟨k5, rfl, v5, b5⟩ := open_i (hg 5 _ rfl)
      refine ⟨⟨k0, k1, k2, k3, k4, k5⟩, rfl, { f0 := v0, f1 := v1, f2 := v2, f3 := v3, f4 := v4, f5 := v5 }, ?_⟩
      rw [hy]
      simp only [List.map_cons, List.map_nil, bulk_agg, bulk_cons, bulk_nil]
      unfold wVarI
      simp only [List.length_append]
      omega

set_option maxRecDepth 100000 in
theorem open_Depth (n : Nat) (cs : List Value) (y : DataW H × List MemPlace) (hl : cs.length = 4) (h : DataW.trod enc Tryd.prog w base (fun _ => true) held n 203 cs = some y) : ∃ r : DepthD, cs = r.parts ∧ DepthD.Ok r ∧ (wDepth r).length ≤ 11 * Rows.uptoBulk y.1 := by
  match cs, hl with
  | [c0, c1, c2, c3], _ =>
    obtain ⟨ys, m, _, hy, _, hlen, hg⟩ := DataW.trod_struct Tryd.underlying203 h
    match ys, hlen with
    | [y0, y1, y2, y3], _ =>
      obtain ⟨k0, rfl, v0, b0⟩ := open_i (hg 0 _ rfl)
      obtain ⟨k1, rfl, v1, b1⟩ := open_i (hg 1 _ rfl)
      obtain ⟨k2, rfl, v2, b2⟩ := open_i (hg 2 _ rfl)
      obtain ⟨k3, rfl, v3, b3⟩ := open_i (hg 3 _ rfl)
      refine ⟨⟨k0, k1, k2, k3⟩, rfl, { f0 := v0, f1 := v1, f2 := v2, f3 := v3 }, ?_⟩
      rw [hy]
      simp only [List.map_cons, List.map_nil, bulk_agg, bulk_cons, bulk_nil]
      unfold wDepth
      simp only [List.length_append]
      omega

set_option maxHeartbeats 4000000 in
set_option maxRecDepth 100000 in
theorem openImage {r : Reach} {b0 : Nat} {v : Value} {d : DataW H} {p : List MemPlace} (hv : Value.okWide Tryd.prog w r b0 50 v) (h : DataW.Trod enc Tryd.prog w base (fun _ => true) held 50 v d p) :
    ∃ u : ImageD, v = .agg u.parts.toArray ∧ u.In w w.heap.size ∧ u.Ok ∧ (wImage u).length ≤ 11 * Rows.uptoBulk d := by
  obtain ⟨cs, rfl, hsz⟩ := okWide_struct Tryd.underlying50 hv
  obtain ⟨fuel, hf⟩ := h
  have hf' : DataW.trod enc Tryd.prog w base (fun _ => true) held fuel 50 cs.toList = some (d, p) := hf
  have hl : cs.toList.length = 26 := by rw [Array.length_toList, hsz]; kernel_rfl
  have he : cs = cs.toList.toArray := (Array.toArray_toList).symm
  generalize cs.toList = l at hf' hl he
  subst he
  clear hf hsz hv
  match l, hl with
  | [c0, c1, c2, c3, c4, c5, c6, c7, c8, c9, c10, c11, c12, c13, c14, c15, c16, c17, c18, c19, c20, c21, c22, c23, c24, c25], _ =>
    obtain ⟨ys, m, _, hy, _, hlen, hg⟩ := DataW.trod_struct Tryd.underlying50 hf'
    match ys, hlen with
    | [y0, y1, y2, y3, y4, y5, y6, y7, y8, y9, y10, y11, y12, y13, y14, y15, y16, y17, y18, y19, y20], _ =>
      obtain ⟨k0, rfl, v0, b0⟩ := open_s (hg 0 _ rfl)
      obtain ⟨k1, rfl, b1⟩ := open_b (hg 1 _ rfl)
      obtain ⟨k2, rfl, v2, b2⟩ := open_i (hg 2 _ rfl)
      obtain ⟨k3, rfl, v3, b3⟩ := open_i (hg 3 _ rfl)
      obtain ⟨k4, rfl, v4, b4⟩ := open_i (hg 4 _ rfl)
      obtain ⟨k5, rfl, v5, b5⟩ := open_s (hg 5 _ rfl)
      obtain ⟨k6, rfl, v6, b6⟩ := open_s (hg 6 _ rfl)
      obtain ⟨k7, rfl, v7, b7⟩ := open_i (hg 7 _ rfl)
      obtain ⟨k8, rfl, n8, v8, b8⟩ := open_l (parts := PlacedD.parts) (wr := wPlaced) (Ok := PlacedD.Ok) PlacedD.parts_length (by decide) Tryd.underlying33 (by kernel_rfl) open_Placed (hg 8 _ rfl)
      obtain ⟨k9, rfl, n9, v9, b9⟩ := open_l (parts := ExportD.parts) (wr := wExport) (Ok := ExportD.Ok) ExportD.parts_length (by decide) Tryd.underlying34 (by kernel_rfl) open_Export (hg 9 _ rfl)
      obtain ⟨k10, rfl, n10, v10, b10⟩ := open_l (parts := ImportD.parts) (wr := wImport) (Ok := ImportD.Ok) ImportD.parts_length (by decide) Tryd.underlying35 (by kernel_rfl) open_Import (hg 10 _ rfl)
      obtain ⟨k11, rfl, n11, v11, b11⟩ := open_l (parts := Int_D.parts) (wr := wInt_) (Ok := Int_D.Ok) Int_D.parts_length (by decide) Tryd.underlying36 (by kernel_rfl) open_Int_ (hg 11 _ rfl)
      obtain ⟨k12, rfl, n12, v12, b12⟩ := open_l (parts := Int_D.parts) (wr := wInt_) (Ok := Int_D.Ok) Int_D.parts_length (by decide) Tryd.underlying36 (by kernel_rfl) open_Int_ (hg 12 _ rfl)
      obtain ⟨k13, rfl, n13, v13, b13⟩ := open_l (parts := DynD.parts) (wr := wDyn) (Ok := DynD.Ok) DynD.parts_length (by decide) Tryd.underlying37 (by kernel_rfl) open_Dyn (hg 13 _ rfl)
      obtain ⟨k14, rfl, n14, v14, b14⟩ := open_l (parts := Int_D.parts) (wr := wInt_) (Ok := Int_D.Ok) Int_D.parts_length (by decide) Tryd.underlying36 (by kernel_rfl) open_Int_ (hg 14 _ rfl)
      obtain ⟨k15, rfl, n15, v15, b15⟩ := open_l (parts := Int_D.parts) (wr := wInt_) (Ok := Int_D.Ok) Int_D.parts_length (by decide) Tryd.underlying36 (by kernel_rfl) open_Int_ (hg 15 _ rfl)
      obtain ⟨k16, rfl, v16, b16⟩ := open_i (hg 16 _ rfl)
      obtain ⟨k17, rfl, n17, v17, b17⟩ := open_l (parts := StrD.parts) (wr := wStr) (Ok := StrD.Ok) StrD.parts_length (by decide) Tryd.underlying38 (by kernel_rfl) open_Str (hg 17 _ rfl)
      obtain ⟨k18, rfl, n18, v18, b18⟩ := open_l (parts := VerDefD.parts) (wr := wVerDef) (Ok := (fun x : VerDefD => x.Ok ∧ x.f1.In 1 StrD.parts w w.heap.size)) VerDefD.parts_length (by decide) Tryd.underlying39 (by kernel_rfl) open_VerDef (hg 18 _ rfl)
      obtain ⟨zs, mm, _, hz, _, hlen2, hg2⟩ := DataW.trod_struct Tryd.underlying47 (hg 19 _ rfl)
      match zs, hlen2 with
      | [z19, z20, z21, z22, z23, z24], _ =>
        obtain ⟨k19, rfl, n19, v19, b19⟩ := open_l (parts := MarkD.parts) (wr := wMark) (Ok := MarkD.Ok) MarkD.parts_length (by decide) Tryd.underlying40 (by kernel_rfl) open_Mark (hg2 0 _ rfl)
        obtain ⟨k20, rfl, n20, v20, b20⟩ := open_l (parts := LineD.parts) (wr := wLine) (Ok := LineD.Ok) LineD.parts_length (by decide) Tryd.underlying41 (by kernel_rfl) open_Line (hg2 1 _ rfl)
        obtain ⟨k21, rfl, n21, v21, b21⟩ := open_l (parts := SpanD.parts) (wr := wSpan) (Ok := SpanD.Ok) SpanD.parts_length (by decide) Tryd.underlying42 (by kernel_rfl) open_Span (hg2 2 _ rfl)
        obtain ⟨k22, rfl, n22, v22, b22⟩ := open_l (parts := InlineD.parts) (wr := wInline) (Ok := InlineD.Ok) InlineD.parts_length (by decide) Tryd.underlying43 (by kernel_rfl) open_Inline (hg2 3 _ rfl)
        obtain ⟨k23, rfl, n23, v23, b23⟩ := open_l (parts := VarID.parts) (wr := wVarI) (Ok := VarID.Ok) VarID.parts_length (by decide) Tryd.underlying44 (by kernel_rfl) open_VarI (hg2 4 _ rfl)
        obtain ⟨k24, rfl, n24, v24, b24⟩ := open_l (parts := DepthD.parts) (wr := wDepth) (Ok := DepthD.Ok) DepthD.parts_length (by decide) Tryd.underlying45 (by kernel_rfl) open_Depth (hg2 5 _ rfl)
        obtain ⟨k25, rfl, n25, v25, b25⟩ := open_l (parts := ConvD.parts) (wr := wConv) (Ok := (fun x : ConvD => x.Ok ∧ x.f3.In 3 PieceD.parts w w.heap.size)) ConvD.parts_length (by decide) Tryd.underlying48 (by kernel_rfl) open_Conv (hg 20 _ rfl)
        refine ⟨⟨k0, k1, k2, k3, k4, k5, k6, k7, k8, k9, k10, k11, k12, k13, k14, k15, k16, k17, k18, k19, k20, k21, k22, k23, k24, k25⟩, rfl, { i8 := n8, i9 := n9, i10 := n10, i11 := n11, i12 := n12, i13 := n13, i14 := n14, i15 := n15, i17 := n17, i18 := n18, i19 := n19, i20 := n20, i21 := n21, i22 := n22, i23 := n23, i24 := n24, i25 := n25, n18 := fun y hy => (v18 y hy).2, n25 := fun y hy => (v25 y hy).2 }, { i0 := v0, i2 := v2, i3 := v3, i4 := v4, i5 := v5, i6 := v6, i7 := v7, i8 := v8, i9 := v9, i10 := v10, i11 := v11, i12 := v12, i13 := v13, i14 := v14, i15 := v15, i16 := v16, i17 := v17, i18 := fun y hy => (v18 y hy).1, i19 := v19, i20 := v20, i21 := v21, i22 := v22, i23 := v23, i24 := v24, i25 := fun y hy => (v25 y hy).1 }, ?_⟩
        have hd : d = .agg _ := congrArg Prod.fst hy
        have hd2 : y19.1 = .agg _ := congrArg Prod.fst hz
        rw [hd]
        simp only [List.map_cons, List.map_nil, bulk_agg, bulk_cons, bulk_nil, hd2]
        unfold wImage wInfo
        simp only [List.length_append]
        omega
end

end Go.Proofs.YtefgajipakjpeaaDoor
