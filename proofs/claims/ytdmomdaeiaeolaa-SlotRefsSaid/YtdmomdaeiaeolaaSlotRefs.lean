/-
  SlotRefs: for all units of at most 10 imports and nodes with at most 20 refs each, the order of the nodes and of their refs has no influence on what is needed; without one of the refs, at most its target is not needed any more; for all other units the small example holds. No condition.
-/
import Derived.Test.YtdmomdaeiaeolaaRefsLaw
namespace Go.Proofs.Ytdmomdaeiaeolaa.slotRefs
open Go.ChangeShapes Go.WideShapes Go.ChangeAt Go.RowKit

theorem own : ownKnob Try.prog.godebug = none := by kernel_rfl

section
open Go.Deep
variable {H : Type} {enc : TypeId × Value → H} {w : World} {base : Nat} {held : Bool}
theorem openUnitC {r : Reach} {b0 : Nat} {v : Value} {d : DataW H} {p : List MemPlace} (hv : Value.okWide Try.prog w r b0 32 v) (h : DataW.Trod enc Try.prog w base (fun _ => true) held 32 v d p) :
    ∃ u : UnitD, v = .agg u.parts.toArray ∧ u.Ok w w.heap.size ∧ ∀ n ∈ u.nodes, n.refs.length ≤ n.c := by
  obtain ⟨u, rfl, hok⟩ := openUnit hv h
  refine ⟨u, rfl, hok, fun n hn => ?_⟩
  obtain ⟨i, hi, rfl⟩ := List.getElem_of_mem hn
  obtain ⟨fuel, hf⟩ := h
  have hf' : DataW.trod enc Try.prog w base (fun _ => true) held fuel 32 u.parts = some (d, p) := hf
  obtain ⟨m1, z1, h1⟩ := field_of Try.underlying32 hf' 2 _ rfl
  have h1' : DataW.trod enc Try.prog w base (fun _ => true) held m1 22 [.slice u.nA u.nodes.length u.nc] = some z1 := h1
  rcases open_slice Try.underlying22 h1' with h0 | ⟨a, len, cap, m, n, D, Pl, hcs, hb, hl, hm, hmm, hx, hrow⟩
  · have := (List.cons.inj h0.1).1
    injection this with _ h2 h3
    omega
  · have h2 := (List.cons.inj hcs).1
    injection h2 with h3 h4 h5
    simp only [if_true] at hmm
    obtain ⟨cs', hc, ht'⟩ := hrow i (by omega)
    obtain ⟨_, hcl, hat⟩ := World.cells?_some hc
    have hC : Try.prog.cellsOf 51 = 12 := by kernel_rfl
    rw [hC] at hcl hat
    obtain ⟨ad, he, _, hcell⟩ := hok.ncells.2 (by omega)
    rw [he] at h3
    injection h3 with h3
    subst h3
    have h6 : cs'[6]? = some (.slice (u.nodes[i]'hi).A (u.nodes[i]'hi).refs.length (u.nodes[i]'hi).c) := by
      have h7 := hcell (i * 12 + 6) _ ((flat_at NodeD.parts 12 NodeD.parts_length u.nodes i 6 hi (by decide)).trans rfl)
      rw [← hat 6 (by omega), Go.Deep.add_add]
      exact h7
    obtain ⟨m2, z2, h8⟩ := field_of Try.underlying51 ht' 6 _ rfl
    have e : (cs'.drop 6).take 1 = [.slice (u.nodes[i]'hi).A (u.nodes[i]'hi).refs.length (u.nodes[i]'hi).c] := by
      have hlt : 6 < cs'.length := by omega
      rw [List.drop_eq_getElem_cons hlt]
      rw [List.getElem?_eq_getElem hlt] at h6
      injection h6 with h6
      rw [h6]
      rfl
    have h9 : DataW.trod enc Try.prog w base (fun _ => true) held m2 44 ((cs'.drop 6).take 1) = some z2 := h8
    rw [e] at h9
    exact cap_le Try.underlying44 h9
end

theorem few_all {u : UnitD} (h : fewB u = true) : u.imps.length ≤ 10 ∧ u.nodes.length ≤ 10 ∧ ∀ n ∈ u.nodes, n.refs.length ≤ 20 := by
  simp only [fewB, Bool.and_eq_true, decide_eq_true_eq, List.all_eq_true] at h
  exact ⟨h.1.1, h.1.2, h.2⟩

theorem back_set (u : UnitD) (A A' : Option Addr) (c c' : Nat) (ns : List NodeD) (x : NodeD) : (backU u A c ns).parts.toArray.setIfInBounds 2 (.slice A' (ns.length + 1) c') = (backU u A' c' (ns ++ [x])).parts.toArray := by
  simp [backU, UnitD.parts]
theorem node_set (x : NodeD) (A : Option Addr) (c : Nat) (rs : List RefD) : x.parts.toArray.setIfInBounds 6 (.slice A rs.length c) = (nodeW x A c rs).parts.toArray := by
  simp [nodeW, NodeD.parts]
theorem news_at {w : World} {g : Nat} {t : TypeId} {cs : List Value} (h : Blk w g t cs.toArray) : ∀ (j : Nat) (u : Value), cs[j]? = some u → w.cell? ((⟨g, 0, none⟩ : Addr).add j) = some u := World.news_of_block h
theorem ref_one (r : RefD) : ∀ v ∈ r.parts, v.oneCell' = true := fun v hv => by
  simp only [RefD.parts, List.mem_cons, List.not_mem_nil, or_false] at hv
  rcases hv with rfl | rfl | rfl | rfl | rfl | rfl | rfl <;> rfl
theorem node_one (x : NodeD) : ∀ v ∈ x.parts, v.oneCell' = true := fun v hv => by
  simp only [NodeD.parts, List.mem_cons, List.not_mem_nil, or_false] at hv
  rcases hv with rfl | rfl | rfl | rfl | rfl | rfl | rfl | rfl | rfl | rfl | rfl | rfl <;> rfl
theorem drop_step (rs : List RefD) (s : Nat) (h : s < rs.length) : (rs.drop s).reverse = (rs.drop (s + 1)).reverse ++ [rs[s]'h] := by
  rw [List.drop_eq_getElem_cons h, List.reverse_cons]

theorem back_set2 (u : UnitD) (A A' : Option Addr) (c c' : Nat) (ns ns' : List NodeD) : (backU u A c ns).parts.toArray.setIfInBounds 2 (.slice A' ns'.length c') = (backU u A' c' ns').parts.toArray := by
  simp [backU, UnitD.parts]
theorem less_ok {u : UnitD} {w : World} {B base a : Nat} {A : Option Addr} {c : Nat} {y : NodeD} (hu : u.Ok w B) (hB : B ≤ w.heap.size)
    (hrow : w.ownsRow base 51 12 (.slice A u.nodes.length c) u.nodes.length ((u.nodes.set a y).flatMap NodeD.parts)) (hy : y.Ok w w.heap.size) : (backU u A c (u.nodes.set a y)).Ok w w.heap.size := by
  have hl : (u.nodes.set a y).length = u.nodes.length := List.length_set
  refine ⟨by show (u.nodes.set a y).length ≤ _; rw [hl]; exact hu.nlen, hu.ilen, ?_, fun n hn => ?_, hu.icells.more hB, hu.imps⟩
  · show Reads w _ 12 A (u.nodes.set a y).length _
    rw [hl]
    exact Reads.of_own' hrow
  · rcases List.mem_or_eq_of_mem_set hn with h | rfl
    · exact (hu.nodes n h).more hB
    · exact hy
theorem step_append_own {P : Program} {w : World} {ops : Array Oper} {o : Oper} {a : Act} {K : Act → World → Prop} {Q : Exit → Act → World → Prop} {E : Prop} (hgd : o.guard = none) (s x : Operand) (t : TypeId)
    (ho : o.op = .call { callee := .builtin .append, args := #[s, x], argTypes := #[t, t] })
    (base : Nat) (e : TypeId) (i : TypeInfo) (z : Value) (size bytes : Nat) (ht : P.underlying t = some (.slice e)) (hi : P.info? e = some i) (hz : i.zero = some z)
    (hsize : i.size = size) (hby : i.bytes = bytes) (hzs : z.cells.size = size) (hsz : 0 < size)
    (v : Value) (n : Nat) (xs : List Value) (hs : a.eval s = v) (hown : w.ownsRow base e size v n xs)
    (ad : Addr) (m c : Nat) (news : List Value) (hx : a.eval x = .slice (some ad) m c) (hl : news.length = m * size) (hnews : ∀ j u, news[j]? = some u → w.cell? (ad.add j) = some u) (h1 : ∀ u ∈ news, u.oneCell' = true)
    (h63 : n + m ≤ maxLen) (hbytes : (n + m) * bytes ≤ 140737488355328) (hbase : base ≤ w.heap.size)
    (h : ∀ v' w', w'.ownsRow base e size v' (n + m) (xs ++ news) → w.grownBy w' v.ownBlock → K (a.put o.dst v') w') :
    if Region.wanted o (yielded ops a.tmps) = true then Oper.wp P o a w K Q else E := by
  have hw : Region.wanted o (yielded ops a.tmps) = true := by simp [Region.wanted, hgd]
  rw [if_pos hw]
  exact wp_append_own w s x t ho base e i z size bytes ht hi hz hsize hby hzs hsz v n xs hs hown ad m c news hx hl hnews h1 h63 hbytes hbase fun v' w' h2 h3 _ => h v' w' h2 h3
theorem lt_lift {w w' : World} {B : Nat} (h : Below B w w') : w.heap.size ≤ w'.heap.size := h.size

set_option maxHeartbeats 16000000 in
set_option maxRecDepth 100000 in
theorem walk (a : Value) (node ref : Int) (w : World) (ha : ∃ u : UnitD, a = .agg u.parts.toArray ∧ u.Ok w w.heap.size ∧ ∀ n ∈ u.nodes, n.refs.length ≤ n.c) (hwn : (Lit.int .i64 node).wf = true) (hwr : (Lit.int .i64 ref).wf = true) :
    Calls Try.prog 7 #[a, .int .i64 node, .int .i64 ref] w fun e w' => e = .returned (.bool true) ∧ Below w.heap.size w w' := by
  obtain ⟨u, rfl, hu, hcaps⟩ := ha
  obtain ⟨k0, hk, hy0, hy1, hy2⟩ := info_parts refInfo
  obtain ⟨n0, hn, hm0, hm1, hm2⟩ := info_parts nodeInfo
  have HU := Lib.hid hu
  have HCAP := Lib.hid hcaps
  have HIN1 := wf_I64 hwn
  have HIN2 := wf_I64 hwr
  clear hu hcaps hwn hwr
  have HX0 := Lib.hid (Blk.new w 32 u.parts.toArray)
  have HB0 := Lib.hid ((Below.refl w.heap.size w).alloc (Nat.le_refl _) (.cells u.parts.toArray 32))
  have HF := Lib.hid (fun (w' : World) (hb : Below w.heap.size w w') => few_any u w.heap.size w' (HU.out.below hb) hb.size)
  simp only [UnitD.parts] at HF
  simp only [UnitD.parts]
  go_enter Try.func7, Try.ntmps7
  go_wp2_with fail
  refine (small_any _).mono ?_
  rintro e w1 ⟨rfl, hb1⟩
  have HX1 := Lib.hid (HX0.out.below hb1 HX0.out.lt)
  have HB1 := Lib.hid (HB0.out.trans (hb1.mono (by simp)))
  clear hb1 HX0 HB0
  have p0 : w1.cell? ⟨w.heap.size, 0, none⟩ = some (.string u.u0) := HX1.out.cell 0
  have p1 : w1.cell? ⟨w.heap.size, 1, none⟩ = some (.bool u.u1) := HX1.out.cell 1
  have p2 : w1.cell? ⟨w.heap.size, 2, none⟩ = some (.slice u.nA u.nodes.length u.nc) := HX1.out.cell 2
  have p3 : w1.cell? ⟨w.heap.size, 3, none⟩ = some (.slice u.iA u.imps.length u.ic) := HX1.out.cell 3
  have p4 : w1.cell? ⟨w.heap.size, 4, none⟩ = some (.slice u.u4.A u.u4.n u.u4.c) := HX1.out.cell 4
  have p5 : w1.cell? ⟨w.heap.size, 5, none⟩ = some (.slice u.u5.A u.u5.n u.u5.c) := HX1.out.cell 5
  have p6 : w1.cell? ⟨w.heap.size, 6, none⟩ = some (.slice u.u6.A u.u6.n u.u6.c) := HX1.out.cell 6
  have p7 : w1.cell? ⟨w.heap.size, 7, none⟩ = some (.slice u.u7.A u.u7.n u.u7.c) := HX1.out.cell 7
  have p8 : w1.cell? ⟨w.heap.size, 8, none⟩ = some (.int .i64 u.u8) := HX1.out.cell 8
  have p9 : w1.cell? ⟨w.heap.size, 9, none⟩ = some (.int .i64 u.u9) := HX1.out.cell 9
  have p10 : w1.cell? ⟨w.heap.size, 10, none⟩ = some (.int .i64 u.u10) := HX1.out.cell 10
  have p11 : w1.cell? ⟨w.heap.size, 11, none⟩ = some (.int .i64 u.u11) := HX1.out.cell 11
  have p12 : w1.cell? ⟨w.heap.size, 12, none⟩ = some (.slice u.u12.A u.u12.n u.u12.c) := HX1.out.cell 12
  have p13 : w1.cell? ⟨w.heap.size, 13, none⟩ = some (.slice u.u13.A u.u13.n u.u13.c) := HX1.out.cell 13
  have HFX := Lib.hid (HF.out w1 HB1.out)
  cases hf : fewB u with
  | false =>
    rw [hf] at HFX
    clear hf
    go_wp2_with fail
    refine (HFX.out).mono ?_
    rintro e w2 ⟨rfl, hb2⟩
    have HB2 := Lib.hid (HB1.out.trans (hb2.mono HB1.out.size))
    clear hb2
    go_wp2
    go_ret
    exact ⟨rfl, HB2.out⟩
  | true =>
    have him := (few_all hf).1
    have hnm := (few_all hf).2.1
    have H20 := Lib.hid (few_all hf).2.2
    rw [hf] at HFX
    clear hf
    have HN := Lib.hid (fun (w' : World) (hb : Below w.heap.size w w') => Need_any u w.heap.size w' (HU.out.below hb) hb.size (by omega))
    have hnl : u.need.length ≤ u.imps.length := needL_length u.refs u.imps.length
    have HUN : Hid (∀ (B : Nat) (w' : World) (A : Option Addr) (c : Nat) (ns : List NodeD), BackOk u B w' A c 0 ns → Below w.heap.size w w' → Calls Try.prog 11 #[.agg (backU u A c ns).parts.toArray] w' fun e w'' => ∃ v, e = .returned v ∧ w''.ownsRow w'.heap.size 3 1 v u.need.length (intCells u.need) ∧ Below w'.heap.size w' w'') := fun B w' A c ns h hb => by
      obtain ⟨h1, h2⟩ := h.unit (HU.out.below hb) hb.size
      have h3 := Need_any (backU u A c ns) w'.heap.size w' h1 (Nat.le_refl _) (show u.imps.length ≤ _ by omega)
      rw [h2] at h3
      exact h3
    have HLL : Hid (∀ z, z ∈ u.need ↔ z ∈ needL u.imps.length u.refs) := fun _ => Iff.rfl
    generalize u.need = NL at HN hnl HUN HLL
    simp only [UnitD.parts, backU] at HN HUN
    go_wp2_with fail
    refine (HFX.out).mono ?_
    rintro e w2 ⟨rfl, hb2⟩
    have HX2 := Lib.hid (HX1.out.below hb2 HX1.out.lt)
    have HB2 := Lib.hid (HB1.out.trans (hb2.mono HB1.out.size))
    clear hb2 p0 p1 p2 p3 p4 p5 p6 p7 p8 p9 p10 p11 p12 p13 HX1 HB1 HFX HF
    have p0 : w2.cell? ⟨w.heap.size, 0, none⟩ = some (.string u.u0) := HX2.out.cell 0
    have p1 : w2.cell? ⟨w.heap.size, 1, none⟩ = some (.bool u.u1) := HX2.out.cell 1
    have p2 : w2.cell? ⟨w.heap.size, 2, none⟩ = some (.slice u.nA u.nodes.length u.nc) := HX2.out.cell 2
    have p3 : w2.cell? ⟨w.heap.size, 3, none⟩ = some (.slice u.iA u.imps.length u.ic) := HX2.out.cell 3
    have p4 : w2.cell? ⟨w.heap.size, 4, none⟩ = some (.slice u.u4.A u.u4.n u.u4.c) := HX2.out.cell 4
    have p5 : w2.cell? ⟨w.heap.size, 5, none⟩ = some (.slice u.u5.A u.u5.n u.u5.c) := HX2.out.cell 5
    have p6 : w2.cell? ⟨w.heap.size, 6, none⟩ = some (.slice u.u6.A u.u6.n u.u6.c) := HX2.out.cell 6
    have p7 : w2.cell? ⟨w.heap.size, 7, none⟩ = some (.slice u.u7.A u.u7.n u.u7.c) := HX2.out.cell 7
    have p8 : w2.cell? ⟨w.heap.size, 8, none⟩ = some (.int .i64 u.u8) := HX2.out.cell 8
    have p9 : w2.cell? ⟨w.heap.size, 9, none⟩ = some (.int .i64 u.u9) := HX2.out.cell 9
    have p10 : w2.cell? ⟨w.heap.size, 10, none⟩ = some (.int .i64 u.u10) := HX2.out.cell 10
    have p11 : w2.cell? ⟨w.heap.size, 11, none⟩ = some (.int .i64 u.u11) := HX2.out.cell 11
    have p12 : w2.cell? ⟨w.heap.size, 12, none⟩ = some (.slice u.u12.A u.u12.n u.u12.c) := HX2.out.cell 12
    have p13 : w2.cell? ⟨w.heap.size, 13, none⟩ = some (.slice u.u13.A u.u13.n u.u13.c) := HX2.out.cell 13
    have HNX := Lib.hid (HN.out w2 HB2.out)
    go_wp2_with fail
    refine (HNX.out).mono ?_
    rintro e w3 ⟨v3, rfl, hown3, hb3⟩
    obtain ⟨A3, c3, rfl, _⟩ := own_reads hown3
    have HR3 := Lib.hid (Reads.of_own hown3)
    have HX3 := Lib.hid (HX2.out.below hb3 HX2.out.lt)
    have HB3 := Lib.hid (HB2.out.trans (hb3.mono HB2.out.size))
    clear hown3 hb3 p0 p1 p2 p3 p4 p5 p6 p7 p8 p9 p10 p11 p12 p13 HX2 HB2 HNX HN
    have hN3 : w.heap.size < w3.heap.size := HX3.out.lt
    have p0 : w3.cell? ⟨w.heap.size, 0, none⟩ = some (.string u.u0) := HX3.out.cell 0
    have p1 : w3.cell? ⟨w.heap.size, 1, none⟩ = some (.bool u.u1) := HX3.out.cell 1
    have p2 : w3.cell? ⟨w.heap.size, 2, none⟩ = some (.slice u.nA u.nodes.length u.nc) := HX3.out.cell 2
    have p3 : w3.cell? ⟨w.heap.size, 3, none⟩ = some (.slice u.iA u.imps.length u.ic) := HX3.out.cell 3
    have p4 : w3.cell? ⟨w.heap.size, 4, none⟩ = some (.slice u.u4.A u.u4.n u.u4.c) := HX3.out.cell 4
    have p5 : w3.cell? ⟨w.heap.size, 5, none⟩ = some (.slice u.u5.A u.u5.n u.u5.c) := HX3.out.cell 5
    have p6 : w3.cell? ⟨w.heap.size, 6, none⟩ = some (.slice u.u6.A u.u6.n u.u6.c) := HX3.out.cell 6
    have p7 : w3.cell? ⟨w.heap.size, 7, none⟩ = some (.slice u.u7.A u.u7.n u.u7.c) := HX3.out.cell 7
    have p8 : w3.cell? ⟨w.heap.size, 8, none⟩ = some (.int .i64 u.u8) := HX3.out.cell 8
    have p9 : w3.cell? ⟨w.heap.size, 9, none⟩ = some (.int .i64 u.u9) := HX3.out.cell 9
    have p10 : w3.cell? ⟨w.heap.size, 10, none⟩ = some (.int .i64 u.u10) := HX3.out.cell 10
    have p11 : w3.cell? ⟨w.heap.size, 11, none⟩ = some (.int .i64 u.u11) := HX3.out.cell 11
    have p12 : w3.cell? ⟨w.heap.size, 12, none⟩ = some (.slice u.u12.A u.u12.n u.u12.c) := HX3.out.cell 12
    have p13 : w3.cell? ⟨w.heap.size, 13, none⟩ = some (.slice u.u13.A u.u13.n u.u13.c) := HX3.out.cell 13
    have HBK0 : Hid (Blk (w3.alloc (.cells (backU u none 0 []).parts.toArray 32)) w3.heap.size 32 (backU u none 0 []).parts.toArray) := Blk.new _ _ _
    have HBE0 : Hid (Below w3.heap.size w3 (w3.alloc (.cells (backU u none 0 []).parts.toArray 32))) := (Below.refl _ _).alloc (Nat.le_refl _) _
    go_wp2_with fail
    clear p0 p1 p2 p3 p4 p5 p6 p7 p8 p9 p10 p11 p12 p13
    go_loopw [10] (fun vi wr => ∃ (q : Nat) (z : Int) (A : Option Addr) (c : Nat) (ns : List NodeD), vi = .int .i64 z ∧ z = (q : Int) - 1 ∧ q ≤ u.nodes.length ∧ Hid (Blk wr w3.heap.size 32 (backU u A c ns).parts.toArray) ∧ Hid (BackOk u (w3.heap.size + 1) wr A c q ns) ∧ Hid (Below w3.heap.size w3 wr)) (fun vi _ => (intOf vi + 1).toNat)
    case atStart => exact ⟨u.nodes.length, _, none, 0, [], rfl, rfl, Nat.le_refl _, HBK0, BackOk.start _ _ _, HBE0⟩
    case round =>
      clear HBK0 HBE0
      obtain ⟨q, z, A, c, ns, rfl, hz, hq, HBK, HBO, HB⟩ := hrel
      have HBW := Lib.hid (HB3.out.trans (HB.out.mono (Nat.le_of_lt hN3)))
      have HXW := Lib.hid (HX3.out.below HB.out hN3)
      cases q with
      | succ p =>
        obtain rfl : z = (p : Int) := by omega
        have hpl : p < u.nodes.length := by omega
        clear hz
        have p2 : wr.cell? ⟨w.heap.size, 2, none⟩ = some (.slice u.nA u.nodes.length u.nc) := HXW.out.cell 2
        obtain ⟨b, off, hA, _, hc⟩ := (HU.out.ncells.below HBW.out).lit (by omega) (by decide)
        have hcc : ∀ (j : Nat) (y : Value), j < 12 → (u.nodes[p]'hpl).parts[j]? = some y → wr.cell? ⟨b, off + p * 12 + j, none⟩ = some y := fun j y hj hy => by
          rw [Nat.add_assoc]
          exact hc (p * 12 + j) y ((flat_at _ 12 NodeD.parts_length u.nodes p j hpl hj).trans hy)
        have HXN := Lib.hid (HU.out.nodes _ (List.getElem_mem hpl))
        have hx20 := H20.out _ (List.getElem_mem hpl)
        have HSTEP : Hid (∀ (w1 w2 : World) (A2 : Option Addr) (c2 : Nat) (v' : Value), BackOk u (w3.heap.size + 1) w1 A c (p + 1) ns → RowT w1 (nodeW (u.nodes[p]'hpl) A2 c2 (u.nodes[p]'hpl).refs.reverse) → w2.ownsRow (w3.heap.size + 1) 51 12 v' (ns.length + 1) (ns.flatMap NodeD.parts ++ (nodeW (u.nodes[p]'hpl) A2 c2 (u.nodes[p]'hpl).refs.reverse).parts) →
            w1.grownBy w2 (Value.slice A ns.length c).ownBlock → ∃ A' c', v' = .slice A' (ns.length + 1) c' ∧ BackOk u (w3.heap.size + 1) w2 A' c' p (ns ++ [nodeW (u.nodes[p]'hpl) A2 c2 (u.nodes[p]'hpl).refs.reverse])) := fun w1 w2 A2 c2 v' h1 h2 h3 h4 => BackOk.step hpl h1 h2 h3 h4
        rw [hA] at p2
        clear hA hc
        generalize u.nodes[p]'hpl = x at hcc HXN hx20 HSTEP
        have c0 := hcc 0 _ (by decide) rfl
        have c1 := hcc 1 _ (by decide) rfl
        have c2 := hcc 2 _ (by decide) rfl
        have c3 := hcc 3 _ (by decide) rfl
        have c4 := hcc 4 _ (by decide) rfl
        have c5 := hcc 5 _ (by decide) rfl
        have c6 := hcc 6 _ (by decide) rfl
        have c7 := hcc 7 _ (by decide) rfl
        have c8 := hcc 8 _ (by decide) rfl
        have c9 := hcc 9 _ (by decide) rfl
        have c10 := hcc 10 _ (by decide) rfl
        have c11 := hcc 11 _ (by decide) rfl
        rw [Nat.add_zero] at c0
        clear hcc
        have hp0 : (0 : Int) ≤ (p : Int) := by omega
        have hpI : (p : Int) < (u.nodes.length : Int) := by omega
        obtain ⟨wo, rfl⟩ : ∃ wo : World, wo = wr := ⟨_, rfl⟩
        have hNo : w3.heap.size < wo.heap.size := HBK.out.lt
        go_wp2_with fail
        clear c0 c1 c2 c3 c4 c5 c6 c7 c8 c9 c10 c11 p2
        go_loopw [12, 13] (fun vr vk wr => ∃ (t : Nat) (z : Int), vk = .int .i64 z ∧ z = (t : Int) - 1 ∧ t ≤ x.refs.length ∧ Hid (wr.ownsRow (wo.heap.size + 1) 53 7 vr (x.refs.drop t).reverse.length ((x.refs.drop t).reverse.flatMap RefD.parts)) ∧ Hid (Below (wo.heap.size + 1) (wo.alloc (.cells x.parts.toArray 51)) wr)) (fun _ vk _ => (intOf vk + 1).toNat)
        case atStart => exact ⟨x.refs.length, _, rfl, rfl, Nat.le_refl _, Lib.hid (by rw [List.drop_length]; exact World.ownsRow_nil _ _ _ _), Below.refl _ _⟩
        case round =>
          obtain ⟨t, z, rfl, hz, ht, HOW, HBI⟩ := hrel
          have HXB := Lib.hid ((Blk.new wo 51 x.parts.toArray).below HBI.out (Nat.lt_succ_self _))
          have HBIw := Lib.hid (Below.trans ((Below.refl w.heap.size wo).alloc HBW.out.size (.cells x.parts.toArray 51)) (HBI.out.mono (by have := HBW.out.size; omega)))
          cases t with
          | succ s =>
            obtain rfl : z = (s : Int) := by omega
            have hsl : s < x.refs.length := by omega
            clear hz
            have x6 : wr.cell? ⟨wo.heap.size, 6, none⟩ = some (.slice x.A x.refs.length x.c) := HXB.out.cell 6
            obtain ⟨b', off', hA', d0, d1, d2, d3, d4, d5, d6⟩ := cells_of_row7 (HXN.out.cells.below (HBW.out.trans HBIw.out)) hsl
            rw [hA'] at x6
            clear hA'
            have HDS := Lib.hid (drop_step x.refs s hsl)
            have hlen : (x.refs.drop (s + 1)).reverse.length ≤ 20 := by rw [List.length_reverse, List.length_drop]; omega
            have hown := HOW.out
            generalize (x.refs.drop (s + 1)).reverse = acc at HOW HDS hlen hown
            generalize x.refs[s]'hsl = r at d0 d1 d2 d3 d4 d5 d6 HDS
            have hs0 : (0 : Int) ≤ (s : Int) := by omega
            have hsI : (s : Int) < (x.refs.length : Int) := by omega
            have QA : Hid (∀ (j : Nat) (v : Value), [.int .i64 r.a0, .int .i64 r.kind, .int .i64 r.tk, .int .i64 r.tn, .int .i64 r.a4, .int .i64 r.a5, .int .i64 r.a6][j]? = some v → (wr.alloc (.cells #[.int .i64 r.a0, .int .i64 r.kind, .int .i64 r.tk, .int .i64 r.tn, .int .i64 r.a4, .int .i64 r.a5, .int .i64 r.a6] 53)).cell? ((⟨wr.heap.size, 0, none⟩ : Addr).add j) = some v) := World.news_of_block (heap_alloc_new wr _)
            have QB : Hid (∀ v ∈ [(Value.int .i64 r.a0), (Value.int .i64 r.kind), (Value.int .i64 r.tk), (Value.int .i64 r.tn), (Value.int .i64 r.a4), (Value.int .i64 r.a5), (Value.int .i64 r.a6)], v.oneCell' = true) := ref_one r
            have QC : Hid (acc.length + 1 ≤ maxLen) := by show _ ≤ _; unfold maxLen; omega
            have QD : Hid ((acc.length + 1) * 56 ≤ 140737488355328) := by show _ ≤ _; omega
            have QE : Hid (wo.heap.size + 1 ≤ (wr.alloc (.cells #[.int .i64 r.a0, .int .i64 r.kind, .int .i64 r.tk, .int .i64 r.tn, .int .i64 r.a4, .int .i64 r.a5, .int .i64 r.a6] 53)).heap.size) := by show _ ≤ _; have := HXB.out.lt; simp; omega
            go_wp2_with (at_builtin; refine wpList_append_own _ rfl _ _ 44 rfl (wo.heap.size + 1) 53 k0 (.agg #[.int .i64 0, .int .i64 0, .int .i64 0, .int .i64 0, .int .i64 0, .int .i64 0, .int .i64 0]) 7 56 Try.underlying44 hk hy0 hy1 hy2 rfl (by decide) _ _ _ rfl (hown.alloc _) ⟨wr.heap.size, 0, none⟩ 1 1 [.int .i64 r.a0, .int .i64 r.kind, .int .i64 r.tk, .int .i64 r.tn, .int .i64 r.a4, .int .i64 r.a5, .int .i64 r.a6] rfl rfl QA.out QB.out QC.out QD.out QE.out ?_)
            intro v' w5 hown' hgrow _
            have HBI5 := Lib.hid ((HBI.out.alloc HXB.out.lt (.cells #[.int .i64 r.a0, .int .i64 r.kind, .int .i64 r.tk, .int .i64 r.tn, .int .i64 r.a4, .int .i64 r.a5, .int .i64 r.a6] 53)).grown hgrow (by have := HXB.out.lt; simp; omega) (fun kk hkk => (hown.lt kk hkk).1))
            have HOW5 : Hid (w5.ownsRow (wo.heap.size + 1) 53 7 v' (x.refs.drop s).reverse.length ((x.refs.drop s).reverse.flatMap RefD.parts)) := by
              refine Lib.hid ?_
              rw [HDS.out, List.length_append, List.flatMap_append]
              simpa [RefD.parts] using hown'
            clear hown' hown hgrow
            go_wp2
            go_roundw
            case rel => exact ⟨s, (s : Int) - 1, rfl, rfl, by omega, HOW5, HBI5⟩
            case measure => simp [intOf]
          | zero =>
            obtain rfl : z = -1 := by omega
            clear hz
            rw [List.drop_zero] at HOW
            obtain ⟨A2, c2, rfl⟩ := own_shape HOW.out
            have hrr : x.refs.reverse.length ≤ 20 := by rw [List.length_reverse]; exact hx20
            generalize x.refs.reverse = rr at HSTEP HOW hrr
            have HBE6 : Hid (Below wo.heap.size wo (wr.setCell ⟨wo.heap.size, 6, none⟩ (.slice A2 rr.length c2))) := ((((Below.refl wo.heap.size wo).alloc (Nat.le_refl _) (.cells x.parts.toArray 51)).trans (HBI.out.mono (Nat.le_succ _))).setCell (Nat.le_refl _) _)
            have HX6 : Hid (Blk (wr.setCell ⟨wo.heap.size, 6, none⟩ (.slice A2 rr.length c2)) wo.heap.size 51 (nodeW x A2 c2 rr).parts.toArray) := Lib.hid (by rw [← node_set]; exact HXB.out.set_ 6 _)
            have HBK6 := Lib.hid (HBK.out.below HBE6.out hNo)
            have HBO6 := Lib.hid (HBO.out.below HBE6.out)
            have HOW6 : Hid (RowT (wr.setCell ⟨wo.heap.size, 6, none⟩ (.slice A2 rr.length c2)) (nodeW x A2 c2 rr)) := own_far (HOW.out.mono (Nat.zero_le _)) HXB.out (by decide)
            have HBX6 := Lib.hid (HB.out.trans (HBE6.out.mono (Nat.le_of_lt hNo)))
            have k2 : wr.cell? ⟨w3.heap.size, 2, none⟩ = some (.slice A ns.length c) := ((HBK.out.alloc (.cells x.parts.toArray 51)).below HBI.out (by omega)).cell 2
            have k2' : (wr.setCell ⟨wo.heap.size, 6, none⟩ (.slice A2 rr.length c2)).cell? ⟨w3.heap.size, 2, none⟩ = some (.slice A ns.length c) := HBK6.out.cell 2
            have f6 : wr.frozen? ⟨wo.heap.size, 6, none⟩ = false := HXB.out.frozen 6
            have x0 : wr.cell? ⟨wo.heap.size, 0, none⟩ = some (.string x.b0) := HXB.out.cell 0
            have x1 : wr.cell? ⟨wo.heap.size, 1, none⟩ = some (.string x.b1) := HXB.out.cell 1
            have x2 : wr.cell? ⟨wo.heap.size, 2, none⟩ = some (.int .i64 x.b2) := HXB.out.cell 2
            have x3 : wr.cell? ⟨wo.heap.size, 3, none⟩ = some (.int .i64 x.b3) := HXB.out.cell 3
            have x4 : wr.cell? ⟨wo.heap.size, 4, none⟩ = some (.int .i64 x.b4) := HXB.out.cell 4
            have x5 : wr.cell? ⟨wo.heap.size, 5, none⟩ = some (.string x.b5) := HXB.out.cell 5
            have x6 : wr.cell? ⟨wo.heap.size, 6, none⟩ = some (.slice x.A x.refs.length x.c) := HXB.out.cell 6
            have x7 : wr.cell? ⟨wo.heap.size, 7, none⟩ = some (.slice x.b7.A x.b7.n x.b7.c) := HXB.out.cell 7
            have x8 : wr.cell? ⟨wo.heap.size, 8, none⟩ = some (.slice x.b8.A x.b8.n x.b8.c) := HXB.out.cell 8
            have x9 : wr.cell? ⟨wo.heap.size, 9, none⟩ = some (.slice x.b9.A x.b9.n x.b9.c) := HXB.out.cell 9
            have x10 : wr.cell? ⟨wo.heap.size, 10, none⟩ = some (.slice x.b10.A x.b10.n x.b10.c) := HXB.out.cell 10
            have x11 : wr.cell? ⟨wo.heap.size, 11, none⟩ = some (.slice x.b11.A x.b11.n x.b11.c) := HXB.out.cell 11
            have y0 : (wr.setCell ⟨wo.heap.size, 6, none⟩ (.slice A2 rr.length c2)).cell? ⟨wo.heap.size, 0, none⟩ = some (.string x.b0) := HX6.out.cell 0
            have y1 : (wr.setCell ⟨wo.heap.size, 6, none⟩ (.slice A2 rr.length c2)).cell? ⟨wo.heap.size, 1, none⟩ = some (.string x.b1) := HX6.out.cell 1
            have y2 : (wr.setCell ⟨wo.heap.size, 6, none⟩ (.slice A2 rr.length c2)).cell? ⟨wo.heap.size, 2, none⟩ = some (.int .i64 x.b2) := HX6.out.cell 2
            have y3 : (wr.setCell ⟨wo.heap.size, 6, none⟩ (.slice A2 rr.length c2)).cell? ⟨wo.heap.size, 3, none⟩ = some (.int .i64 x.b3) := HX6.out.cell 3
            have y4 : (wr.setCell ⟨wo.heap.size, 6, none⟩ (.slice A2 rr.length c2)).cell? ⟨wo.heap.size, 4, none⟩ = some (.int .i64 x.b4) := HX6.out.cell 4
            have y5 : (wr.setCell ⟨wo.heap.size, 6, none⟩ (.slice A2 rr.length c2)).cell? ⟨wo.heap.size, 5, none⟩ = some (.string x.b5) := HX6.out.cell 5
            have y6 : (wr.setCell ⟨wo.heap.size, 6, none⟩ (.slice A2 rr.length c2)).cell? ⟨wo.heap.size, 6, none⟩ = some (.slice A2 rr.length c2) := HX6.out.cell 6
            have y7 : (wr.setCell ⟨wo.heap.size, 6, none⟩ (.slice A2 rr.length c2)).cell? ⟨wo.heap.size, 7, none⟩ = some (.slice x.b7.A x.b7.n x.b7.c) := HX6.out.cell 7
            have y8 : (wr.setCell ⟨wo.heap.size, 6, none⟩ (.slice A2 rr.length c2)).cell? ⟨wo.heap.size, 8, none⟩ = some (.slice x.b8.A x.b8.n x.b8.c) := HX6.out.cell 8
            have y9 : (wr.setCell ⟨wo.heap.size, 6, none⟩ (.slice A2 rr.length c2)).cell? ⟨wo.heap.size, 9, none⟩ = some (.slice x.b9.A x.b9.n x.b9.c) := HX6.out.cell 9
            have y10 : (wr.setCell ⟨wo.heap.size, 6, none⟩ (.slice A2 rr.length c2)).cell? ⟨wo.heap.size, 10, none⟩ = some (.slice x.b10.A x.b10.n x.b10.c) := HX6.out.cell 10
            have y11 : (wr.setCell ⟨wo.heap.size, 6, none⟩ (.slice A2 rr.length c2)).cell? ⟨wo.heap.size, 11, none⟩ = some (.slice x.b11.A x.b11.n x.b11.c) := HX6.out.cell 11
            have hown := HBO6.out.row
            have hnsl := HBO.out.len
            have hs6 := HBX6.out.size
            have QA : Hid (∀ (j : Nat) (v : Value), [.string x.b0, .string x.b1, .int .i64 x.b2, .int .i64 x.b3, .int .i64 x.b4, .string x.b5, .slice A2 rr.length c2, .slice x.b7.A x.b7.n x.b7.c, .slice x.b8.A x.b8.n x.b8.c, .slice x.b9.A x.b9.n x.b9.c, .slice x.b10.A x.b10.n x.b10.c, .slice x.b11.A x.b11.n x.b11.c][j]? = some v → ((wr.setCell ⟨wo.heap.size, 6, none⟩ (.slice A2 rr.length c2)).alloc (.cells #[.string x.b0, .string x.b1, .int .i64 x.b2, .int .i64 x.b3, .int .i64 x.b4, .string x.b5, .slice A2 rr.length c2, .slice x.b7.A x.b7.n x.b7.c, .slice x.b8.A x.b8.n x.b8.c, .slice x.b9.A x.b9.n x.b9.c, .slice x.b10.A x.b10.n x.b10.c, .slice x.b11.A x.b11.n x.b11.c] 51)).cell? ((⟨wr.heap.size, 0, none⟩ : Addr).add j) = some v) := by
              have h := World.news_of_block (heap_alloc_new (wr.setCell ⟨wo.heap.size, 6, none⟩ (.slice A2 rr.length c2)) (.cells #[.string x.b0, .string x.b1, .int .i64 x.b2, .int .i64 x.b3, .int .i64 x.b4, .string x.b5, .slice A2 rr.length c2, .slice x.b7.A x.b7.n x.b7.c, .slice x.b8.A x.b8.n x.b8.c, .slice x.b9.A x.b9.n x.b9.c, .slice x.b10.A x.b10.n x.b10.c, .slice x.b11.A x.b11.n x.b11.c] 51))
              have e : (wr.setCell ⟨wo.heap.size, 6, none⟩ (.slice A2 rr.length c2)).heap.size = wr.heap.size := by simp
              rw [e] at h
              exact h
            have QB : Hid (∀ v ∈ [(Value.string x.b0), (Value.string x.b1), (Value.int .i64 x.b2), (Value.int .i64 x.b3), (Value.int .i64 x.b4), (Value.string x.b5), (Value.slice A2 rr.length c2), (Value.slice x.b7.A x.b7.n x.b7.c), (Value.slice x.b8.A x.b8.n x.b8.c), (Value.slice x.b9.A x.b9.n x.b9.c), (Value.slice x.b10.A x.b10.n x.b10.c), (Value.slice x.b11.A x.b11.n x.b11.c)], v.oneCell' = true) := node_one (nodeW x A2 c2 rr)
            have QC : Hid (ns.length + 1 ≤ maxLen) := by show _ ≤ _; unfold maxLen; omega
            have QD : Hid ((ns.length + 1) * 216 ≤ 140737488355328) := by show _ ≤ _; omega
            have QE : Hid (w3.heap.size + 1 ≤ ((wr.setCell ⟨wo.heap.size, 6, none⟩ (.slice A2 rr.length c2)).alloc (.cells #[.string x.b0, .string x.b1, .int .i64 x.b2, .int .i64 x.b3, .int .i64 x.b4, .string x.b5, .slice A2 rr.length c2, .slice x.b7.A x.b7.n x.b7.c, .slice x.b8.A x.b8.n x.b8.c, .slice x.b9.A x.b9.n x.b9.c, .slice x.b10.A x.b10.n x.b10.c, .slice x.b11.A x.b11.n x.b11.c] 51)).heap.size) := by show _ ≤ _; simp at hs6 ⊢; omega
            go_wp2_with (at_builtin; refine wpList_append_own _ rfl _ _ 22 rfl (w3.heap.size + 1) 51 n0 (.agg #[.string ByteArray.empty, .string ByteArray.empty, .int .i64 0, .int .i64 0, .int .i64 0, .string ByteArray.empty, .slice none 0 0, .slice none 0 0, .slice none 0 0, .slice none 0 0, .slice none 0 0, .slice none 0 0]) 12 216 Try.underlying22 hn hm0 hm1 hm2 rfl (by decide) _ _ _ rfl (hown.alloc _) ⟨wr.heap.size, 0, none⟩ 1 1 [.string x.b0, .string x.b1, .int .i64 x.b2, .int .i64 x.b3, .int .i64 x.b4, .string x.b5, .slice A2 rr.length c2, .slice x.b7.A x.b7.n x.b7.c, .slice x.b8.A x.b8.n x.b8.c, .slice x.b9.A x.b9.n x.b9.c, .slice x.b10.A x.b10.n x.b10.c, .slice x.b11.A x.b11.n x.b11.c] rfl rfl QA.out QB.out QC.out QD.out QE.out ?_)
            intro v' w7 hown' hgrow _
            obtain ⟨A', c', rfl, hbo⟩ := HSTEP.out _ w7 A2 c2 v' (HBO6.out.alloc _) (HOW6.out.alloc _) hown' hgrow
            have HBK7 := Lib.hid ((HBK6.out.alloc (.cells #[.string x.b0, .string x.b1, .int .i64 x.b2, .int .i64 x.b3, .int .i64 x.b4, .string x.b5, .slice A2 rr.length c2, .slice x.b7.A x.b7.n x.b7.c, .slice x.b8.A x.b8.n x.b8.c, .slice x.b9.A x.b9.n x.b9.c, .slice x.b10.A x.b10.n x.b10.c, .slice x.b11.A x.b11.n x.b11.c] 51)).grown hgrow (Ne.symm (own_ne hown HBK6.out (by decide))))
            have HB7 := Lib.hid ((HBX6.out.alloc hs6 (.cells #[.string x.b0, .string x.b1, .int .i64 x.b2, .int .i64 x.b3, .int .i64 x.b4, .string x.b5, .slice A2 rr.length c2, .slice x.b7.A x.b7.n x.b7.c, .slice x.b8.A x.b8.n x.b8.c, .slice x.b9.A x.b9.n x.b9.c, .slice x.b10.A x.b10.n x.b10.c, .slice x.b11.A x.b11.n x.b11.c] 51)).grown hgrow (by simp at hs6 ⊢; omega) (fun kk hkk => by have := (hown.lt kk hkk).1; omega))
            have HBK8 : Hid (Blk (w7.setCell ⟨w3.heap.size, 2, none⟩ (.slice A' (ns.length + 1) c')) w3.heap.size 32 (backU u A' c' (ns ++ [nodeW x A2 c2 rr])).parts.toArray) := Lib.hid (by rw [← back_set u A A' c c' ns]; exact HBK7.out.set_ 2 _)
            have HBO8 : Hid (BackOk u (w3.heap.size + 1) (w7.setCell ⟨w3.heap.size, 2, none⟩ (.slice A' (ns.length + 1) c')) A' c' p (ns ++ [nodeW x A2 c2 rr])) := hbo.far HBK7.out (by decide) (by decide)
            have HB8 : Hid (Below w3.heap.size w3 (w7.setCell ⟨w3.heap.size, 2, none⟩ (.slice A' (ns.length + 1) c'))) := HB7.out.setCell (Nat.le_refl _) _
            have g2 : w7.cell? ⟨w3.heap.size, 2, none⟩ = some (.slice A ns.length c) := HBK7.out.cell 2
            have gf : w7.frozen? ⟨w3.heap.size, 2, none⟩ = false := HBK7.out.frozen 2
            clear hown' hgrow hown hbo k2 k2' f6 x0 y0 x1 y1 x2 y2 x3 y3 x4 y4 x5 y5 x6 y6 x7 y7 x8 y8 x9 y9 x10 y10 x11 y11
            go_wp2
            go_roundw
            case rel => exact ⟨p, (p : Int) - 1, A', c', _, rfl, rfl, by omega, HBK8, HBO8, HB8⟩
            case measure => simp [intOf]
      | zero =>
        obtain rfl : z = -1 := by omega
        clear hz
        have HUX := Lib.hid (HUN.out _ wr A c ns HBO.out HBW.out)
        have k0 : wr.cell? ⟨w3.heap.size, 0, none⟩ = some (.string u.u0) := HBK.out.cell 0
        have k1 : wr.cell? ⟨w3.heap.size, 1, none⟩ = some (.bool u.u1) := HBK.out.cell 1
        have k2 : wr.cell? ⟨w3.heap.size, 2, none⟩ = some (.slice A ns.length c) := HBK.out.cell 2
        have k3 : wr.cell? ⟨w3.heap.size, 3, none⟩ = some (.slice u.iA u.imps.length u.ic) := HBK.out.cell 3
        have k4 : wr.cell? ⟨w3.heap.size, 4, none⟩ = some (.slice u.u4.A u.u4.n u.u4.c) := HBK.out.cell 4
        have k5 : wr.cell? ⟨w3.heap.size, 5, none⟩ = some (.slice u.u5.A u.u5.n u.u5.c) := HBK.out.cell 5
        have k6 : wr.cell? ⟨w3.heap.size, 6, none⟩ = some (.slice u.u6.A u.u6.n u.u6.c) := HBK.out.cell 6
        have k7 : wr.cell? ⟨w3.heap.size, 7, none⟩ = some (.slice u.u7.A u.u7.n u.u7.c) := HBK.out.cell 7
        have k8 : wr.cell? ⟨w3.heap.size, 8, none⟩ = some (.int .i64 u.u8) := HBK.out.cell 8
        have k9 : wr.cell? ⟨w3.heap.size, 9, none⟩ = some (.int .i64 u.u9) := HBK.out.cell 9
        have k10 : wr.cell? ⟨w3.heap.size, 10, none⟩ = some (.int .i64 u.u10) := HBK.out.cell 10
        have k11 : wr.cell? ⟨w3.heap.size, 11, none⟩ = some (.int .i64 u.u11) := HBK.out.cell 11
        have k12 : wr.cell? ⟨w3.heap.size, 12, none⟩ = some (.slice u.u12.A u.u12.n u.u12.c) := HBK.out.cell 12
        have k13 : wr.cell? ⟨w3.heap.size, 13, none⟩ = some (.slice u.u13.A u.u13.n u.u13.c) := HBK.out.cell 13
        have HR4 := Lib.hid (HR3.out.below HB.out)
        go_wp2_with fail
        refine (HUX.out).mono ?_
        rintro e w11 ⟨v11, rfl, hown11, hb11⟩
        obtain ⟨A11, c11, rfl, _⟩ := own_reads hown11
        have HR11 := Lib.hid (Reads.of_own hown11)
        have HX11 := Lib.hid (HXW.out.below hb11 HXW.out.lt)
        have HBW11 := Lib.hid (HBW.out.trans (hb11.mono HBW.out.size))
        have HR5 := Lib.hid ((HR4.out.more HB.out.size).below hb11)
        have hs11 := hb11.size
        have HSM := Lib.hid (Same_refl A3 A11 c3 c11 _ _ NL w11 HR5.out HR11.out (by omega) hs11 (Nat.le_refl _))
        clear hown11 hb11 HUX k0 k1 k2 k3 k4 k5 k6 k7 k8 k9 k10 k11 k12 k13 HR4 HR11 HBK HBO HB HXW HBW
        go_wp2_with fail
        refine (HSM.out).mono ?_
        rintro e w12 ⟨rfl, hb12⟩
        have HX12 := Lib.hid (HX11.out.below hb12 HX11.out.lt)
        have HBW12 := Lib.hid (HBW11.out.trans (hb12.mono HBW11.out.size))
        have HR12 := Lib.hid ((HR5.out.more hs11).below hb12)
        have hB12 : w11.heap.size ≤ w12.heap.size := hb12.size
        clear hb12 HSM HX11 HBW11 HR5 hs11 HUN HR3 HX3 HB3
        generalize w11.heap.size = B12 at HR12 hB12
        have p2 : w12.cell? ⟨w.heap.size, 2, none⟩ = some (.slice u.nA u.nodes.length u.nc) := HX12.out.cell 2
        by_cases h1 : node < 0
        · go_wp2
          go_ret
          exact ⟨rfl, HBW12.out⟩
        · by_cases h2 : (u.nodes.length : Int) ≤ node
          · go_wp2
            go_ret
            exact ⟨rfl, HBW12.out⟩
          · obtain ⟨a, rfl⟩ : ∃ a : Nat, node = a := ⟨node.toNat, by omega⟩
            have hal : a < u.nodes.length := by omega
            by_cases h3 : ref < 0
            · go_wp2
              go_ret
              exact ⟨rfl, HBW12.out⟩
            · have HX6 := Lib.hid (fun (w' : World) (hb : Below w.heap.size w w') => cell_refs (HU.out.ncells.below hb) hal)
              have HXN := Lib.hid (HU.out.nodes _ (List.getElem_mem hal))
              have hx20 := H20.out _ (List.getElem_mem hal)
              have hxc := HCAP.out _ (List.getElem_mem hal)
              have HLS := Lib.hid (less_sub u.nodes a hal)
              have HLG := Lib.hid (less_gone u.nodes a)
              have HLG2 : Hid (∀ t (ht : t < (u.nodes[a]'hal).refs.length) (y : NodeD), y.refs = (u.nodes[a]'hal).refs.take t ++ (u.nodes[a]'hal).refs.drop (t + 1) → ∀ r ∈ u.nodes.flatMap NodeD.refs, r = (u.nodes[a]'hal).refs[t]'ht ∨ r ∈ (u.nodes.set a y).flatMap NodeD.refs) := fun t ht y hy => HLG.out t hal ht y hy
              have HSETP : Hid (∀ A' c' rs, (u.nodes.flatMap NodeD.parts).set (a * 12 + 6) (.slice A' rs.length c') = (u.nodes.set a (nodeW (u.nodes[a]'hal) A' c' rs)).flatMap NodeD.parts) := fun A' c' rs => flat_set NodeD.parts 12 NodeD.parts_length _ _ u.nodes a 6 hal (by decide) rfl
              have HP6 : Hid ((u.nodes.flatMap NodeD.parts)[a * 12 + 6]? = some (.slice (u.nodes[a]'hal).A (u.nodes[a]'hal).refs.length (u.nodes[a]'hal).c)) := (flat_at NodeD.parts 12 NodeD.parts_length u.nodes a 6 hal (by decide)).trans rfl
              clear HLG
              obtain ⟨b, off, hA, c6⟩ := HX6.out w12 HBW12.out
              have HAB := Lib.hid hA
              rw [hA] at p2
              clear hA
              generalize u.nodes[a]'hal = x at HX6 HXN hx20 hxc HLS HLG2 c6 HSETP HP6
              by_cases h4 : (x.refs.length : Int) ≤ ref
              · go_wp2
                go_ret
                exact ⟨rfl, HBW12.out⟩
              · obtain ⟨t, rfl⟩ : ∃ t : Nat, ref = t := ⟨ref.toNat, by omega⟩
                have htl : t < x.refs.length := by omega
                obtain ⟨b', off', hA', d0, d1, d2, d3, d4, d5, d6⟩ := cells_of_row7 (HXN.out.cells.below HBW12.out) htl
                have HAX := Lib.hid hA'
                have hbl : b < w12.heap.size := cell_lt c6
                rw [hA'] at c6
                clear hA'
                have HLG3 := Lib.hid (HLG2.out t htl)
                clear HLG2
                generalize x.refs[t]'htl = g at d0 d1 d2 d3 d4 d5 d6 HLG3
                have hN12 := HX12.out.lt
                have hx12 : ∀ (t' : TypeId) (cs : Array Value), Blk (w12.alloc (.cells cs t')) w.heap.size 32 u.parts.toArray := fun _ _ => HX12.out.alloc _
                have HX13 : Hid (Blk (w12.alloc (.cells #[.int .i64 g.a0, .int .i64 g.kind, .int .i64 g.tk, .int .i64 g.tn, .int .i64 g.a4, .int .i64 g.a5, .int .i64 g.a6] 53)) w.heap.size 32 u.parts.toArray) := HX12.out.alloc _
                have HB13 : Hid (Below w.heap.size w (w12.alloc (.cells #[.int .i64 g.a0, .int .i64 g.kind, .int .i64 g.tk, .int .i64 g.tn, .int .i64 g.a4, .int .i64 g.a5, .int .i64 g.a6] 53))) := HBW12.out.alloc HBW12.out.size _
                have HX15 : Hid (Blk (((w12.alloc (.cells #[.int .i64 g.a0, .int .i64 g.kind, .int .i64 g.tk, .int .i64 g.tn, .int .i64 g.a4, .int .i64 g.a5, .int .i64 g.a6] 53)).alloc (.cells #[.string u.u0, .bool u.u1, .slice (some ⟨b, off, none⟩) u.nodes.length u.nc, .slice u.iA u.imps.length u.ic, .slice u.u4.A u.u4.n u.u4.c, .slice u.u5.A u.u5.n u.u5.c, .slice u.u6.A u.u6.n u.u6.c, .slice u.u7.A u.u7.n u.u7.c, .int .i64 u.u8, .int .i64 u.u9, .int .i64 u.u10, .int .i64 u.u11, .slice u.u12.A u.u12.n u.u12.c, .slice u.u13.A u.u13.n u.u13.c] 32)).alloc (.cells #[] 51)) w.heap.size 32 u.parts.toArray) := (HX13.out.alloc _).alloc _
                have HB15 : Hid (Below w.heap.size w (((w12.alloc (.cells #[.int .i64 g.a0, .int .i64 g.kind, .int .i64 g.tk, .int .i64 g.tn, .int .i64 g.a4, .int .i64 g.a5, .int .i64 g.a6] 53)).alloc (.cells #[.string u.u0, .bool u.u1, .slice (some ⟨b, off, none⟩) u.nodes.length u.nc, .slice u.iA u.imps.length u.ic, .slice u.u4.A u.u4.n u.u4.c, .slice u.u5.A u.u5.n u.u5.c, .slice u.u6.A u.u6.n u.u6.c, .slice u.u7.A u.u7.n u.u7.c, .int .i64 u.u8, .int .i64 u.u9, .int .i64 u.u10, .int .i64 u.u11, .slice u.u12.A u.u12.n u.u12.c, .slice u.u13.A u.u13.n u.u13.c] 32)).alloc (.cells #[] 51))) := (HB13.out.alloc HB13.out.size _).alloc (by simp; omega) _
                clear hx12
                have q0 : (w12.alloc (.cells #[.int .i64 g.a0, .int .i64 g.kind, .int .i64 g.tk, .int .i64 g.tn, .int .i64 g.a4, .int .i64 g.a5, .int .i64 g.a6] 53)).cell? ⟨w.heap.size, 0, none⟩ = some (.string u.u0) := HX13.out.cell 0
                have q1 : (w12.alloc (.cells #[.int .i64 g.a0, .int .i64 g.kind, .int .i64 g.tk, .int .i64 g.tn, .int .i64 g.a4, .int .i64 g.a5, .int .i64 g.a6] 53)).cell? ⟨w.heap.size, 1, none⟩ = some (.bool u.u1) := HX13.out.cell 1
                have q2 : (w12.alloc (.cells #[.int .i64 g.a0, .int .i64 g.kind, .int .i64 g.tk, .int .i64 g.tn, .int .i64 g.a4, .int .i64 g.a5, .int .i64 g.a6] 53)).cell? ⟨w.heap.size, 2, none⟩ = some (.slice u.nA u.nodes.length u.nc) := HX13.out.cell 2
                have q3 : (w12.alloc (.cells #[.int .i64 g.a0, .int .i64 g.kind, .int .i64 g.tk, .int .i64 g.tn, .int .i64 g.a4, .int .i64 g.a5, .int .i64 g.a6] 53)).cell? ⟨w.heap.size, 3, none⟩ = some (.slice u.iA u.imps.length u.ic) := HX13.out.cell 3
                have q4 : (w12.alloc (.cells #[.int .i64 g.a0, .int .i64 g.kind, .int .i64 g.tk, .int .i64 g.tn, .int .i64 g.a4, .int .i64 g.a5, .int .i64 g.a6] 53)).cell? ⟨w.heap.size, 4, none⟩ = some (.slice u.u4.A u.u4.n u.u4.c) := HX13.out.cell 4
                have q5 : (w12.alloc (.cells #[.int .i64 g.a0, .int .i64 g.kind, .int .i64 g.tk, .int .i64 g.tn, .int .i64 g.a4, .int .i64 g.a5, .int .i64 g.a6] 53)).cell? ⟨w.heap.size, 5, none⟩ = some (.slice u.u5.A u.u5.n u.u5.c) := HX13.out.cell 5
                have q6 : (w12.alloc (.cells #[.int .i64 g.a0, .int .i64 g.kind, .int .i64 g.tk, .int .i64 g.tn, .int .i64 g.a4, .int .i64 g.a5, .int .i64 g.a6] 53)).cell? ⟨w.heap.size, 6, none⟩ = some (.slice u.u6.A u.u6.n u.u6.c) := HX13.out.cell 6
                have q7 : (w12.alloc (.cells #[.int .i64 g.a0, .int .i64 g.kind, .int .i64 g.tk, .int .i64 g.tn, .int .i64 g.a4, .int .i64 g.a5, .int .i64 g.a6] 53)).cell? ⟨w.heap.size, 7, none⟩ = some (.slice u.u7.A u.u7.n u.u7.c) := HX13.out.cell 7
                have q8 : (w12.alloc (.cells #[.int .i64 g.a0, .int .i64 g.kind, .int .i64 g.tk, .int .i64 g.tn, .int .i64 g.a4, .int .i64 g.a5, .int .i64 g.a6] 53)).cell? ⟨w.heap.size, 8, none⟩ = some (.int .i64 u.u8) := HX13.out.cell 8
                have q9 : (w12.alloc (.cells #[.int .i64 g.a0, .int .i64 g.kind, .int .i64 g.tk, .int .i64 g.tn, .int .i64 g.a4, .int .i64 g.a5, .int .i64 g.a6] 53)).cell? ⟨w.heap.size, 9, none⟩ = some (.int .i64 u.u9) := HX13.out.cell 9
                have q10 : (w12.alloc (.cells #[.int .i64 g.a0, .int .i64 g.kind, .int .i64 g.tk, .int .i64 g.tn, .int .i64 g.a4, .int .i64 g.a5, .int .i64 g.a6] 53)).cell? ⟨w.heap.size, 10, none⟩ = some (.int .i64 u.u10) := HX13.out.cell 10
                have q11 : (w12.alloc (.cells #[.int .i64 g.a0, .int .i64 g.kind, .int .i64 g.tk, .int .i64 g.tn, .int .i64 g.a4, .int .i64 g.a5, .int .i64 g.a6] 53)).cell? ⟨w.heap.size, 11, none⟩ = some (.int .i64 u.u11) := HX13.out.cell 11
                have q12 : (w12.alloc (.cells #[.int .i64 g.a0, .int .i64 g.kind, .int .i64 g.tk, .int .i64 g.tn, .int .i64 g.a4, .int .i64 g.a5, .int .i64 g.a6] 53)).cell? ⟨w.heap.size, 12, none⟩ = some (.slice u.u12.A u.u12.n u.u12.c) := HX13.out.cell 12
                have q13 : (w12.alloc (.cells #[.int .i64 g.a0, .int .i64 g.kind, .int .i64 g.tk, .int .i64 g.tn, .int .i64 g.a4, .int .i64 g.a5, .int .i64 g.a6] 53)).cell? ⟨w.heap.size, 13, none⟩ = some (.slice u.u13.A u.u13.n u.u13.c) := HX13.out.cell 13
                have r2 : (((w12.alloc (.cells #[.int .i64 g.a0, .int .i64 g.kind, .int .i64 g.tk, .int .i64 g.tn, .int .i64 g.a4, .int .i64 g.a5, .int .i64 g.a6] 53)).alloc (.cells #[.string u.u0, .bool u.u1, .slice (some ⟨b, off, none⟩) u.nodes.length u.nc, .slice u.iA u.imps.length u.ic, .slice u.u4.A u.u4.n u.u4.c, .slice u.u5.A u.u5.n u.u5.c, .slice u.u6.A u.u6.n u.u6.c, .slice u.u7.A u.u7.n u.u7.c, .int .i64 u.u8, .int .i64 u.u9, .int .i64 u.u10, .int .i64 u.u11, .slice u.u12.A u.u12.n u.u12.c, .slice u.u13.A u.u13.n u.u13.c] 32)).alloc (.cells #[] 51)).cell? ⟨w.heap.size, 2, none⟩ = some (.slice u.nA u.nodes.length u.nc) := HX15.out.cell 2
                rw [HAB.out] at q2 r2
                have ha0 : (0 : Int) ≤ (a : Int) := by omega
                have haI : (a : Int) < (u.nodes.length : Int) := by omega
                have ht0 : (0 : Int) ≤ (t : Int) := by omega
                have htI : (t : Int) < (x.refs.length : Int) := by omega
                clear h1 h2 h3 h4
                have hd1 : decide ((a : Int) < 0) = false := decide_eq_false (by omega)
                have hd2 : decide (u.nodes.length ≤ a) = false := decide_eq_false (by omega)
                have hd3 : decide ((t : Int) < 0) = false := decide_eq_false (by omega)
                have hd4 : decide (x.refs.length ≤ t) = false := decide_eq_false (by omega)
                have HOWN : Hid ((((w12.alloc (.cells #[.int .i64 g.a0, .int .i64 g.kind, .int .i64 g.tk, .int .i64 g.tn, .int .i64 g.a4, .int .i64 g.a5, .int .i64 g.a6] 53)).alloc (.cells #[.string u.u0, .bool u.u1, .slice (some ⟨b, off, none⟩) u.nodes.length u.nc, .slice u.iA u.imps.length u.ic, .slice u.u4.A u.u4.n u.u4.c, .slice u.u5.A u.u5.n u.u5.c, .slice u.u6.A u.u6.n u.u6.c, .slice u.u7.A u.u7.n u.u7.c, .int .i64 u.u8, .int .i64 u.u9, .int .i64 u.u10, .int .i64 u.u11, .slice u.u12.A u.u12.n u.u12.c, .slice u.u13.A u.u13.n u.u13.c] 32)).alloc (.cells #[] 51)).ownsRow (w12.heap.size + 1 + 1) 51 12 (.slice (some ⟨w12.heap.size + 1 + 1, 0, none⟩) 0 0) 0 []) := Lib.hid (by
                  have h := World.ownsRow_made (base := w12.heap.size + 1 + 1) (e := 51) (size := 12) ((w12.alloc (.cells #[.int .i64 g.a0, .int .i64 g.kind, .int .i64 g.tk, .int .i64 g.tn, .int .i64 g.a4, .int .i64 g.a5, .int .i64 g.a6] 53)).alloc (.cells #[.string u.u0, .bool u.u1, .slice (some ⟨b, off, none⟩) u.nodes.length u.nc, .slice u.iA u.imps.length u.ic, .slice u.u4.A u.u4.n u.u4.c, .slice u.u5.A u.u5.n u.u5.c, .slice u.u6.A u.u6.n u.u6.c, .slice u.u7.A u.u7.n u.u7.c, .int .i64 u.u8, .int .i64 u.u9, .int .i64 u.u10, .int .i64 u.u11, .slice u.u12.A u.u12.n u.u12.c, .slice u.u13.A u.u13.n u.u13.c] 32)) #[] 0 (by simp) (by unfold maxLen; omega) rfl
                  have e : ((w12.alloc (.cells #[.int .i64 g.a0, .int .i64 g.kind, .int .i64 g.tk, .int .i64 g.tn, .int .i64 g.a4, .int .i64 g.a5, .int .i64 g.a6] 53)).alloc (.cells #[.string u.u0, .bool u.u1, .slice (some ⟨b, off, none⟩) u.nodes.length u.nc, .slice u.iA u.imps.length u.ic, .slice u.u4.A u.u4.n u.u4.c, .slice u.u5.A u.u5.n u.u5.c, .slice u.u6.A u.u6.n u.u6.c, .slice u.u7.A u.u7.n u.u7.c, .int .i64 u.u8, .int .i64 u.u9, .int .i64 u.u10, .int .i64 u.u11, .slice u.u12.A u.u12.n u.u12.c, .slice u.u13.A u.u13.n u.u13.c] 32)).heap.size = w12.heap.size + 1 + 1 := by simp
                  rw [e] at h
                  exact h)
                have hown := HOWN.out
                have HRN := Lib.hid (HU.out.ncells.below HB15.out)
                have QL : Hid ((u.nodes.flatMap NodeD.parts).length = u.nodes.length * 12) := HRN.out.1
                have QA : Hid (∀ (j : Nat) (v : Value), (u.nodes.flatMap NodeD.parts)[j]? = some v → (((w12.alloc (.cells #[.int .i64 g.a0, .int .i64 g.kind, .int .i64 g.tk, .int .i64 g.tn, .int .i64 g.a4, .int .i64 g.a5, .int .i64 g.a6] 53)).alloc (.cells #[.string u.u0, .bool u.u1, .slice (some ⟨b, off, none⟩) u.nodes.length u.nc, .slice u.iA u.imps.length u.ic, .slice u.u4.A u.u4.n u.u4.c, .slice u.u5.A u.u5.n u.u5.c, .slice u.u6.A u.u6.n u.u6.c, .slice u.u7.A u.u7.n u.u7.c, .int .i64 u.u8, .int .i64 u.u9, .int .i64 u.u10, .int .i64 u.u11, .slice u.u12.A u.u12.n u.u12.c, .slice u.u13.A u.u13.n u.u13.c] 32)).alloc (.cells #[] 51)).cell? ((⟨b, off, none⟩ : Addr).add j) = some v) := Lib.hid (by
                  obtain ⟨ad, e, _, hc⟩ := HRN.out.2 (by omega)
                  rw [HAB.out] at e
                  injection e with e
                  subst e
                  exact hc)
                have QB : Hid (∀ v ∈ u.nodes.flatMap NodeD.parts, v.oneCell' = true) := fun v hv => by
                  obtain ⟨y, _, h⟩ := List.mem_flatMap.1 hv
                  exact node_one y v h
                have QC : Hid (0 + u.nodes.length ≤ maxLen) := by show _ ≤ _; unfold maxLen; omega
                have QD : Hid ((0 + u.nodes.length) * 216 ≤ 140737488355328) := by show _ ≤ _; omega
                have QE : Hid (w12.heap.size + 1 + 1 ≤ (((w12.alloc (.cells #[.int .i64 g.a0, .int .i64 g.kind, .int .i64 g.tk, .int .i64 g.tn, .int .i64 g.a4, .int .i64 g.a5, .int .i64 g.a6] 53)).alloc (.cells #[.string u.u0, .bool u.u1, .slice (some ⟨b, off, none⟩) u.nodes.length u.nc, .slice u.iA u.imps.length u.ic, .slice u.u4.A u.u4.n u.u4.c, .slice u.u5.A u.u5.n u.u5.c, .slice u.u6.A u.u6.n u.u6.c, .slice u.u7.A u.u7.n u.u7.c, .int .i64 u.u8, .int .i64 u.u9, .int .i64 u.u10, .int .i64 u.u11, .slice u.u12.A u.u12.n u.u12.c, .slice u.u13.A u.u13.n u.u13.c] 32)).alloc (.cells #[] 51)).heap.size) := by show _ ≤ _; simp
                go_wp2_with (at_builtin; refine wpList_append_own _ rfl _ _ 22 rfl (w12.heap.size + 1 + 1) 51 n0 (.agg #[.string ByteArray.empty, .string ByteArray.empty, .int .i64 0, .int .i64 0, .int .i64 0, .string ByteArray.empty, .slice none 0 0, .slice none 0 0, .slice none 0 0, .slice none 0 0, .slice none 0 0, .slice none 0 0]) 12 216 Try.underlying22 hn hm0 hm1 hm2 rfl (by decide) _ _ _ rfl hown ⟨b, off, none⟩ u.nodes.length u.nc (u.nodes.flatMap NodeD.parts) rfl QL.out QA.out QB.out QC.out QD.out QE.out ?_)
                intro v' w16 hown' hgrow _
                obtain ⟨g', c', rfl, hg', _⟩ := hown'.form (by omega)
                have HB16 : Hid (Below w12.heap.size w12 w16) := ((((Below.refl w12.heap.size w12).alloc (Nat.le_refl _) (.cells #[.int .i64 g.a0, .int .i64 g.kind, .int .i64 g.tk, .int .i64 g.tn, .int .i64 g.a4, .int .i64 g.a5, .int .i64 g.a6] 53)).alloc (by simp) (.cells #[.string u.u0, .bool u.u1, .slice (some ⟨b, off, none⟩) u.nodes.length u.nc, .slice u.iA u.imps.length u.ic, .slice u.u4.A u.u4.n u.u4.c, .slice u.u5.A u.u5.n u.u5.c, .slice u.u6.A u.u6.n u.u6.c, .slice u.u7.A u.u7.n u.u7.c, .int .i64 u.u8, .int .i64 u.u9, .int .i64 u.u10, .int .i64 u.u11, .slice u.u12.A u.u12.n u.u12.c, .slice u.u13.A u.u13.n u.u13.c] 32)).alloc (by simp; omega) (.cells #[] 51)).grown hgrow (by simp; omega) (fun kk hkk => by have := (hown.lt kk hkk).1; omega)
                have HG16 : Hid (Blk w16 w12.heap.size 53 g.parts.toArray) := (((Blk.new w12 53 g.parts.toArray).alloc (.cells #[.string u.u0, .bool u.u1, .slice (some ⟨b, off, none⟩) u.nodes.length u.nc, .slice u.iA u.imps.length u.ic, .slice u.u4.A u.u4.n u.u4.c, .slice u.u5.A u.u5.n u.u5.c, .slice u.u6.A u.u6.n u.u6.c, .slice u.u7.A u.u7.n u.u7.c, .int .i64 u.u8, .int .i64 u.u9, .int .i64 u.u10, .int .i64 u.u11, .slice u.u12.A u.u12.n u.u12.c, .slice u.u13.A u.u13.n u.u13.c] 32)).alloc (.cells #[] 51)).grown hgrow (fun e => by have := (hown.lt _ e.symm).1; omega)
                have HL16 : Hid (Blk w16 (w12.heap.size + 1) 32 (backU u (some ⟨b, off, none⟩) u.nc u.nodes).parts.toArray) := (Blk.alloc (Blk.newAt (w := (w12.alloc (.cells #[.int .i64 g.a0, .int .i64 g.kind, .int .i64 g.tk, .int .i64 g.tn, .int .i64 g.a4, .int .i64 g.a5, .int .i64 g.a6] 53))) (k := w12.heap.size + 1) (by simp)) (.cells #[] 51)).grown hgrow (fun e => by have := (hown.lt _ e.symm).1; omega)
                have s16 : w16.cell? ⟨w12.heap.size + 1, 2, none⟩ = some (.slice (some ⟨b, off, none⟩) u.nodes.length u.nc) := HL16.out.cell 2
                have f16 : w16.frozen? ⟨w12.heap.size + 1, 2, none⟩ = false := HL16.out.frozen 2
                have HL17 : Hid (Blk (w16.setCell ⟨w12.heap.size + 1, 2, none⟩ (.slice (some ⟨g', 0, none⟩) u.nodes.length c')) (w12.heap.size + 1) 32 (backU u (some ⟨g', 0, none⟩) c' u.nodes).parts.toArray) := Lib.hid (by rw [← back_set2 u (some ⟨b, off, none⟩) (some ⟨g', 0, none⟩) u.nc c' u.nodes u.nodes]; exact HL16.out.set_ 2 _)
                have HO17 : Hid ((w16.setCell ⟨w12.heap.size + 1, 2, none⟩ (.slice (some ⟨g', 0, none⟩) u.nodes.length c')).ownsRow (w12.heap.size + 1 + 1) 51 12 (.slice (some ⟨g', 0, none⟩) u.nodes.length c') u.nodes.length (u.nodes.flatMap NodeD.parts)) := own_far hown' HL16.out (by decide)
                have HB17 : Hid (Below w12.heap.size w12 (w16.setCell ⟨w12.heap.size + 1, 2, none⟩ (.slice (some ⟨g', 0, none⟩) u.nodes.length c'))) := HB16.out.setCell (Nat.le_succ _) _
                have HG17 : Hid (Blk (w16.setCell ⟨w12.heap.size + 1, 2, none⟩ (.slice (some ⟨g', 0, none⟩) u.nodes.length c')) w12.heap.size 53 g.parts.toArray) := HG16.out.far (by show w12.heap.size ≠ w12.heap.size + 1; omega) _
                clear hown' hgrow hown HOWN HRN QL QA QB QC QD QE HB16 HG16 HL16 q0 q1 q2 q3 q4 q5 q6 q7 q8 q9 q10 q11 q12 q13 r2 HX13 HB13 HX15 HB15 d0 d1 d2 d3 d4 d5 d6 c6 p2 hd1 hd2 hd3 hd4
                have hW1 : IntKind.i64.wrap ((t : Int) + 1) = (t : Int) + 1 := IntWalk.i64_in _ ⟨by omega, by omega⟩
                have hW2 : (0 : Int) ≤ (t : Int) + 1 := by omega
                have hW3 : (t : Int) + 1 ≤ (x.refs.length : Int) := by omega
                have hW4 : ((t : Int) + 1).toNat = t + 1 := by omega
                have hW5 : (x.refs.length : Int) ≤ (x.c : Int) := by omega
                have hW6 : (t : Int) ≤ (x.c : Int) := by omega
                have HW1 := Lib.hid hW1
                clear hW1
                go_wp2_with fail
                clear s16 f16
                generalize w16.setCell ⟨w12.heap.size + 1, 2, none⟩ (.slice (some ⟨g', 0, none⟩) u.nodes.length c') = w17 at HL17 HO17 HB17 HG17 ⊢
                have hW1 := HW1.out
                have HKEEP : Hid (∀ w', Below w17.heap.size w17 w' → w'.cell? ⟨w12.heap.size + 1, 2, none⟩ = some (.slice (some ⟨g', 0, none⟩) u.nodes.length c') ∧ w'.cell? ⟨w.heap.size, 2, none⟩ = some (.slice (some ⟨b, off, none⟩) u.nodes.length u.nc) ∧ w'.cell? ⟨b, off + a * 12 + 6, none⟩ = some (.slice (some ⟨b', off', none⟩) x.refs.length x.c)) := fun w' hb => by
                  have hb12 : Below w12.heap.size w12 w' := HB17.out.trans (hb.mono HB17.out.size)
                  refine ⟨(HL17.out.below hb HL17.out.lt).cell 2, ?_, ?_⟩
                  · have h := (HX12.out.below hb12 hN12).cell 2
                    rw [← HAB.out]
                    exact h
                  · obtain ⟨b2, off2, h1, h2⟩ := HX6.out w' (HBW12.out.trans (hb12.mono HBW12.out.size))
                    rw [HAB.out] at h1
                    injection h1 with h1
                    injection h1 with h3 h4 _
                    subst h3 h4
                    rw [← HAX.out]
                    exact h2
                have HKEEP2 : Hid (∀ (w' : World) (v : Value), (w'.cell? ⟨w12.heap.size + 1, 2, none⟩ = some (.slice (some ⟨g', 0, none⟩) u.nodes.length c') ∧ w'.cell? ⟨w.heap.size, 2, none⟩ = some (.slice (some ⟨b, off, none⟩) u.nodes.length u.nc) ∧ w'.cell? ⟨b, off + a * 12 + 6, none⟩ = some (.slice (some ⟨b', off', none⟩) x.refs.length x.c)) → ((w'.setCell ⟨g', a * 12 + 6, none⟩ v).cell? ⟨w12.heap.size + 1, 2, none⟩ = some (.slice (some ⟨g', 0, none⟩) u.nodes.length c') ∧ (w'.setCell ⟨g', a * 12 + 6, none⟩ v).cell? ⟨w.heap.size, 2, none⟩ = some (.slice (some ⟨b, off, none⟩) u.nodes.length u.nc) ∧ (w'.setCell ⟨g', a * 12 + 6, none⟩ v).cell? ⟨b, off + a * 12 + 6, none⟩ = some (.slice (some ⟨b', off', none⟩) x.refs.length x.c)))  := fun w' v h => by
                  obtain ⟨h1, h2, h3⟩ := h
                  refine ⟨(World.cell?_setCell_other _ _ _ _ (fun e => ?_)).trans h1, (World.cell?_setCell_other _ _ _ _ (fun e => ?_)).trans h2, (World.cell?_setCell_other _ _ _ _ (fun e => ?_)).trans h3⟩ <;> (injection e with e1 _ _; omega)
                have HCUT : Hid (∀ w', Below w12.heap.size w12 w' → ∀ (k : Nat) (j : Nat) (v : Value), k ≤ x.refs.length → ((x.refs.drop k).flatMap RefD.parts)[j]? = some v → w'.cell? ⟨b', off' + k * 7 + j, none⟩ = some v) := fun w' hb k j v hk hj => by
                  obtain ⟨b2, off2, h1, _, hc⟩ := (HXN.out.cells.below (HBW12.out.trans (hb.mono HBW12.out.size))).lit (by omega) (by decide)
                  rw [HAX.out] at h1
                  injection h1 with h1
                  injection h1 with h3 h4 _
                  subst h3 h4
                  have h5 : (x.refs.flatMap RefD.parts)[k * 7 + j]? = some v := by
                    have e : x.refs.flatMap RefD.parts = (x.refs.take k).flatMap RefD.parts ++ (x.refs.drop k).flatMap RefD.parts := by rw [← List.flatMap_append, List.take_append_drop]
                    have hl : ((x.refs.take k).flatMap RefD.parts).length = k * 7 := by rw [flat_length RefD.parts 7 RefD.parts_length, List.length_take, Nat.min_eq_left hk]
                    rw [e, List.getElem?_append_right (by omega), hl, Nat.add_sub_cancel_left]
                    exact hj
                  have h6 := hc _ _ h5
                  rw [← Nat.add_assoc] at h6
                  exact h6
                have QA1 : Hid (∀ w', Below w12.heap.size w12 w' → ∀ (j : Nat) (v : Value), ((x.refs.take t).flatMap RefD.parts)[j]? = some v → w'.cell? ((⟨b', off', none⟩ : Addr).add j) = some v) := fun w' hb j v hj => by
                  have h1 : (x.refs.flatMap RefD.parts)[j]? = some v := by
                    have e : x.refs.flatMap RefD.parts = (x.refs.take t).flatMap RefD.parts ++ (x.refs.drop t).flatMap RefD.parts := by rw [← List.flatMap_append, List.take_append_drop]
                    rw [e, List.getElem?_append_left (List.getElem?_eq_some_iff.1 hj).1]
                    exact hj
                  have h2 := HCUT.out w' hb 0 j v (Nat.zero_le _) (by rw [List.drop_zero]; exact h1)
                  have e : (⟨b', off', none⟩ : Addr).add j = ⟨b', off' + j, none⟩ := by unfold Addr.add; split <;> simp_all
                  rw [e]
                  simpa using h2
                have QL1 : Hid (((x.refs.take t).flatMap RefD.parts).length = t * 7) := Lib.hid (by rw [flat_length RefD.parts 7 RefD.parts_length, List.length_take, Nat.min_eq_left (by omega)])
                have QB1 : Hid (∀ v ∈ (x.refs.take t).flatMap RefD.parts, v.oneCell' = true) := fun v hv => by
                  obtain ⟨y, _, h⟩ := List.mem_flatMap.1 hv
                  exact ref_one y v h
                have QC1 : Hid (0 + t ≤ maxLen) := by show _ ≤ _; unfold maxLen; omega
                have QD1 : Hid ((0 + t) * 56 ≤ 140737488355328) := by show _ ≤ _; omega
                have QB2 : Hid (∀ v ∈ (x.refs.drop (t + 1)).flatMap RefD.parts, v.oneCell' = true) := fun v hv => by
                  obtain ⟨y, _, h⟩ := List.mem_flatMap.1 hv
                  exact ref_one y v h
                have QL2 : Hid (((x.refs.drop (t + 1)).flatMap RefD.parts).length = (x.refs.length - (t + 1)) * 7) := Lib.hid (by rw [flat_length RefD.parts 7 RefD.parts_length, List.length_drop])
                have QC2 : Hid (t + (x.refs.length - (t + 1)) ≤ maxLen) := by show _ ≤ _; unfold maxLen; omega
                have QD2 : Hid ((t + (x.refs.length - (t + 1))) * 56 ≤ 140737488355328) := by show _ ≤ _; omega
                have HB17d : Hid (Below w17.heap.size w17 w17.drew) := (Below.refl _ _).drew
                have HB17a : Hid (Below w17.heap.size w17 (w17.drew.alloc (.cells #[] 53))) := (Below.refl _ _).drew.alloc (Nat.le_refl _) _
                have HE17 : Hid ((w17.drew.alloc (.cells #[] 53)).ownsRow w17.heap.size 53 7 (.slice (some ⟨w17.heap.size, 0, none⟩) 0 0) 0 []) := World.ownsRow_made w17.drew #[] 0 (Nat.le_refl _) (by unfold maxLen; omega) rfl
                have QE1 : Hid (w17.heap.size ≤ (w17.drew.alloc (.cells #[] 53)).heap.size) := Lib.hid (by simp)
                obtain ⟨AD, hAD, hQA⟩ : ∃ AD : Addr, (if x.c = t + 1 then (some ⟨b', off', none⟩ : Option Addr) else some ⟨b', off' + (t + 1) * 7, none⟩) = some AD ∧ ∀ w', Below w12.heap.size w12 w' → ∀ (j : Nat) (v : Value), ((x.refs.drop (t + 1)).flatMap RefD.parts)[j]? = some v → w'.cell? (AD.add j) = some v := by
                  by_cases h : x.c = t + 1
                  · refine ⟨⟨b', off', none⟩, if_pos h, fun w' hb j v hj => ?_⟩
                    have h1 : x.refs.drop (t + 1) = [] := List.drop_eq_nil_of_le (by omega)
                    rw [h1] at hj
                    simp at hj
                  · refine ⟨⟨b', off' + (t + 1) * 7, none⟩, if_neg h, fun w' hb j v hj => ?_⟩
                    have e : (⟨b', off' + (t + 1) * 7, none⟩ : Addr).add j = ⟨b', off' + (t + 1) * 7 + j, none⟩ := by unfold Addr.add; split <;> simp_all
                    rw [e]
                    exact HCUT.out w' hb (t + 1) j v (by omega) hj
                have QI := Lib.hid hAD
                have QA2 := Lib.hid hQA
                clear hAD hQA
                go_region_held3 (fun w' => w'.cell? ⟨w12.heap.size + 1, 2, none⟩ = some (.slice (some ⟨g', 0, none⟩) u.nodes.length c') ∧ w'.cell? ⟨w.heap.size, 2, none⟩ = some (.slice (some ⟨b, off, none⟩) u.nodes.length u.nc) ∧ w'.cell? ⟨b, off + a * 12 + 6, none⟩ = some (.slice (some ⟨b', off', none⟩) x.refs.length x.c))
                  (first | exact HKEEP2.out _ _ (HKEEP.out _ HB19.out) | exact HKEEP.out _ HB19.out | exact HKEEP.out _ HB18.out | exact HKEEP.out _ HB17a.out | exact HKEEP.out _ HB17d.out)
                  (first
                    | (have h18 := HO18.out; refine step_append_own (by rfl) _ _ 44 (by rfl) w17.heap.size 53 k0 (.agg #[.int .i64 0, .int .i64 0, .int .i64 0, .int .i64 0, .int .i64 0, .int .i64 0, .int .i64 0]) 7 56 Try.underlying44 hk hy0 hy1 hy2 rfl (by decide) _ _ _ (by rfl) h18 AD (x.refs.length - (t + 1)) (x.c - (t + 1)) ((x.refs.drop (t + 1)).flatMap RefD.parts) (by exact congrArg (fun A => Value.slice A (x.refs.length - (t + 1)) (x.c - (t + 1))) QI.out) QL2.out (QA2.out _ (HB17.out.trans (HB18.out.mono HB17.out.size))) QB2.out QC2.out QD2.out HB18.out.size ?_; intro v19 w19 hown19 hgrow19; obtain ⟨A19, c19, rfl⟩ := own_shape hown19; have HB19 : Hid (Below w17.heap.size w17 w19) := HB18.out.grown hgrow19 HB18.out.size (fun kk hkk => (h18.lt kk hkk).1); have HO19 := Lib.hid hown19; have HRW := Lib.hid (own_below HO17.out HB19.out); have s19 := (HRW.out.cellAt (a * 12 + 6) (by omega)).trans HP6.out; have f19 := HRW.out.frozenAt (a * 12 + 6); clear hown19 hgrow19 h18)
                    | (refine step_append_own (by rfl) _ _ 44 (by rfl) w17.heap.size 53 k0 (.agg #[.int .i64 0, .int .i64 0, .int .i64 0, .int .i64 0, .int .i64 0, .int .i64 0, .int .i64 0]) 7 56 Try.underlying44 hk hy0 hy1 hy2 rfl (by decide) _ _ _ (by rfl) HE17.out ⟨b', off', none⟩ t x.c ((x.refs.take t).flatMap RefD.parts) (by rfl) QL1.out (QA1.out _ (HB17.out.trans (HB17a.out.mono HB17.out.size))) QB1.out QC1.out QD1.out QE1.out ?_; intro v18 w18 hown18 hgrow18; (try simp only [Nat.zero_add, List.nil_append] at hown18); have HB18 : Hid (Below w17.heap.size w17 w18) := HB17a.out.grown hgrow18 (by simp) (fun kk hkk => (HE17.out.lt kk hkk).1); have HO18 := Lib.hid hown18; clear hown18 hgrow18))
                rw [QI.out]
                have hrs : (x.refs.take t ++ x.refs.drop (t + 1)).length = t + (x.refs.length - (t + 1)) := by rw [List.length_append, List.length_take, List.length_drop, Nat.min_eq_left (by omega)]
                have HSET := Lib.hid (HSETP.out A19 c19 (x.refs.take t ++ x.refs.drop (t + 1)))
                rw [hrs] at HSET
                have HO20 := Lib.hid (HRW.out.stored (a * 12 + 6) (.slice A19 (t + (x.refs.length - (t + 1))) c19)).1
                have HB20g := Lib.hid (HRW.out.stored (a * 12 + 6) (.slice A19 (t + (x.refs.length - (t + 1))) c19)).2
                rw [HSET.out] at HO20
                have HB12_19 := Lib.hid (HB17.out.trans (HB19.out.mono HB17.out.size))
                have HB20 : Hid (Below w12.heap.size w12 (w19.setCell ⟨g', a * 12 + 6, none⟩ (.slice A19 (t + (x.refs.length - (t + 1))) c19))) := HB12_19.out.setCell (by show w12.heap.size ≤ g'; omega) _
                have HL20 := Lib.hid ((HL17.out.below HB19.out HL17.out.lt).far (p := ⟨g', a * 12 + 6, none⟩) (by show w12.heap.size + 1 ≠ g'; omega) (.slice A19 (t + (x.refs.length - (t + 1))) c19))
                have HG20 := Lib.hid ((HG17.out.below HB19.out (by have := HB17.out.size; have := HL17.out.lt; omega)).far (p := ⟨g', a * 12 + 6, none⟩) (by show w12.heap.size ≠ g'; omega) (.slice A19 (t + (x.refs.length - (t + 1))) c19))
                have HROW20 : Hid (RowT (w19.setCell ⟨g', a * 12 + 6, none⟩ (.slice A19 (t + (x.refs.length - (t + 1))) c19)) (nodeW x A19 c19 (x.refs.take t ++ x.refs.drop (t + 1)))) := Lib.hid (by
                  have h := own_kept2 HO19.out HRW.out (by decide) HB20g.out
                  rw [← List.flatMap_append] at h
                  show World.ownsRow _ 0 53 7 (.slice A19 (x.refs.take t ++ x.refs.drop (t + 1)).length c19) (x.refs.take t ++ x.refs.drop (t + 1)).length _
                  rw [hrs]
                  exact h.mono (Nat.zero_le _))
                have HRS := Lib.hid hrs
                clear hrs HB20g HSET HB12_19 HKEEP HKEEP2 HCUT QA1 QA2 QL1 QL2 QB1 QB2 QC1 QC2 QD1 QD2 QE1 QI HE17 HB17a HB17d HRW s19 f19 HO19 HO18 HB18 HB19 hW1 HW1 HL17 HO17 HB17 HG17
                generalize (w19.setCell ⟨g', a * 12 + 6, none⟩ (.slice A19 (t + (x.refs.length - (t + 1))) c19)) = w20 at HO20 HB20 HL20 HG20 HROW20 ⊢
                have HBW20 := Lib.hid (HBW12.out.trans (HB20.out.mono (Nat.le_of_lt hN12)))
                have HY : Hid ((nodeW x A19 c19 (x.refs.take t ++ x.refs.drop (t + 1))).Ok w20 w20.heap.size) := ⟨by show (x.refs.take t ++ x.refs.drop (t + 1)).length ≤ _; rw [HRS.out]; omega, Reads.of_own' HROW20.out, fun r hr => HXN.out.refs r (by
                  rcases List.mem_append.1 hr with h | h
                  · exact List.mem_of_mem_take h
                  · exact List.mem_of_mem_drop h)⟩
                have hok := less_ok (HU.out.below HBW20.out) HBW20.out.size HO20.out HY.out
                have hneed := Need_any (backU u (some ⟨g', 0, none⟩) c' (u.nodes.set a (nodeW x A19 c19 (x.refs.take t ++ x.refs.drop (t + 1))))) w20.heap.size w20 hok (Nat.le_refl _) (show u.imps.length ≤ _ by omega)
                have epar : (backU u (some ⟨g', 0, none⟩) c' (u.nodes.set a (nodeW x A19 c19 (x.refs.take t ++ x.refs.drop (t + 1))))).parts = (backU u (some ⟨g', 0, none⟩) c' u.nodes).parts := by simp [backU, UnitD.parts]
                rw [epar] at hneed
                have HN20 := Lib.hid hneed
                have hRl : (backU u (some ⟨g', 0, none⟩) c' (u.nodes.set a (nodeW x A19 c19 (x.refs.take t ++ x.refs.drop (t + 1))))).need.length ≤ u.imps.length := needL_length _ _
                have HSUB : Hid (∀ z ∈ (backU u (some ⟨g', 0, none⟩) c' (u.nodes.set a (nodeW x A19 c19 (x.refs.take t ++ x.refs.drop (t + 1))))).need, decide (z ∈ NL) = true) := fun z hz => decide_eq_true ((HLL.out z).2 (needL_sub _ (HLS.out _ (fun r hr => by
                  rcases List.mem_append.1 hr with h | h
                  · exact List.mem_of_mem_take h
                  · exact List.mem_of_mem_drop h)) z hz))
                have HGONE : Hid (∀ z ∈ NL, z ∉ (backU u (some ⟨g', 0, none⟩) c' (u.nodes.set a (nodeW x A19 c19 (x.refs.take t ++ x.refs.drop (t + 1))))).need → z = g.tn ∧ g.tk = 1) := fun z hz hn => needL_gone _ (HLG3.out _ rfl) z ((HLL.out z).1 hz) hn
                clear hok hneed epar HY HROW20 HO20 HLG3 HLS HRS HSETP HP6 HLL
                generalize (backU u (some ⟨g', 0, none⟩) c' (u.nodes.set a (nodeW x A19 c19 (x.refs.take t ++ x.refs.drop (t + 1))))).need = RL at HN20 hRl HSUB HGONE
                simp only [UnitD.parts, backU] at HN20
                have k0 : w20.cell? ⟨w12.heap.size + 1, 0, none⟩ = some (.string u.u0) := HL20.out.cell 0
                have k1 : w20.cell? ⟨w12.heap.size + 1, 1, none⟩ = some (.bool u.u1) := HL20.out.cell 1
                have k2 : w20.cell? ⟨w12.heap.size + 1, 2, none⟩ = some (.slice (some ⟨g', 0, none⟩) u.nodes.length c') := HL20.out.cell 2
                have k3 : w20.cell? ⟨w12.heap.size + 1, 3, none⟩ = some (.slice u.iA u.imps.length u.ic) := HL20.out.cell 3
                have k4 : w20.cell? ⟨w12.heap.size + 1, 4, none⟩ = some (.slice u.u4.A u.u4.n u.u4.c) := HL20.out.cell 4
                have k5 : w20.cell? ⟨w12.heap.size + 1, 5, none⟩ = some (.slice u.u5.A u.u5.n u.u5.c) := HL20.out.cell 5
                have k6 : w20.cell? ⟨w12.heap.size + 1, 6, none⟩ = some (.slice u.u6.A u.u6.n u.u6.c) := HL20.out.cell 6
                have k7 : w20.cell? ⟨w12.heap.size + 1, 7, none⟩ = some (.slice u.u7.A u.u7.n u.u7.c) := HL20.out.cell 7
                have k8 : w20.cell? ⟨w12.heap.size + 1, 8, none⟩ = some (.int .i64 u.u8) := HL20.out.cell 8
                have k9 : w20.cell? ⟨w12.heap.size + 1, 9, none⟩ = some (.int .i64 u.u9) := HL20.out.cell 9
                have k10 : w20.cell? ⟨w12.heap.size + 1, 10, none⟩ = some (.int .i64 u.u10) := HL20.out.cell 10
                have k11 : w20.cell? ⟨w12.heap.size + 1, 11, none⟩ = some (.int .i64 u.u11) := HL20.out.cell 11
                have k12 : w20.cell? ⟨w12.heap.size + 1, 12, none⟩ = some (.slice u.u12.A u.u12.n u.u12.c) := HL20.out.cell 12
                have k13 : w20.cell? ⟨w12.heap.size + 1, 13, none⟩ = some (.slice u.u13.A u.u13.n u.u13.c) := HL20.out.cell 13
                have HR20 := Lib.hid (HR12.out.below (HB20.out.mono hB12))
                have hB20 : B12 ≤ w20.heap.size := Nat.le_trans hB12 HB20.out.size
                have hg20 : w12.heap.size < w20.heap.size := HG20.out.lt
                go_wp2_with fail
                refine (HN20.out).mono ?_
                rintro e w21 ⟨v21, rfl, hown21, hb21⟩
                obtain ⟨A21, c21, rfl, _⟩ := own_reads hown21
                have HQ21 := Lib.hid (Reads.of_own hown21)
                have HR21 := Lib.hid (HR20.out.below (hb21.mono hB20))
                have HG21 := Lib.hid (HG20.out.below hb21 hg20)
                have HBW21 := Lib.hid (HBW20.out.trans (hb21.mono HBW20.out.size))
                clear hown21 hb21 k0 k1 k2 k3 k4 k5 k6 k7 k8 k9 k10 k11 k12 k13 HN20 HL20 HR20 HG20 HBW20 HB20 HBW12 HX12 HR12
                generalize w21.heap.size = B21 at HQ21
                generalize w12.heap.size = G at HG21 hB12 hN12 hbl hg' hg20 ⊢
                go_wp2_with fail
                go_loop [17] (fun vi => ∃ i : Nat, vi = .int .i64 i ∧ i ≤ RL.length) (fun vi => RL.length - (intOf vi).toNat)
                case atStart => exact ⟨0, rfl, Nat.zero_le _⟩
                case round =>
                  obtain ⟨i, rfl, hi⟩ := hrel
                  by_cases hil : i < RL.length
                  · obtain ⟨b2, off2, rfl, _, hc⟩ := HQ21.out.lit (by omega) (by decide)
                    have c0 : w21.cell? ⟨b2, off2 + i, none⟩ = some (.int .i64 (RL[i]'hil)) := hc i _ (by simp [intCells, hil])
                    have HSI := Lib.hid (HSUB.out _ (List.getElem_mem hil))
                    clear hc
                    generalize RL[i]'hil = z at c0 HSI
                    have HINA := Lib.hid (in_any A3 c3 B12 NL z w21 HR21.out (by omega))
                    rw [HSI.out] at HINA
                    have hi0 : (0 : Int) ≤ (i : Int) := by omega
                    have hiI : (i : Int) < (RL.length : Int) := by omega
                    go_wp2_with fail
                    refine (HINA.out).mono ?_
                    rintro e w' ⟨rfl, rfl⟩
                    go_wp2
                    go_round
                    case rel => exact ⟨i + 1, by go_num, by omega⟩
                    case measure => simp [intOf]; omega
                  · obtain rfl : i = RL.length := by omega
                    go_wp2_with fail
                    go_loopw [18] (fun vi wr => ∃ i : Nat, vi = .int .i64 i ∧ i ≤ NL.length ∧ Hid (Reads wr B12 1 A3 NL.length (intCells NL)) ∧ Hid (Reads wr B21 1 A21 RL.length (intCells RL)) ∧ Hid (Blk wr G 53 g.parts.toArray) ∧ Hid (Below w.heap.size w wr)) (fun vi _ => NL.length - (intOf vi).toNat)
                    case atStart => exact ⟨0, rfl, Nat.zero_le _, HR21, HQ21, HG21, HBW21⟩
                    case round =>
                      clear HR21 HQ21 HG21 HBW21
                      obtain ⟨i, rfl, hi, HR, HQ, HG, HB⟩ := hrel
                      by_cases hil : i < NL.length
                      · obtain ⟨b2, off2, rfl, _, hc⟩ := HR.out.lit (by omega) (by decide)
                        have c0 : wr.cell? ⟨b2, off2 + i, none⟩ = some (.int .i64 (NL[i]'hil)) := hc i _ (by simp [intCells, hil])
                        have HGI := Lib.hid (HGONE.out _ (List.getElem_mem hil))
                        clear hc
                        generalize NL[i]'hil = z at c0 HGI
                        have HINX : Hid (∀ m, Calls Try.prog 15 #[.slice A21 RL.length c21, .int .i64 z] (wr.drewN m) fun e w' => e = .returned (.bool (decide (z ∈ RL))) ∧ w' = wr.drewN m) := fun m => (in_any A21 c21 B21 RL z (wr.drewN m) (HQ.out.drewN m) (by omega)).mono fun _ _ ⟨h1, h2⟩ => ⟨h1, h2.symm⟩
                        have hi0 : (0 : Int) ≤ (i : Int) := by omega
                        have hiI : (i : Int) < (NL.length : Int) := by omega
                        cases hd : decide (z ∈ RL) with
                        | true =>
                          rw [hd] at HINX
                          clear hd
                          go_wp2_with fail
                          go_quiet ((go_at_call 15; exact Calls.quiet_of_same (HINX.out _)))
                          go_wp2
                          exact ⟨⟨i + 1, by go_num, by omega, HR.out.drewN _, HQ.out.drewN _, HG, below_drewN HB.out _⟩, by simp [intOf]; omega⟩
                        | false =>
                          rw [hd] at HINX
                          have h2 : wr.cell? ⟨G, 2, none⟩ = some (.int .i64 g.tk) := HG.out.cell 2
                          have h3 : wr.cell? ⟨G, 3, none⟩ = some (.int .i64 g.tn) := HG.out.cell 3
                          have hgo := HGI.out (of_decide_eq_false hd)
                          rw [hgo.2] at h2
                          rw [← hgo.1] at h3
                          clear hd hgo
                          go_wp2_with fail
                          go_quiet ((go_at_call 15; exact Calls.quiet_of_same (HINX.out _)))
                          go_wp2
                          exact ⟨⟨i + 1, by go_num, by omega, HR.out.drewN _, HQ.out.drewN _, HG, below_drewN HB.out _⟩, by simp [intOf]; omega⟩
                      · obtain rfl : i = NL.length := by omega
                        go_wp2
                        go_ret
                        exact ⟨rfl, HB.out⟩

set_option maxRecDepth 100000 in
theorem lifted (os : Os) (started : os.Started) (H : Type) (enc : TypeId × Value → H) :
    ReturnsInHanded {} Try.checked os 7 .any (Rows.slotRefsSpec.pre6 enc Try.prog Try.f7 Rows.slotRefsRow.domain false) (Rows.slotRefsSpec.post enc Try.prog Try.f7 false true false false) := by
  refine returnsInHanded_of_change (C := Try.checked) own started (by kernel_rfl) Try.func7
    (ChangeSpec.witness6 (enc := enc) (C := Try.checked) false ⟨#[], #[.agg #[.string ByteArray.empty, .bool false, .slice none 0 0, .slice none 0 0, .slice none 0 0, .slice none 0 0, .slice none 0 0, .slice none 0 0, .int .i64 0, .int .i64 0, .int .i64 0, .int .i64 0, .slice none 0 0, .slice none 0 0], .int .i64 0, .int .i64 0], []⟩ 8 (by kernel_rfl) (by kernel_rfl) (by kernel_rfl) (by kernel_rfl)) ?_
  intro W base args ds gs before hval0 hW hcnd _
  have hval : ∀ (j : Nat) t v, Try.f7.params[j]? = some t → args[j]? = some v → Value.okWide Try.prog W .any base t v := hval0
  have hW' := hW
  obtain ⟨p, q, hA0, hV, rfl, hfz, hnd⟩ := hW
  have hA : DataW.TrodAll enc Try.prog W 0 (fun _ => true) true Try.f7.params.toList args.toList ds p := hA0
  rw [Try.params7] at hA hval
  obtain ⟨v0, vs0, d0, ds0, p0, q0, hargs, rfl, rfl, h0, r0⟩ := trodAll_cons hA
  obtain ⟨v1, vs1, d1, ds1, p1, q1, rfl, rfl, rfl, h1, r1⟩ := trodAll_cons r0
  obtain ⟨v2, vs2, d2, ds2, p2, q2, rfl, rfl, rfl, h2, r2⟩ := trodAll_cons r1
  obtain ⟨rfl, rfl, rfl⟩ := trodAll_nil r2
  obtain rfl : args = #[v0, v1, v2] := by cases args; simp_all
  obtain ⟨rfl, rfl⟩ := trodVars_none hV
  have k0 := h0
  have lt0 : ∀ x ∈ p0, x.block < W.heap.size := by obtain ⟨m, hm⟩ := k0; exact DataW.trod_lt m _ _ _ hm
  have o0 := openUnitC (hval 0 32 v0 rfl rfl) h0
  obtain ⟨a1, rfl, rfl, rfl, w1⟩ := open_int Try.underlying3 (hval 1 3 v1 rfl rfl) h1
  obtain ⟨a2, rfl, rfl, rfl, w2⟩ := open_int Try.underlying3 (hval 2 3 v2 rfl rfl) h2
  clear hA0 hval0
  refine (walk v0 a1 a2 W o0 w1 w2).mono fun e W' ⟨he, bel⟩ => ?_
  subst he
  exact ⟨_, rfl, _, _, _, [], _, [], hW', trodAll_mk1 (shut_bool Try.underlying4 _), (trodAll_cons_mk (Below.trod laidOut (by kernel_rfl) (of_decide_eq_true (by kernel_rfl)) k0 bel lt0) (trodAll_cons_mk (shut_int Try.underlying3 w1) (trodAll_cons_mk (shut_int Try.underlying3 w2) trodAll_mk0))), rfl, bel.frame _, fun h => by cases h⟩

theorem over : Rows.slotRefsRow.holds Try.pinned (OpenSpec.ofChange Rows.slotRefsSpec) :=
  OpenClaim.holds_of_wide 7 Try.f7 rfl rfl rfl rfl rfl rfl rfl ⟨rfl, rfl, rfl, rfl, rfl⟩ rfl rfl rfl rfl rfl (by kernel_rfl) Try.func7 (by kernel_rfl)
    (of_decide_eq_true (by kernel_rfl)) (by unfold Func.isWrapper; first | (rw [if_pos (by decide +kernel)]; kernel_rfl) | (rw [if_neg (by decide +kernel)]; exact ⟨rfl, rfl⟩))
    (fun os started H enc _ => lifted os started H enc)

/-- The statement. -/
theorem proved : Rows.SlotRefsSaid := over
#print axioms proved
end Go.Proofs.Ytdmomdaeiaeolaa.slotRefs
