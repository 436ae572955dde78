/-
  For all patches, PatchJoins returns true, and its arguments read as before: the tied card. No condition.
-/
import Derived.Test.YtefgajipakjpeaaDoorSmall
import Derived.Test.YtefgajipakjpeaaDoorCompact
import Derived.Test.YtefgajipakjpeaaDoorOpenP
import Derived.Deep.DeepCutAuto
namespace Go.Proofs.YtefgajipakjpeaaDoor
open Go.Joins Go.ChangeShapes Go.WideShapes Go.ChangeAt Go.RowKit

theorem Light_E (p : PatchD) (b : Bool) (h : lightB p = b) (w : World) (hk : p.Ok w w.heap.size) : Calls Tryd.prog 7 #[.agg p.parts.toArray] w fun r w' => r = .returned (.bool b) ∧ Below w.heap.size w w' := by
  have h1 := light_any p w.heap.size w hk (Nat.le_refl _)
  rw [h] at h1
  exact h1
theorem Right_E (p : PatchD) (b : Bool) (h : rightPB p = b) (w : World) (hk : p.Ok w w.heap.size) : Calls Tryd.prog 18 #[.agg p.parts.toArray] w fun r w' => r = .returned (.bool b) ∧ Below w.heap.size w w' := by
  have h1 := Right_any p w.heap.size w hk (Nat.le_refl _)
  rw [h] at h1
  exact h1
theorem Join_E (p q : PatchD) (R : PD) (E : Int) (h : joinR p.pd q.pd = (R, E)) (w : World) (hk : p.Ok w w.heap.size) (hk' : q.Ok w w.heap.size) :
    Calls Tryd.prog 17 #[.agg p.parts.toArray, .agg q.parts.toArray] w fun r w' => ∃ a : PatchD, r = .returned (.tuple #[.agg a.parts.toArray, .int .i64 E]) ∧ a.pd = R ∧ a.Ok w' w'.heap.size ∧ Below w.heap.size w w' := by
  have h1 := Join_any p q w.heap.size w hk hk' (Nat.le_refl _)
  rw [h] at h1
  exact h1
theorem Total_E (A : Option Addr) (c : Nat) (es : List EditD) (T : Int) (hT : totalI es = T) (w : World) (hr : Reads w w.heap.size 3 A es.length (es.flatMap EditD.parts)) (he : ∀ e ∈ es, EOk e) (ht : totalI es ≤ 1099511627776) :
    Calls Tryd.prog 19 #[.slice A es.length c] w fun r w' => r = .returned (.int .i64 T) ∧ Below w.heap.size w w' := by
  have h1 := Total_any A c es w.heap.size w hr he (Nat.le_refl _) ht
  rw [hT] at h1
  exact h1

theorem Same_E (p q : PatchD) (h : p.pd = q.pd) (w : World) (hk : p.Ok w w.heap.size) (hk' : q.Ok w w.heap.size) :
    Calls Tryd.prog 10 #[.agg p.parts.toArray, .agg q.parts.toArray] w fun r w' => r = .returned (.bool true) ∧ Below w.heap.size w w' := by
  have h1 := Same_any p q w.heap.size w hk hk' (Nat.le_refl _)
  rw [samePB_pd p q h] at h1
  exact h1
theorem Same_L (A1 : Option Addr) (c1 : Nat) (l1 : List EditD) (A2 : Option Addr) (c2 : Nat) (l2 : List EditD) (h : l1 = l2) (w : World) {f t : List UInt8} (hk : PatchD.Ok w w.heap.size ⟨f, t, A1, c1, l1⟩) (hr : Reads w w.heap.size 3 A2 l2.length (l2.flatMap EditD.parts)) (hl : l2.length ≤ 9223372036854775807) (ho : ∀ e ∈ l2, e.Ok) :
    Calls Tryd.prog 10 #[.agg #[.string ⟨#[]⟩, .string ⟨#[]⟩, .slice A1 l1.length c1], .agg #[.string ⟨#[]⟩, .string ⟨#[]⟩, .slice A2 l2.length c2]] w fun r w' => r = .returned (.bool true) ∧ Below w.heap.size w w' :=
  Same_E ⟨[], [], A1, c1, l1⟩ ⟨[], [], A2, c2, l2⟩ (by show PD.mk [] [] l1 = PD.mk [] [] l2; rw [h]) w ⟨Nat.zero_le _, Nat.zero_le _, hk.len, hk.cells, hk.edits⟩ ⟨Nat.zero_le _, Nat.zero_le _, hl, hr, ho⟩
theorem compact_len {es : List EditD} (hr : ∀ e ∈ es, rightEB e = true) (ht : totalI es ≤ 16777216) : (compactL es).length ≤ 9223372036854775807 ∧ ∀ e ∈ compactL es, e.Ok := by
  obtain ⟨h1, h2⟩ := compact_in hr ht
  have h3 := EOk.length_le (es := es) (fun e h => rightE_EOk (hr e h))
  exact ⟨by omega, fun e he => (h1 e he).ok (by omega) (by omega)⟩
theorem edits_one (es : List EditD) : ∀ u ∈ es.flatMap EditD.parts, u.oneCell' = true := by
  intro u hu
  obtain ⟨e, _, he⟩ := List.mem_flatMap.1 hu
  exact edit_one e u he
/-- An append in a region that draws its order, the only operation that may come up. -/
theorem wpAnyH_append {P : Program} {ops : Array Oper} {Q : Exit → Act → World → Prop} {md : Region.Mode} {S : World → Prop} {fuel : Nat} {listed : Array Bool} {a : Act} {w : World} {i : Nat} (hr : Region.ready md ops listed = [i])
    (s x : Operand) (t : TypeId) (d : Option Tmp) (hop : (ops[i]?).map (fun o => (o.op, o.dst)) = some (Op.call { callee := .builtin .append, args := #[s, x], argTypes := #[t, t] }, d))
    (hw : (ops[i]?).map (fun o => Region.wanted o (yielded ops a.tmps)) = some true)
    (base : Nat) (e : TypeId) (ti : TypeInfo) (z : Value) (size bytes : Nat) (ht : P.underlying t = some (.slice e)) (hi : P.info? e = some ti) (hz : ti.zero = some z)
    (hsize : ti.size = size) (hby : ti.bytes = bytes) (hzs : z.cells.size = size) (hsz : 0 < size)
    (v : Value) (n : Nat) (xs : List Value) (hs : a.eval s = v) (hown : w.ownsRow base e size v n xs)
    (ad : Addr) (m c : Nat) (news : List Value) (hx : a.eval x = .slice (some ad) m c) (hl : news.length = m * size) (hnews : ∀ j u, news[j]? = some u → w.cell? (ad.add j) = some u) (h1 : ∀ u ∈ news, u.oneCell' = true)
    (h63 : n + m ≤ maxLen) (hbytes : (n + m) * bytes ≤ 140737488355328) (hbase : base ≤ w.heap.size)
    (h : ∀ v' w', w'.ownsRow base e size v' (n + m) (xs ++ news) → w.grownBy w' v.ownBlock → S w' ∧ (S w' → wpAnyH P md ops Q S fuel (listed.setIfInBounds i true) (a.put d v') w')) :
    wpAnyH P md ops Q S (fuel + 1) listed a w := by
  cases hoi : ops[i]? with
  | none => rw [hoi] at hop; cases hop
  | some o =>
    rw [hoi] at hop hw
    simp only [Option.map_some, Option.some.injEq, Prod.mk.injEq] at hop hw
    obtain ⟨h3, h2⟩ := hop
    refine wpAnyH_ready hr (by simp) (AllReadyH.cons hoi (fun K hK => ?_) AllReadyH.nil)
    rw [if_pos hw]
    refine wp_append_own w s x t h3 base e ti z size bytes ht hi hz hsize hby hzs hsz v n xs hs hown ad m c news hx hl hnews h1 h63 hbytes hbase fun v' w' k2 k3 _ => ?_
    obtain ⟨hS, hk⟩ := h v' w' k2 k3
    exact hK.out _ _ hS (by rw [h2]; exact hk)

namespace patchJoins

set_option maxHeartbeats 8000000 in
set_option maxRecDepth 100000 in
theorem exit0 (p q r : PatchD) (w : World) (hp : p.Ok w w.heap.size) (hq : q.Ok w w.heap.size) (hr : r.Ok w w.heap.size) (ht : Tabs w)  (h0 : lightB p = false) :
    Calls Tryd.prog 5 #[.agg p.parts.toArray, .agg q.parts.toArray, .agg r.parts.toArray] w fun r w' => r = .returned (.bool true) ∧ Below w.heap.size w w' := by
  have HTB := Lib.hid ht
  have HPO := Lib.hid hp
  have HQO := Lib.hid hq
  have HRO := Lib.hid hr
  have H0 := Lib.hid h0; clear h0
  have HZ0 : Hid (Below w.heap.size w (((w.alloc (.cells p.parts.toArray 24)).alloc (.cells q.parts.toArray 24)).alloc (.cells r.parts.toArray 24))) := Lib.hid ((((Below.refl _ _).alloc (Nat.le_refl _) _).alloc (by simp) _).alloc (by simp; omega) _)
  have HZP : Hid (Blk (((w.alloc (.cells p.parts.toArray 24)).alloc (.cells q.parts.toArray 24)).alloc (.cells r.parts.toArray 24)) w.heap.size 24 p.parts.toArray) := Lib.hid (((Blk.new w 24 _).alloc _).alloc _)
  have HZQ : Hid (Blk (((w.alloc (.cells p.parts.toArray 24)).alloc (.cells q.parts.toArray 24)).alloc (.cells r.parts.toArray 24)) (w.heap.size + 1) 24 q.parts.toArray) := Lib.hid ((Blk.newAt (by simp)).alloc _)
  have HZR : Hid (Blk (((w.alloc (.cells p.parts.toArray 24)).alloc (.cells q.parts.toArray 24)).alloc (.cells r.parts.toArray 24)) (w.heap.size + 2) 24 r.parts.toArray) := Lib.hid (Blk.newAt (by simp))
  clear hp hq hr ht
  go_enter Tryd.func5, Tryd.ntmps5
  go_wp2_with fail
  generalize (((w.alloc (.cells p.parts.toArray 24)).alloc (.cells q.parts.toArray 24)).alloc (.cells r.parts.toArray 24)) = w0 at HZ0 HZP HZQ HZR ⊢
  have hb := HZ0.out
  have HBw0 := Lib.hid hb
  have HTw0 := Lib.hid (HTB.out.below HBw0.out HTB.out.size)
  clear hb
  have HPw0 := HZP; have HQw0 := HZQ; have HRw0 := HZR; clear HZ0 HZP HZQ HZR
  go_wp2_with (first
      | (refine wpList_load_mid rfl 24 _ rfl w.heap.size 0 rfl p.parts _ HPw0.out.range Tryd.underlying24 rfl (patchInfo p) ?_)
      | (refine wpList_load_mid rfl 24 _ rfl (w.heap.size + 1) 0 rfl q.parts _ HQw0.out.range Tryd.underlying24 rfl (patchInfo q) ?_)
      | (refine wpList_load_mid rfl 24 _ rfl (w.heap.size + 2) 0 rfl r.parts _ HRw0.out.range Tryd.underlying24 rfl (patchInfo r) ?_)
      | fail)
  have HC := Lib.hid (Small_any w0 HTw0.out)
  refine (HC.out).mono ?_
  rintro r w1 ⟨rfl, hb⟩
  clear HC
  have HPw1 := Lib.hid (HPw0.out.below hb HPw0.out.lt)
  have HQw1 := Lib.hid (HQw0.out.below hb HQw0.out.lt)
  have HRw1 := Lib.hid (HRw0.out.below hb HRw0.out.lt)
  have HBw1 := Lib.hid (HBw0.out.trans (hb.mono HBw0.out.size))
  have HTw1 := Lib.hid (HTB.out.below HBw1.out HTB.out.size)
  clear hb HPw0 HQw0 HRw0 HBw0 HTw0
  go_wp2_with (first
      | (refine wpList_load_mid rfl 24 _ rfl w.heap.size 0 rfl p.parts _ HPw1.out.range Tryd.underlying24 rfl (patchInfo p) ?_)
      | (refine wpList_load_mid rfl 24 _ rfl (w.heap.size + 1) 0 rfl q.parts _ HQw1.out.range Tryd.underlying24 rfl (patchInfo q) ?_)
      | (refine wpList_load_mid rfl 24 _ rfl (w.heap.size + 2) 0 rfl r.parts _ HRw1.out.range Tryd.underlying24 rfl (patchInfo r) ?_)
      | fail)
  have HC := Lib.hid (Light_E p _ H0.out w1 ((HPO.out.below HBw1.out).more HBw1.out.size))
  refine (HC.out).mono ?_
  rintro r w2 ⟨rfl, hb⟩
  clear HC
  have HPw2 := Lib.hid (HPw1.out.below hb HPw1.out.lt)
  have HQw2 := Lib.hid (HQw1.out.below hb HQw1.out.lt)
  have HRw2 := Lib.hid (HRw1.out.below hb HRw1.out.lt)
  have HBw2 := Lib.hid (HBw1.out.trans (hb.mono HBw1.out.size))
  have HTw2 := Lib.hid (HTB.out.below HBw2.out HTB.out.size)
  clear hb HPw1 HQw1 HRw1 HBw1 HTw1
  go_wp2
  go_ret
  exact ⟨rfl, HBw2.out⟩

set_option maxHeartbeats 8000000 in
set_option maxRecDepth 100000 in
theorem exit1 (p q r : PatchD) (w : World) (hp : p.Ok w w.heap.size) (hq : q.Ok w w.heap.size) (hr : r.Ok w w.heap.size) (ht : Tabs w) (h0 : lightB p = true) (h1 : lightB q = false) :
    Calls Tryd.prog 5 #[.agg p.parts.toArray, .agg q.parts.toArray, .agg r.parts.toArray] w fun r w' => r = .returned (.bool true) ∧ Below w.heap.size w w' := by
  have HTB := Lib.hid ht
  have HPO := Lib.hid hp
  have HQO := Lib.hid hq
  have HRO := Lib.hid hr
  have H1 := Lib.hid h1; clear h1
  have H0 := Lib.hid h0; clear h0
  have HZ0 : Hid (Below w.heap.size w (((w.alloc (.cells p.parts.toArray 24)).alloc (.cells q.parts.toArray 24)).alloc (.cells r.parts.toArray 24))) := Lib.hid ((((Below.refl _ _).alloc (Nat.le_refl _) _).alloc (by simp) _).alloc (by simp; omega) _)
  have HZP : Hid (Blk (((w.alloc (.cells p.parts.toArray 24)).alloc (.cells q.parts.toArray 24)).alloc (.cells r.parts.toArray 24)) w.heap.size 24 p.parts.toArray) := Lib.hid (((Blk.new w 24 _).alloc _).alloc _)
  have HZQ : Hid (Blk (((w.alloc (.cells p.parts.toArray 24)).alloc (.cells q.parts.toArray 24)).alloc (.cells r.parts.toArray 24)) (w.heap.size + 1) 24 q.parts.toArray) := Lib.hid ((Blk.newAt (by simp)).alloc _)
  have HZR : Hid (Blk (((w.alloc (.cells p.parts.toArray 24)).alloc (.cells q.parts.toArray 24)).alloc (.cells r.parts.toArray 24)) (w.heap.size + 2) 24 r.parts.toArray) := Lib.hid (Blk.newAt (by simp))
  clear hp hq hr ht
  go_enter Tryd.func5, Tryd.ntmps5
  go_wp2_with fail
  generalize (((w.alloc (.cells p.parts.toArray 24)).alloc (.cells q.parts.toArray 24)).alloc (.cells r.parts.toArray 24)) = w0 at HZ0 HZP HZQ HZR ⊢
  have hb := HZ0.out
  have HBw0 := Lib.hid hb
  have HTw0 := Lib.hid (HTB.out.below HBw0.out HTB.out.size)
  clear hb
  have HPw0 := HZP; have HQw0 := HZQ; have HRw0 := HZR; clear HZ0 HZP HZQ HZR
  go_wp2_with (first
      | (refine wpList_load_mid rfl 24 _ rfl w.heap.size 0 rfl p.parts _ HPw0.out.range Tryd.underlying24 rfl (patchInfo p) ?_)
      | (refine wpList_load_mid rfl 24 _ rfl (w.heap.size + 1) 0 rfl q.parts _ HQw0.out.range Tryd.underlying24 rfl (patchInfo q) ?_)
      | (refine wpList_load_mid rfl 24 _ rfl (w.heap.size + 2) 0 rfl r.parts _ HRw0.out.range Tryd.underlying24 rfl (patchInfo r) ?_)
      | fail)
  have HC := Lib.hid (Small_any w0 HTw0.out)
  refine (HC.out).mono ?_
  rintro r w1 ⟨rfl, hb⟩
  clear HC
  have HPw1 := Lib.hid (HPw0.out.below hb HPw0.out.lt)
  have HQw1 := Lib.hid (HQw0.out.below hb HQw0.out.lt)
  have HRw1 := Lib.hid (HRw0.out.below hb HRw0.out.lt)
  have HBw1 := Lib.hid (HBw0.out.trans (hb.mono HBw0.out.size))
  have HTw1 := Lib.hid (HTB.out.below HBw1.out HTB.out.size)
  clear hb HPw0 HQw0 HRw0 HBw0 HTw0
  go_wp2_with (first
      | (refine wpList_load_mid rfl 24 _ rfl w.heap.size 0 rfl p.parts _ HPw1.out.range Tryd.underlying24 rfl (patchInfo p) ?_)
      | (refine wpList_load_mid rfl 24 _ rfl (w.heap.size + 1) 0 rfl q.parts _ HQw1.out.range Tryd.underlying24 rfl (patchInfo q) ?_)
      | (refine wpList_load_mid rfl 24 _ rfl (w.heap.size + 2) 0 rfl r.parts _ HRw1.out.range Tryd.underlying24 rfl (patchInfo r) ?_)
      | fail)
  have HC := Lib.hid (Light_E p _ H0.out w1 ((HPO.out.below HBw1.out).more HBw1.out.size))
  refine (HC.out).mono ?_
  rintro r w2 ⟨rfl, hb⟩
  clear HC
  have HPw2 := Lib.hid (HPw1.out.below hb HPw1.out.lt)
  have HQw2 := Lib.hid (HQw1.out.below hb HQw1.out.lt)
  have HRw2 := Lib.hid (HRw1.out.below hb HRw1.out.lt)
  have HBw2 := Lib.hid (HBw1.out.trans (hb.mono HBw1.out.size))
  have HTw2 := Lib.hid (HTB.out.below HBw2.out HTB.out.size)
  clear hb HPw1 HQw1 HRw1 HBw1 HTw1
  go_wp2_with (first
      | (refine wpList_load_midG (by kernel_rfl) 24 _ rfl w.heap.size 0 rfl p.parts _ HPw2.out.range Tryd.underlying24 rfl (patchInfo p) ?_)
      | (refine wpList_load_midG (by kernel_rfl) 24 _ rfl (w.heap.size + 1) 0 rfl q.parts _ HQw2.out.range Tryd.underlying24 rfl (patchInfo q) ?_)
      | (refine wpList_load_midG (by kernel_rfl) 24 _ rfl (w.heap.size + 2) 0 rfl r.parts _ HRw2.out.range Tryd.underlying24 rfl (patchInfo r) ?_)
      | fail)
  have HC := Lib.hid (Light_E q _ H1.out w2 ((HQO.out.below HBw2.out).more HBw2.out.size))
  refine (HC.out).mono ?_
  rintro r w3 ⟨rfl, hb⟩
  clear HC
  have HPw3 := Lib.hid (HPw2.out.below hb HPw2.out.lt)
  have HQw3 := Lib.hid (HQw2.out.below hb HQw2.out.lt)
  have HRw3 := Lib.hid (HRw2.out.below hb HRw2.out.lt)
  have HBw3 := Lib.hid (HBw2.out.trans (hb.mono HBw2.out.size))
  have HTw3 := Lib.hid (HTB.out.below HBw3.out HTB.out.size)
  clear hb HPw2 HQw2 HRw2 HBw2 HTw2
  go_wp2
  go_ret
  exact ⟨rfl, HBw3.out⟩

set_option maxHeartbeats 8000000 in
set_option maxRecDepth 100000 in
theorem exit2 (p q r : PatchD) (w : World) (hp : p.Ok w w.heap.size) (hq : q.Ok w w.heap.size) (hr : r.Ok w w.heap.size) (ht : Tabs w) (h0 : lightB p = true) (h1 : lightB q = true) (h2 : lightB r = false) :
    Calls Tryd.prog 5 #[.agg p.parts.toArray, .agg q.parts.toArray, .agg r.parts.toArray] w fun r w' => r = .returned (.bool true) ∧ Below w.heap.size w w' := by
  have HTB := Lib.hid ht
  have HPO := Lib.hid hp
  have HQO := Lib.hid hq
  have HRO := Lib.hid hr
  have H2 := Lib.hid h2; clear h2
  have H1 := Lib.hid h1; clear h1
  have H0 := Lib.hid h0; clear h0
  have HZ0 : Hid (Below w.heap.size w (((w.alloc (.cells p.parts.toArray 24)).alloc (.cells q.parts.toArray 24)).alloc (.cells r.parts.toArray 24))) := Lib.hid ((((Below.refl _ _).alloc (Nat.le_refl _) _).alloc (by simp) _).alloc (by simp; omega) _)
  have HZP : Hid (Blk (((w.alloc (.cells p.parts.toArray 24)).alloc (.cells q.parts.toArray 24)).alloc (.cells r.parts.toArray 24)) w.heap.size 24 p.parts.toArray) := Lib.hid (((Blk.new w 24 _).alloc _).alloc _)
  have HZQ : Hid (Blk (((w.alloc (.cells p.parts.toArray 24)).alloc (.cells q.parts.toArray 24)).alloc (.cells r.parts.toArray 24)) (w.heap.size + 1) 24 q.parts.toArray) := Lib.hid ((Blk.newAt (by simp)).alloc _)
  have HZR : Hid (Blk (((w.alloc (.cells p.parts.toArray 24)).alloc (.cells q.parts.toArray 24)).alloc (.cells r.parts.toArray 24)) (w.heap.size + 2) 24 r.parts.toArray) := Lib.hid (Blk.newAt (by simp))
  clear hp hq hr ht
  go_enter Tryd.func5, Tryd.ntmps5
  go_wp2_with fail
  generalize (((w.alloc (.cells p.parts.toArray 24)).alloc (.cells q.parts.toArray 24)).alloc (.cells r.parts.toArray 24)) = w0 at HZ0 HZP HZQ HZR ⊢
  have hb := HZ0.out
  have HBw0 := Lib.hid hb
  have HTw0 := Lib.hid (HTB.out.below HBw0.out HTB.out.size)
  clear hb
  have HPw0 := HZP; have HQw0 := HZQ; have HRw0 := HZR; clear HZ0 HZP HZQ HZR
  go_wp2_with (first
      | (refine wpList_load_mid rfl 24 _ rfl w.heap.size 0 rfl p.parts _ HPw0.out.range Tryd.underlying24 rfl (patchInfo p) ?_)
      | (refine wpList_load_mid rfl 24 _ rfl (w.heap.size + 1) 0 rfl q.parts _ HQw0.out.range Tryd.underlying24 rfl (patchInfo q) ?_)
      | (refine wpList_load_mid rfl 24 _ rfl (w.heap.size + 2) 0 rfl r.parts _ HRw0.out.range Tryd.underlying24 rfl (patchInfo r) ?_)
      | fail)
  have HC := Lib.hid (Small_any w0 HTw0.out)
  refine (HC.out).mono ?_
  rintro r w1 ⟨rfl, hb⟩
  clear HC
  have HPw1 := Lib.hid (HPw0.out.below hb HPw0.out.lt)
  have HQw1 := Lib.hid (HQw0.out.below hb HQw0.out.lt)
  have HRw1 := Lib.hid (HRw0.out.below hb HRw0.out.lt)
  have HBw1 := Lib.hid (HBw0.out.trans (hb.mono HBw0.out.size))
  have HTw1 := Lib.hid (HTB.out.below HBw1.out HTB.out.size)
  clear hb HPw0 HQw0 HRw0 HBw0 HTw0
  go_wp2_with (first
      | (refine wpList_load_mid rfl 24 _ rfl w.heap.size 0 rfl p.parts _ HPw1.out.range Tryd.underlying24 rfl (patchInfo p) ?_)
      | (refine wpList_load_mid rfl 24 _ rfl (w.heap.size + 1) 0 rfl q.parts _ HQw1.out.range Tryd.underlying24 rfl (patchInfo q) ?_)
      | (refine wpList_load_mid rfl 24 _ rfl (w.heap.size + 2) 0 rfl r.parts _ HRw1.out.range Tryd.underlying24 rfl (patchInfo r) ?_)
      | fail)
  have HC := Lib.hid (Light_E p _ H0.out w1 ((HPO.out.below HBw1.out).more HBw1.out.size))
  refine (HC.out).mono ?_
  rintro r w2 ⟨rfl, hb⟩
  clear HC
  have HPw2 := Lib.hid (HPw1.out.below hb HPw1.out.lt)
  have HQw2 := Lib.hid (HQw1.out.below hb HQw1.out.lt)
  have HRw2 := Lib.hid (HRw1.out.below hb HRw1.out.lt)
  have HBw2 := Lib.hid (HBw1.out.trans (hb.mono HBw1.out.size))
  have HTw2 := Lib.hid (HTB.out.below HBw2.out HTB.out.size)
  clear hb HPw1 HQw1 HRw1 HBw1 HTw1
  go_wp2_with (first
      | (refine wpList_load_midG (by kernel_rfl) 24 _ rfl w.heap.size 0 rfl p.parts _ HPw2.out.range Tryd.underlying24 rfl (patchInfo p) ?_)
      | (refine wpList_load_midG (by kernel_rfl) 24 _ rfl (w.heap.size + 1) 0 rfl q.parts _ HQw2.out.range Tryd.underlying24 rfl (patchInfo q) ?_)
      | (refine wpList_load_midG (by kernel_rfl) 24 _ rfl (w.heap.size + 2) 0 rfl r.parts _ HRw2.out.range Tryd.underlying24 rfl (patchInfo r) ?_)
      | fail)
  have HC := Lib.hid (Light_E q _ H1.out w2 ((HQO.out.below HBw2.out).more HBw2.out.size))
  refine (HC.out).mono ?_
  rintro r w3 ⟨rfl, hb⟩
  clear HC
  have HPw3 := Lib.hid (HPw2.out.below hb HPw2.out.lt)
  have HQw3 := Lib.hid (HQw2.out.below hb HQw2.out.lt)
  have HRw3 := Lib.hid (HRw2.out.below hb HRw2.out.lt)
  have HBw3 := Lib.hid (HBw2.out.trans (hb.mono HBw2.out.size))
  have HTw3 := Lib.hid (HTB.out.below HBw3.out HTB.out.size)
  clear hb HPw2 HQw2 HRw2 HBw2 HTw2
  go_wp2_with (first
      | (refine wpList_load_midG (by kernel_rfl) 24 _ rfl w.heap.size 0 rfl p.parts _ HPw3.out.range Tryd.underlying24 rfl (patchInfo p) ?_)
      | (refine wpList_load_midG (by kernel_rfl) 24 _ rfl (w.heap.size + 1) 0 rfl q.parts _ HQw3.out.range Tryd.underlying24 rfl (patchInfo q) ?_)
      | (refine wpList_load_midG (by kernel_rfl) 24 _ rfl (w.heap.size + 2) 0 rfl r.parts _ HRw3.out.range Tryd.underlying24 rfl (patchInfo r) ?_)
      | fail)
  have HC := Lib.hid (Light_E r _ H2.out w3 ((HRO.out.below HBw3.out).more HBw3.out.size))
  refine (HC.out).mono ?_
  rintro r w4 ⟨rfl, hb⟩
  clear HC
  have HPw4 := Lib.hid (HPw3.out.below hb HPw3.out.lt)
  have HQw4 := Lib.hid (HQw3.out.below hb HQw3.out.lt)
  have HRw4 := Lib.hid (HRw3.out.below hb HRw3.out.lt)
  have HBw4 := Lib.hid (HBw3.out.trans (hb.mono HBw3.out.size))
  have HTw4 := Lib.hid (HTB.out.below HBw4.out HTB.out.size)
  clear hb HPw3 HQw3 HRw3 HBw3 HTw3
  go_wp2
  go_ret
  exact ⟨rfl, HBw4.out⟩

set_option maxHeartbeats 8000000 in
set_option maxRecDepth 100000 in
theorem exit3 (p q r : PatchD) (w : World) (hp : p.Ok w w.heap.size) (hq : q.Ok w w.heap.size) (hr : r.Ok w w.heap.size) (ht : Tabs w) (h0 : lightB p = true) (h1 : lightB q = true) (h2 : lightB r = true) (h3 : rightPB p = false) :
    Calls Tryd.prog 5 #[.agg p.parts.toArray, .agg q.parts.toArray, .agg r.parts.toArray] w fun r w' => r = .returned (.bool true) ∧ Below w.heap.size w w' := by
  have HTB := Lib.hid ht
  have HPO := Lib.hid hp
  have HQO := Lib.hid hq
  have HRO := Lib.hid hr
  have H3 := Lib.hid h3; clear h3
  have H2 := Lib.hid h2; clear h2
  have H1 := Lib.hid h1; clear h1
  have H0 := Lib.hid h0; clear h0
  have HZ0 : Hid (Below w.heap.size w (((w.alloc (.cells p.parts.toArray 24)).alloc (.cells q.parts.toArray 24)).alloc (.cells r.parts.toArray 24))) := Lib.hid ((((Below.refl _ _).alloc (Nat.le_refl _) _).alloc (by simp) _).alloc (by simp; omega) _)
  have HZP : Hid (Blk (((w.alloc (.cells p.parts.toArray 24)).alloc (.cells q.parts.toArray 24)).alloc (.cells r.parts.toArray 24)) w.heap.size 24 p.parts.toArray) := Lib.hid (((Blk.new w 24 _).alloc _).alloc _)
  have HZQ : Hid (Blk (((w.alloc (.cells p.parts.toArray 24)).alloc (.cells q.parts.toArray 24)).alloc (.cells r.parts.toArray 24)) (w.heap.size + 1) 24 q.parts.toArray) := Lib.hid ((Blk.newAt (by simp)).alloc _)
  have HZR : Hid (Blk (((w.alloc (.cells p.parts.toArray 24)).alloc (.cells q.parts.toArray 24)).alloc (.cells r.parts.toArray 24)) (w.heap.size + 2) 24 r.parts.toArray) := Lib.hid (Blk.newAt (by simp))
  clear hp hq hr ht
  go_enter Tryd.func5, Tryd.ntmps5
  go_wp2_with fail
  generalize (((w.alloc (.cells p.parts.toArray 24)).alloc (.cells q.parts.toArray 24)).alloc (.cells r.parts.toArray 24)) = w0 at HZ0 HZP HZQ HZR ⊢
  have hb := HZ0.out
  have HBw0 := Lib.hid hb
  have HTw0 := Lib.hid (HTB.out.below HBw0.out HTB.out.size)
  clear hb
  have HPw0 := HZP; have HQw0 := HZQ; have HRw0 := HZR; clear HZ0 HZP HZQ HZR
  go_wp2_with (first
      | (refine wpList_load_mid rfl 24 _ rfl w.heap.size 0 rfl p.parts _ HPw0.out.range Tryd.underlying24 rfl (patchInfo p) ?_)
      | (refine wpList_load_mid rfl 24 _ rfl (w.heap.size + 1) 0 rfl q.parts _ HQw0.out.range Tryd.underlying24 rfl (patchInfo q) ?_)
      | (refine wpList_load_mid rfl 24 _ rfl (w.heap.size + 2) 0 rfl r.parts _ HRw0.out.range Tryd.underlying24 rfl (patchInfo r) ?_)
      | fail)
  have HC := Lib.hid (Small_any w0 HTw0.out)
  refine (HC.out).mono ?_
  rintro r w1 ⟨rfl, hb⟩
  clear HC
  have HPw1 := Lib.hid (HPw0.out.below hb HPw0.out.lt)
  have HQw1 := Lib.hid (HQw0.out.below hb HQw0.out.lt)
  have HRw1 := Lib.hid (HRw0.out.below hb HRw0.out.lt)
  have HBw1 := Lib.hid (HBw0.out.trans (hb.mono HBw0.out.size))
  have HTw1 := Lib.hid (HTB.out.below HBw1.out HTB.out.size)
  clear hb HPw0 HQw0 HRw0 HBw0 HTw0
  go_wp2_with (first
      | (refine wpList_load_mid rfl 24 _ rfl w.heap.size 0 rfl p.parts _ HPw1.out.range Tryd.underlying24 rfl (patchInfo p) ?_)
      | (refine wpList_load_mid rfl 24 _ rfl (w.heap.size + 1) 0 rfl q.parts _ HQw1.out.range Tryd.underlying24 rfl (patchInfo q) ?_)
      | (refine wpList_load_mid rfl 24 _ rfl (w.heap.size + 2) 0 rfl r.parts _ HRw1.out.range Tryd.underlying24 rfl (patchInfo r) ?_)
      | fail)
  have HC := Lib.hid (Light_E p _ H0.out w1 ((HPO.out.below HBw1.out).more HBw1.out.size))
  refine (HC.out).mono ?_
  rintro r w2 ⟨rfl, hb⟩
  clear HC
  have HPw2 := Lib.hid (HPw1.out.below hb HPw1.out.lt)
  have HQw2 := Lib.hid (HQw1.out.below hb HQw1.out.lt)
  have HRw2 := Lib.hid (HRw1.out.below hb HRw1.out.lt)
  have HBw2 := Lib.hid (HBw1.out.trans (hb.mono HBw1.out.size))
  have HTw2 := Lib.hid (HTB.out.below HBw2.out HTB.out.size)
  clear hb HPw1 HQw1 HRw1 HBw1 HTw1
  go_wp2_with (first
      | (refine wpList_load_midG (by kernel_rfl) 24 _ rfl w.heap.size 0 rfl p.parts _ HPw2.out.range Tryd.underlying24 rfl (patchInfo p) ?_)
      | (refine wpList_load_midG (by kernel_rfl) 24 _ rfl (w.heap.size + 1) 0 rfl q.parts _ HQw2.out.range Tryd.underlying24 rfl (patchInfo q) ?_)
      | (refine wpList_load_midG (by kernel_rfl) 24 _ rfl (w.heap.size + 2) 0 rfl r.parts _ HRw2.out.range Tryd.underlying24 rfl (patchInfo r) ?_)
      | fail)
  have HC := Lib.hid (Light_E q _ H1.out w2 ((HQO.out.below HBw2.out).more HBw2.out.size))
  refine (HC.out).mono ?_
  rintro r w3 ⟨rfl, hb⟩
  clear HC
  have HPw3 := Lib.hid (HPw2.out.below hb HPw2.out.lt)
  have HQw3 := Lib.hid (HQw2.out.below hb HQw2.out.lt)
  have HRw3 := Lib.hid (HRw2.out.below hb HRw2.out.lt)
  have HBw3 := Lib.hid (HBw2.out.trans (hb.mono HBw2.out.size))
  have HTw3 := Lib.hid (HTB.out.below HBw3.out HTB.out.size)
  clear hb HPw2 HQw2 HRw2 HBw2 HTw2
  go_wp2_with (first
      | (refine wpList_load_midG (by kernel_rfl) 24 _ rfl w.heap.size 0 rfl p.parts _ HPw3.out.range Tryd.underlying24 rfl (patchInfo p) ?_)
      | (refine wpList_load_midG (by kernel_rfl) 24 _ rfl (w.heap.size + 1) 0 rfl q.parts _ HQw3.out.range Tryd.underlying24 rfl (patchInfo q) ?_)
      | (refine wpList_load_midG (by kernel_rfl) 24 _ rfl (w.heap.size + 2) 0 rfl r.parts _ HRw3.out.range Tryd.underlying24 rfl (patchInfo r) ?_)
      | fail)
  have HC := Lib.hid (Light_E r _ H2.out w3 ((HRO.out.below HBw3.out).more HBw3.out.size))
  refine (HC.out).mono ?_
  rintro r w4 ⟨rfl, hb⟩
  clear HC
  have HPw4 := Lib.hid (HPw3.out.below hb HPw3.out.lt)
  have HQw4 := Lib.hid (HQw3.out.below hb HQw3.out.lt)
  have HRw4 := Lib.hid (HRw3.out.below hb HRw3.out.lt)
  have HBw4 := Lib.hid (HBw3.out.trans (hb.mono HBw3.out.size))
  have HTw4 := Lib.hid (HTB.out.below HBw4.out HTB.out.size)
  clear hb HPw3 HQw3 HRw3 HBw3 HTw3
  go_wp2_with (first
      | (refine wpList_load_midG (by kernel_rfl) 24 _ rfl w.heap.size 0 rfl p.parts _ HPw4.out.range Tryd.underlying24 rfl (patchInfo p) ?_)
      | (refine wpList_load_midG (by kernel_rfl) 24 _ rfl (w.heap.size + 1) 0 rfl q.parts _ HQw4.out.range Tryd.underlying24 rfl (patchInfo q) ?_)
      | (refine wpList_load_midG (by kernel_rfl) 24 _ rfl (w.heap.size + 2) 0 rfl r.parts _ HRw4.out.range Tryd.underlying24 rfl (patchInfo r) ?_)
      | fail)
  have HC := Lib.hid (Right_E p _ H3.out w4 ((HPO.out.below HBw4.out).more HBw4.out.size))
  refine (HC.out).mono ?_
  rintro r w5 ⟨rfl, hb⟩
  clear HC
  have HPw5 := Lib.hid (HPw4.out.below hb HPw4.out.lt)
  have HQw5 := Lib.hid (HQw4.out.below hb HQw4.out.lt)
  have HRw5 := Lib.hid (HRw4.out.below hb HRw4.out.lt)
  have HBw5 := Lib.hid (HBw4.out.trans (hb.mono HBw4.out.size))
  have HTw5 := Lib.hid (HTB.out.below HBw5.out HTB.out.size)
  clear hb HPw4 HQw4 HRw4 HBw4 HTw4
  go_wp2
  go_ret
  exact ⟨rfl, HBw5.out⟩

set_option maxHeartbeats 8000000 in
set_option maxRecDepth 100000 in
theorem exit4 (p q r : PatchD) (w : World) (hp : p.Ok w w.heap.size) (hq : q.Ok w w.heap.size) (hr : r.Ok w w.heap.size) (ht : Tabs w) (h0 : lightB p = true) (h1 : lightB q = true) (h2 : lightB r = true) (h3 : rightPB p = true) (h4 : rightPB q = false) :
    Calls Tryd.prog 5 #[.agg p.parts.toArray, .agg q.parts.toArray, .agg r.parts.toArray] w fun r w' => r = .returned (.bool true) ∧ Below w.heap.size w w' := by
  have HTB := Lib.hid ht
  have HPO := Lib.hid hp
  have HQO := Lib.hid hq
  have HRO := Lib.hid hr
  have H4 := Lib.hid h4; clear h4
  have H3 := Lib.hid h3; clear h3
  have H2 := Lib.hid h2; clear h2
  have H1 := Lib.hid h1; clear h1
  have H0 := Lib.hid h0; clear h0
  have HZ0 : Hid (Below w.heap.size w (((w.alloc (.cells p.parts.toArray 24)).alloc (.cells q.parts.toArray 24)).alloc (.cells r.parts.toArray 24))) := Lib.hid ((((Below.refl _ _).alloc (Nat.le_refl _) _).alloc (by simp) _).alloc (by simp; omega) _)
  have HZP : Hid (Blk (((w.alloc (.cells p.parts.toArray 24)).alloc (.cells q.parts.toArray 24)).alloc (.cells r.parts.toArray 24)) w.heap.size 24 p.parts.toArray) := Lib.hid (((Blk.new w 24 _).alloc _).alloc _)
  have HZQ : Hid (Blk (((w.alloc (.cells p.parts.toArray 24)).alloc (.cells q.parts.toArray 24)).alloc (.cells r.parts.toArray 24)) (w.heap.size + 1) 24 q.parts.toArray) := Lib.hid ((Blk.newAt (by simp)).alloc _)
  have HZR : Hid (Blk (((w.alloc (.cells p.parts.toArray 24)).alloc (.cells q.parts.toArray 24)).alloc (.cells r.parts.toArray 24)) (w.heap.size + 2) 24 r.parts.toArray) := Lib.hid (Blk.newAt (by simp))
  clear hp hq hr ht
  go_enter Tryd.func5, Tryd.ntmps5
  go_wp2_with fail
  generalize (((w.alloc (.cells p.parts.toArray 24)).alloc (.cells q.parts.toArray 24)).alloc (.cells r.parts.toArray 24)) = w0 at HZ0 HZP HZQ HZR ⊢
  have hb := HZ0.out
  have HBw0 := Lib.hid hb
  have HTw0 := Lib.hid (HTB.out.below HBw0.out HTB.out.size)
  clear hb
  have HPw0 := HZP; have HQw0 := HZQ; have HRw0 := HZR; clear HZ0 HZP HZQ HZR
  go_wp2_with (first
      | (refine wpList_load_mid rfl 24 _ rfl w.heap.size 0 rfl p.parts _ HPw0.out.range Tryd.underlying24 rfl (patchInfo p) ?_)
      | (refine wpList_load_mid rfl 24 _ rfl (w.heap.size + 1) 0 rfl q.parts _ HQw0.out.range Tryd.underlying24 rfl (patchInfo q) ?_)
      | (refine wpList_load_mid rfl 24 _ rfl (w.heap.size + 2) 0 rfl r.parts _ HRw0.out.range Tryd.underlying24 rfl (patchInfo r) ?_)
      | fail)
  have HC := Lib.hid (Small_any w0 HTw0.out)
  refine (HC.out).mono ?_
  rintro r w1 ⟨rfl, hb⟩
  clear HC
  have HPw1 := Lib.hid (HPw0.out.below hb HPw0.out.lt)
  have HQw1 := Lib.hid (HQw0.out.below hb HQw0.out.lt)
  have HRw1 := Lib.hid (HRw0.out.below hb HRw0.out.lt)
  have HBw1 := Lib.hid (HBw0.out.trans (hb.mono HBw0.out.size))
  have HTw1 := Lib.hid (HTB.out.below HBw1.out HTB.out.size)
  clear hb HPw0 HQw0 HRw0 HBw0 HTw0
  go_wp2_with (first
      | (refine wpList_load_mid rfl 24 _ rfl w.heap.size 0 rfl p.parts _ HPw1.out.range Tryd.underlying24 rfl (patchInfo p) ?_)
      | (refine wpList_load_mid rfl 24 _ rfl (w.heap.size + 1) 0 rfl q.parts _ HQw1.out.range Tryd.underlying24 rfl (patchInfo q) ?_)
      | (refine wpList_load_mid rfl 24 _ rfl (w.heap.size + 2) 0 rfl r.parts _ HRw1.out.range Tryd.underlying24 rfl (patchInfo r) ?_)
      | fail)
  have HC := Lib.hid (Light_E p _ H0.out w1 ((HPO.out.below HBw1.out).more HBw1.out.size))
  refine (HC.out).mono ?_
  rintro r w2 ⟨rfl, hb⟩
  clear HC
  have HPw2 := Lib.hid (HPw1.out.below hb HPw1.out.lt)
  have HQw2 := Lib.hid (HQw1.out.below hb HQw1.out.lt)
  have HRw2 := Lib.hid (HRw1.out.below hb HRw1.out.lt)
  have HBw2 := Lib.hid (HBw1.out.trans (hb.mono HBw1.out.size))
  have HTw2 := Lib.hid (HTB.out.below HBw2.out HTB.out.size)
  clear hb HPw1 HQw1 HRw1 HBw1 HTw1
  go_wp2_with (first
      | (refine wpList_load_midG (by kernel_rfl) 24 _ rfl w.heap.size 0 rfl p.parts _ HPw2.out.range Tryd.underlying24 rfl (patchInfo p) ?_)
      | (refine wpList_load_midG (by kernel_rfl) 24 _ rfl (w.heap.size + 1) 0 rfl q.parts _ HQw2.out.range Tryd.underlying24 rfl (patchInfo q) ?_)
      | (refine wpList_load_midG (by kernel_rfl) 24 _ rfl (w.heap.size + 2) 0 rfl r.parts _ HRw2.out.range Tryd.underlying24 rfl (patchInfo r) ?_)
      | fail)
  have HC := Lib.hid (Light_E q _ H1.out w2 ((HQO.out.below HBw2.out).more HBw2.out.size))
  refine (HC.out).mono ?_
  rintro r w3 ⟨rfl, hb⟩
  clear HC
  have HPw3 := Lib.hid (HPw2.out.below hb HPw2.out.lt)
  have HQw3 := Lib.hid (HQw2.out.below hb HQw2.out.lt)
  have HRw3 := Lib.hid (HRw2.out.below hb HRw2.out.lt)
  have HBw3 := Lib.hid (HBw2.out.trans (hb.mono HBw2.out.size))
  have HTw3 := Lib.hid (HTB.out.below HBw3.out HTB.out.size)
  clear hb HPw2 HQw2 HRw2 HBw2 HTw2
  go_wp2_with (first
      | (refine wpList_load_midG (by kernel_rfl) 24 _ rfl w.heap.size 0 rfl p.parts _ HPw3.out.range Tryd.underlying24 rfl (patchInfo p) ?_)
      | (refine wpList_load_midG (by kernel_rfl) 24 _ rfl (w.heap.size + 1) 0 rfl q.parts _ HQw3.out.range Tryd.underlying24 rfl (patchInfo q) ?_)
      | (refine wpList_load_midG (by kernel_rfl) 24 _ rfl (w.heap.size + 2) 0 rfl r.parts _ HRw3.out.range Tryd.underlying24 rfl (patchInfo r) ?_)
      | fail)
  have HC := Lib.hid (Light_E r _ H2.out w3 ((HRO.out.below HBw3.out).more HBw3.out.size))
  refine (HC.out).mono ?_
  rintro r w4 ⟨rfl, hb⟩
  clear HC
  have HPw4 := Lib.hid (HPw3.out.below hb HPw3.out.lt)
  have HQw4 := Lib.hid (HQw3.out.below hb HQw3.out.lt)
  have HRw4 := Lib.hid (HRw3.out.below hb HRw3.out.lt)
  have HBw4 := Lib.hid (HBw3.out.trans (hb.mono HBw3.out.size))
  have HTw4 := Lib.hid (HTB.out.below HBw4.out HTB.out.size)
  clear hb HPw3 HQw3 HRw3 HBw3 HTw3
  go_wp2_with (first
      | (refine wpList_load_midG (by kernel_rfl) 24 _ rfl w.heap.size 0 rfl p.parts _ HPw4.out.range Tryd.underlying24 rfl (patchInfo p) ?_)
      | (refine wpList_load_midG (by kernel_rfl) 24 _ rfl (w.heap.size + 1) 0 rfl q.parts _ HQw4.out.range Tryd.underlying24 rfl (patchInfo q) ?_)
      | (refine wpList_load_midG (by kernel_rfl) 24 _ rfl (w.heap.size + 2) 0 rfl r.parts _ HRw4.out.range Tryd.underlying24 rfl (patchInfo r) ?_)
      | fail)
  have HC := Lib.hid (Right_E p _ H3.out w4 ((HPO.out.below HBw4.out).more HBw4.out.size))
  refine (HC.out).mono ?_
  rintro r w5 ⟨rfl, hb⟩
  clear HC
  have HPw5 := Lib.hid (HPw4.out.below hb HPw4.out.lt)
  have HQw5 := Lib.hid (HQw4.out.below hb HQw4.out.lt)
  have HRw5 := Lib.hid (HRw4.out.below hb HRw4.out.lt)
  have HBw5 := Lib.hid (HBw4.out.trans (hb.mono HBw4.out.size))
  have HTw5 := Lib.hid (HTB.out.below HBw5.out HTB.out.size)
  clear hb HPw4 HQw4 HRw4 HBw4 HTw4
  go_wp2_with (first
      | (refine wpList_load_midG (by kernel_rfl) 24 _ rfl w.heap.size 0 rfl p.parts _ HPw5.out.range Tryd.underlying24 rfl (patchInfo p) ?_)
      | (refine wpList_load_midG (by kernel_rfl) 24 _ rfl (w.heap.size + 1) 0 rfl q.parts _ HQw5.out.range Tryd.underlying24 rfl (patchInfo q) ?_)
      | (refine wpList_load_midG (by kernel_rfl) 24 _ rfl (w.heap.size + 2) 0 rfl r.parts _ HRw5.out.range Tryd.underlying24 rfl (patchInfo r) ?_)
      | fail)
  have HC := Lib.hid (Right_E q _ H4.out w5 ((HQO.out.below HBw5.out).more HBw5.out.size))
  refine (HC.out).mono ?_
  rintro r w6 ⟨rfl, hb⟩
  clear HC
  have HPw6 := Lib.hid (HPw5.out.below hb HPw5.out.lt)
  have HQw6 := Lib.hid (HQw5.out.below hb HQw5.out.lt)
  have HRw6 := Lib.hid (HRw5.out.below hb HRw5.out.lt)
  have HBw6 := Lib.hid (HBw5.out.trans (hb.mono HBw5.out.size))
  have HTw6 := Lib.hid (HTB.out.below HBw6.out HTB.out.size)
  clear hb HPw5 HQw5 HRw5 HBw5 HTw5
  go_wp2
  go_ret
  exact ⟨rfl, HBw6.out⟩

set_option maxHeartbeats 8000000 in
set_option maxRecDepth 100000 in
theorem exit5 (p q r : PatchD) (w : World) (hp : p.Ok w w.heap.size) (hq : q.Ok w w.heap.size) (hr : r.Ok w w.heap.size) (ht : Tabs w) (h0 : lightB p = true) (h1 : lightB q = true) (h2 : lightB r = true) (h3 : rightPB p = true) (h4 : rightPB q = true) (h5 : rightPB r = false) :
    Calls Tryd.prog 5 #[.agg p.parts.toArray, .agg q.parts.toArray, .agg r.parts.toArray] w fun r w' => r = .returned (.bool true) ∧ Below w.heap.size w w' := by
  have HTB := Lib.hid ht
  have HPO := Lib.hid hp
  have HQO := Lib.hid hq
  have HRO := Lib.hid hr
  have H5 := Lib.hid h5; clear h5
  have H4 := Lib.hid h4; clear h4
  have H3 := Lib.hid h3; clear h3
  have H2 := Lib.hid h2; clear h2
  have H1 := Lib.hid h1; clear h1
  have H0 := Lib.hid h0; clear h0
  have HZ0 : Hid (Below w.heap.size w (((w.alloc (.cells p.parts.toArray 24)).alloc (.cells q.parts.toArray 24)).alloc (.cells r.parts.toArray 24))) := Lib.hid ((((Below.refl _ _).alloc (Nat.le_refl _) _).alloc (by simp) _).alloc (by simp; omega) _)
  have HZP : Hid (Blk (((w.alloc (.cells p.parts.toArray 24)).alloc (.cells q.parts.toArray 24)).alloc (.cells r.parts.toArray 24)) w.heap.size 24 p.parts.toArray) := Lib.hid (((Blk.new w 24 _).alloc _).alloc _)
  have HZQ : Hid (Blk (((w.alloc (.cells p.parts.toArray 24)).alloc (.cells q.parts.toArray 24)).alloc (.cells r.parts.toArray 24)) (w.heap.size + 1) 24 q.parts.toArray) := Lib.hid ((Blk.newAt (by simp)).alloc _)
  have HZR : Hid (Blk (((w.alloc (.cells p.parts.toArray 24)).alloc (.cells q.parts.toArray 24)).alloc (.cells r.parts.toArray 24)) (w.heap.size + 2) 24 r.parts.toArray) := Lib.hid (Blk.newAt (by simp))
  clear hp hq hr ht
  go_enter Tryd.func5, Tryd.ntmps5
  go_wp2_with fail
  generalize (((w.alloc (.cells p.parts.toArray 24)).alloc (.cells q.parts.toArray 24)).alloc (.cells r.parts.toArray 24)) = w0 at HZ0 HZP HZQ HZR ⊢
  have hb := HZ0.out
  have HBw0 := Lib.hid hb
  have HTw0 := Lib.hid (HTB.out.below HBw0.out HTB.out.size)
  clear hb
  have HPw0 := HZP; have HQw0 := HZQ; have HRw0 := HZR; clear HZ0 HZP HZQ HZR
  go_wp2_with (first
      | (refine wpList_load_mid rfl 24 _ rfl w.heap.size 0 rfl p.parts _ HPw0.out.range Tryd.underlying24 rfl (patchInfo p) ?_)
      | (refine wpList_load_mid rfl 24 _ rfl (w.heap.size + 1) 0 rfl q.parts _ HQw0.out.range Tryd.underlying24 rfl (patchInfo q) ?_)
      | (refine wpList_load_mid rfl 24 _ rfl (w.heap.size + 2) 0 rfl r.parts _ HRw0.out.range Tryd.underlying24 rfl (patchInfo r) ?_)
      | fail)
  have HC := Lib.hid (Small_any w0 HTw0.out)
  refine (HC.out).mono ?_
  rintro r w1 ⟨rfl, hb⟩
  clear HC
  have HPw1 := Lib.hid (HPw0.out.below hb HPw0.out.lt)
  have HQw1 := Lib.hid (HQw0.out.below hb HQw0.out.lt)
  have HRw1 := Lib.hid (HRw0.out.below hb HRw0.out.lt)
  have HBw1 := Lib.hid (HBw0.out.trans (hb.mono HBw0.out.size))
  have HTw1 := Lib.hid (HTB.out.below HBw1.out HTB.out.size)
  clear hb HPw0 HQw0 HRw0 HBw0 HTw0
  go_wp2_with (first
      | (refine wpList_load_mid rfl 24 _ rfl w.heap.size 0 rfl p.parts _ HPw1.out.range Tryd.underlying24 rfl (patchInfo p) ?_)
      | (refine wpList_load_mid rfl 24 _ rfl (w.heap.size + 1) 0 rfl q.parts _ HQw1.out.range Tryd.underlying24 rfl (patchInfo q) ?_)
      | (refine wpList_load_mid rfl 24 _ rfl (w.heap.size + 2) 0 rfl r.parts _ HRw1.out.range Tryd.underlying24 rfl (patchInfo r) ?_)
      | fail)
  have HC := Lib.hid (Light_E p _ H0.out w1 ((HPO.out.below HBw1.out).more HBw1.out.size))
  refine (HC.out).mono ?_
  rintro r w2 ⟨rfl, hb⟩
  clear HC
  have HPw2 := Lib.hid (HPw1.out.below hb HPw1.out.lt)
  have HQw2 := Lib.hid (HQw1.out.below hb HQw1.out.lt)
  have HRw2 := Lib.hid (HRw1.out.below hb HRw1.out.lt)
  have HBw2 := Lib.hid (HBw1.out.trans (hb.mono HBw1.out.size))
  have HTw2 := Lib.hid (HTB.out.below HBw2.out HTB.out.size)
  clear hb HPw1 HQw1 HRw1 HBw1 HTw1
  go_wp2_with (first
      | (refine wpList_load_midG (by kernel_rfl) 24 _ rfl w.heap.size 0 rfl p.parts _ HPw2.out.range Tryd.underlying24 rfl (patchInfo p) ?_)
      | (refine wpList_load_midG (by kernel_rfl) 24 _ rfl (w.heap.size + 1) 0 rfl q.parts _ HQw2.out.range Tryd.underlying24 rfl (patchInfo q) ?_)
      | (refine wpList_load_midG (by kernel_rfl) 24 _ rfl (w.heap.size + 2) 0 rfl r.parts _ HRw2.out.range Tryd.underlying24 rfl (patchInfo r) ?_)
      | fail)
  have HC := Lib.hid (Light_E q _ H1.out w2 ((HQO.out.below HBw2.out).more HBw2.out.size))
  refine (HC.out).mono ?_
  rintro r w3 ⟨rfl, hb⟩
  clear HC
  have HPw3 := Lib.hid (HPw2.out.below hb HPw2.out.lt)
  have HQw3 := Lib.hid (HQw2.out.below hb HQw2.out.lt)
  have HRw3 := Lib.hid (HRw2.out.below hb HRw2.out.lt)
  have HBw3 := Lib.hid (HBw2.out.trans (hb.mono HBw2.out.size))
  have HTw3 := Lib.hid (HTB.out.below HBw3.out HTB.out.size)
  clear hb HPw2 HQw2 HRw2 HBw2 HTw2
  go_wp2_with (first
      | (refine wpList_load_midG (by kernel_rfl) 24 _ rfl w.heap.size 0 rfl p.parts _ HPw3.out.range Tryd.underlying24 rfl (patchInfo p) ?_)
      | (refine wpList_load_midG (by kernel_rfl) 24 _ rfl (w.heap.size + 1) 0 rfl q.parts _ HQw3.out.range Tryd.underlying24 rfl (patchInfo q) ?_)
      | (refine wpList_load_midG (by kernel_rfl) 24 _ rfl (w.heap.size + 2) 0 rfl r.parts _ HRw3.out.range Tryd.underlying24 rfl (patchInfo r) ?_)
      | fail)
  have HC := Lib.hid (Light_E r _ H2.out w3 ((HRO.out.below HBw3.out).more HBw3.out.size))
  refine (HC.out).mono ?_
  rintro r w4 ⟨rfl, hb⟩
  clear HC
  have HPw4 := Lib.hid (HPw3.out.below hb HPw3.out.lt)
  have HQw4 := Lib.hid (HQw3.out.below hb HQw3.out.lt)
  have HRw4 := Lib.hid (HRw3.out.below hb HRw3.out.lt)
  have HBw4 := Lib.hid (HBw3.out.trans (hb.mono HBw3.out.size))
  have HTw4 := Lib.hid (HTB.out.below HBw4.out HTB.out.size)
  clear hb HPw3 HQw3 HRw3 HBw3 HTw3
  go_wp2_with (first
      | (refine wpList_load_midG (by kernel_rfl) 24 _ rfl w.heap.size 0 rfl p.parts _ HPw4.out.range Tryd.underlying24 rfl (patchInfo p) ?_)
      | (refine wpList_load_midG (by kernel_rfl) 24 _ rfl (w.heap.size + 1) 0 rfl q.parts _ HQw4.out.range Tryd.underlying24 rfl (patchInfo q) ?_)
      | (refine wpList_load_midG (by kernel_rfl) 24 _ rfl (w.heap.size + 2) 0 rfl r.parts _ HRw4.out.range Tryd.underlying24 rfl (patchInfo r) ?_)
      | fail)
  have HC := Lib.hid (Right_E p _ H3.out w4 ((HPO.out.below HBw4.out).more HBw4.out.size))
  refine (HC.out).mono ?_
  rintro r w5 ⟨rfl, hb⟩
  clear HC
  have HPw5 := Lib.hid (HPw4.out.below hb HPw4.out.lt)
  have HQw5 := Lib.hid (HQw4.out.below hb HQw4.out.lt)
  have HRw5 := Lib.hid (HRw4.out.below hb HRw4.out.lt)
  have HBw5 := Lib.hid (HBw4.out.trans (hb.mono HBw4.out.size))
  have HTw5 := Lib.hid (HTB.out.below HBw5.out HTB.out.size)
  clear hb HPw4 HQw4 HRw4 HBw4 HTw4
  go_wp2_with (first
      | (refine wpList_load_midG (by kernel_rfl) 24 _ rfl w.heap.size 0 rfl p.parts _ HPw5.out.range Tryd.underlying24 rfl (patchInfo p) ?_)
      | (refine wpList_load_midG (by kernel_rfl) 24 _ rfl (w.heap.size + 1) 0 rfl q.parts _ HQw5.out.range Tryd.underlying24 rfl (patchInfo q) ?_)
      | (refine wpList_load_midG (by kernel_rfl) 24 _ rfl (w.heap.size + 2) 0 rfl r.parts _ HRw5.out.range Tryd.underlying24 rfl (patchInfo r) ?_)
      | fail)
  have HC := Lib.hid (Right_E q _ H4.out w5 ((HQO.out.below HBw5.out).more HBw5.out.size))
  refine (HC.out).mono ?_
  rintro r w6 ⟨rfl, hb⟩
  clear HC
  have HPw6 := Lib.hid (HPw5.out.below hb HPw5.out.lt)
  have HQw6 := Lib.hid (HQw5.out.below hb HQw5.out.lt)
  have HRw6 := Lib.hid (HRw5.out.below hb HRw5.out.lt)
  have HBw6 := Lib.hid (HBw5.out.trans (hb.mono HBw5.out.size))
  have HTw6 := Lib.hid (HTB.out.below HBw6.out HTB.out.size)
  clear hb HPw5 HQw5 HRw5 HBw5 HTw5
  go_wp2_with (first
      | (refine wpList_load_midG (by kernel_rfl) 24 _ rfl w.heap.size 0 rfl p.parts _ HPw6.out.range Tryd.underlying24 rfl (patchInfo p) ?_)
      | (refine wpList_load_midG (by kernel_rfl) 24 _ rfl (w.heap.size + 1) 0 rfl q.parts _ HQw6.out.range Tryd.underlying24 rfl (patchInfo q) ?_)
      | (refine wpList_load_midG (by kernel_rfl) 24 _ rfl (w.heap.size + 2) 0 rfl r.parts _ HRw6.out.range Tryd.underlying24 rfl (patchInfo r) ?_)
      | fail)
  have HC := Lib.hid (Right_E r _ H5.out w6 ((HRO.out.below HBw6.out).more HBw6.out.size))
  refine (HC.out).mono ?_
  rintro r w7 ⟨rfl, hb⟩
  clear HC
  have HPw7 := Lib.hid (HPw6.out.below hb HPw6.out.lt)
  have HQw7 := Lib.hid (HQw6.out.below hb HQw6.out.lt)
  have HRw7 := Lib.hid (HRw6.out.below hb HRw6.out.lt)
  have HBw7 := Lib.hid (HBw6.out.trans (hb.mono HBw6.out.size))
  have HTw7 := Lib.hid (HTB.out.below HBw7.out HTB.out.size)
  clear hb HPw6 HQw6 HRw6 HBw6 HTw6
  go_wp2
  go_ret
  exact ⟨rfl, HBw7.out⟩

set_option maxHeartbeats 16000000 in
set_option maxRecDepth 100000 in
theorem main (p q r : PatchD) (w : World) (hp : p.Ok w w.heap.size) (hq : q.Ok w w.heap.size) (hr : r.Ok w w.heap.size) (ht : Tabs w) (h0 : lightB p = true) (h1 : lightB q = true) (h2 : lightB r = true) (h3 : rightPB p = true) (h4 : rightPB q = true) (h5 : rightPB r = true) (RA RB : PD) (EA EB : Int) (hEA : EA = 0 ∨ EA = 2 ∨ EA = 7) (hEB : EB = 0 ∨ EB = 2 ∨ EB = 7) (hRA : EA = 0 → rightPD RA = true) (hJ1 : joinR p.pd (PatchD.mk p.to_ q.to_ q.A q.c q.edits).pd = (RA, EA)) (hJ2 : joinR (PatchD.mk p.to_ q.to_ q.A q.c q.edits).pd (PatchD.mk q.to_ r.to_ r.A r.c r.edits).pd = (RB, EB)) (hJA : 0 < totalI p.edits → joinR p.pd ⟨p.to_, p.to_, [⟨0, totalI p.edits, []⟩]⟩ = (⟨p.from_, p.to_, compactL p.edits⟩, 0)) (hJK : EA = 0 → EB = 0 → joinR RA (PatchD.mk q.to_ r.to_ r.A r.c r.edits).pd = joinR p.pd RB ∧ totalI RA.edits = totalI q.edits) :
    Calls Tryd.prog 5 #[.agg p.parts.toArray, .agg q.parts.toArray, .agg r.parts.toArray] w fun r w' => r = .returned (.bool true) ∧ Below w.heap.size w w' := by
  have HTB := Lib.hid ht
  have HPO := Lib.hid hp
  have HQO := Lib.hid hq
  have HRO := Lib.hid hr
  have H0 := Lib.hid h0; have H1 := Lib.hid h1; have H2 := Lib.hid h2; have H3 := Lib.hid h3; have H4 := Lib.hid h4; have H5 := Lib.hid h5
  have HQ2O : Hid (PatchD.Ok w w.heap.size ⟨p.to_, q.to_, q.A, q.c, q.edits⟩) := Lib.hid ⟨hp.to_, hq.to_, hq.len, hq.cells, hq.edits⟩
  have HR2O : Hid (PatchD.Ok w w.heap.size ⟨q.to_, r.to_, r.A, r.c, r.edits⟩) := Lib.hid ⟨hq.to_, hr.to_, hr.len, hr.cells, hr.edits⟩
  have HRP := Lib.hid (rightPB_edits h3)
  have HRQ := Lib.hid (rightPB_edits h4)
  have HTP : Hid (totalI p.edits ≤ 16777216) := Lib.hid (((rightPD_iff p.pd).1 h3).total)
  have HTQ : Hid (totalI q.edits ≤ 16777216) := Lib.hid (((rightPD_iff q.pd).1 h4).total)
  have HT0 : Hid (0 ≤ totalI p.edits) := Lib.hid (by have := EOk.length_le (es := p.edits) (fun e h => rightE_EOk (HRP.out e h)); omega)
  have HPL : Hid (p.edits.length ≤ 16777216) := Lib.hid (by have := EOk.length_le (es := p.edits) (fun e h => rightE_EOk (HRP.out e h)); have := HTP.out; omega)
  have HJ1 := Lib.hid hJ1; have HJ2 := Lib.hid hJ2; have HJA := Lib.hid hJA; have HJK := Lib.hid hJK; have HEA := Lib.hid hEA; have HEB := Lib.hid hEB; have HRA := Lib.hid hRA
  obtain ⟨T, hT⟩ : ∃ T, totalI p.edits = T := ⟨_, rfl⟩
  obtain ⟨PF, hPF⟩ : ∃ l, p.from_ = l := ⟨_, rfl⟩
  obtain ⟨PT, hPT⟩ : ∃ l, p.to_ = l := ⟨_, rfl⟩
  have HT := Lib.hid hT; have HPF := Lib.hid hPF; have HPT := Lib.hid hPT
  rw [hT] at HT0
  have ht0 := HT0.out
  have ht1 : T ≤ 16777216 := by rw [← hT]; exact HTP.out
  clear h0 h1 h2 h3 h4 h5 hEA hEB hRA hJ1 hJ2 hJA hJK hT hPF hPT HT0
  have HZ0 : Hid (Below w.heap.size w (((w.alloc (.cells p.parts.toArray 24)).alloc (.cells q.parts.toArray 24)).alloc (.cells r.parts.toArray 24))) := Lib.hid ((((Below.refl _ _).alloc (Nat.le_refl _) _).alloc (by simp) _).alloc (by simp; omega) _)
  have HZP : Hid (Blk (((w.alloc (.cells p.parts.toArray 24)).alloc (.cells q.parts.toArray 24)).alloc (.cells r.parts.toArray 24)) w.heap.size 24 p.parts.toArray) := Lib.hid (((Blk.new w 24 _).alloc _).alloc _)
  have HZQ : Hid (Blk (((w.alloc (.cells p.parts.toArray 24)).alloc (.cells q.parts.toArray 24)).alloc (.cells r.parts.toArray 24)) (w.heap.size + 1) 24 q.parts.toArray) := Lib.hid ((Blk.newAt (by simp)).alloc _)
  have HZR : Hid (Blk (((w.alloc (.cells p.parts.toArray 24)).alloc (.cells q.parts.toArray 24)).alloc (.cells r.parts.toArray 24)) (w.heap.size + 2) 24 r.parts.toArray) := Lib.hid (Blk.newAt (by simp))
  clear hp hq hr ht
  go_enter Tryd.func5, Tryd.ntmps5
  go_wp2_with fail
  generalize (((w.alloc (.cells p.parts.toArray 24)).alloc (.cells q.parts.toArray 24)).alloc (.cells r.parts.toArray 24)) = w0 at HZ0 HZP HZQ HZR ⊢
  have hb := HZ0.out
  have HBw0 := Lib.hid hb
  have HTw0 := Lib.hid (HTB.out.below HBw0.out HTB.out.size)
  clear hb
  have HPw0 := HZP; have HQw0 := HZQ; have HRw0 := HZR; clear HZ0 HZP HZQ HZR
  go_wp2_with (first
      | (refine wpList_load_mid rfl 24 _ rfl w.heap.size 0 rfl p.parts _ HPw0.out.range Tryd.underlying24 rfl (patchInfo p) ?_)
      | (refine wpList_load_mid rfl 24 _ rfl (w.heap.size + 1) 0 rfl q.parts _ HQw0.out.range Tryd.underlying24 rfl (patchInfo q) ?_)
      | (refine wpList_load_mid rfl 24 _ rfl (w.heap.size + 2) 0 rfl r.parts _ HRw0.out.range Tryd.underlying24 rfl (patchInfo r) ?_)
      | fail)
  have HC := Lib.hid (Small_any w0 HTw0.out)
  refine (HC.out).mono ?_
  rintro r w1 ⟨rfl, hb⟩
  clear HC
  have HPw1 := Lib.hid (HPw0.out.below hb HPw0.out.lt)
  have HQw1 := Lib.hid (HQw0.out.below hb HQw0.out.lt)
  have HRw1 := Lib.hid (HRw0.out.below hb HRw0.out.lt)
  have HBw1 := Lib.hid (HBw0.out.trans (hb.mono HBw0.out.size))
  have HTw1 := Lib.hid (HTB.out.below HBw1.out HTB.out.size)
  clear hb HPw0 HQw0 HRw0 HBw0 HTw0
  go_wp2_with (first
      | (refine wpList_load_mid rfl 24 _ rfl w.heap.size 0 rfl p.parts _ HPw1.out.range Tryd.underlying24 rfl (patchInfo p) ?_)
      | (refine wpList_load_mid rfl 24 _ rfl (w.heap.size + 1) 0 rfl q.parts _ HQw1.out.range Tryd.underlying24 rfl (patchInfo q) ?_)
      | (refine wpList_load_mid rfl 24 _ rfl (w.heap.size + 2) 0 rfl r.parts _ HRw1.out.range Tryd.underlying24 rfl (patchInfo r) ?_)
      | fail)
  have HC := Lib.hid (Light_E p _ H0.out w1 ((HPO.out.below HBw1.out).more HBw1.out.size))
  refine (HC.out).mono ?_
  rintro r w2 ⟨rfl, hb⟩
  clear HC
  have HPw2 := Lib.hid (HPw1.out.below hb HPw1.out.lt)
  have HQw2 := Lib.hid (HQw1.out.below hb HQw1.out.lt)
  have HRw2 := Lib.hid (HRw1.out.below hb HRw1.out.lt)
  have HBw2 := Lib.hid (HBw1.out.trans (hb.mono HBw1.out.size))
  have HTw2 := Lib.hid (HTB.out.below HBw2.out HTB.out.size)
  clear hb HPw1 HQw1 HRw1 HBw1 HTw1
  go_wp2_with (first
      | (refine wpList_load_midG (by kernel_rfl) 24 _ rfl w.heap.size 0 rfl p.parts _ HPw2.out.range Tryd.underlying24 rfl (patchInfo p) ?_)
      | (refine wpList_load_midG (by kernel_rfl) 24 _ rfl (w.heap.size + 1) 0 rfl q.parts _ HQw2.out.range Tryd.underlying24 rfl (patchInfo q) ?_)
      | (refine wpList_load_midG (by kernel_rfl) 24 _ rfl (w.heap.size + 2) 0 rfl r.parts _ HRw2.out.range Tryd.underlying24 rfl (patchInfo r) ?_)
      | fail)
  have HC := Lib.hid (Light_E q _ H1.out w2 ((HQO.out.below HBw2.out).more HBw2.out.size))
  refine (HC.out).mono ?_
  rintro r w3 ⟨rfl, hb⟩
  clear HC
  have HPw3 := Lib.hid (HPw2.out.below hb HPw2.out.lt)
  have HQw3 := Lib.hid (HQw2.out.below hb HQw2.out.lt)
  have HRw3 := Lib.hid (HRw2.out.below hb HRw2.out.lt)
  have HBw3 := Lib.hid (HBw2.out.trans (hb.mono HBw2.out.size))
  have HTw3 := Lib.hid (HTB.out.below HBw3.out HTB.out.size)
  clear hb HPw2 HQw2 HRw2 HBw2 HTw2
  go_wp2_with (first
      | (refine wpList_load_midG (by kernel_rfl) 24 _ rfl w.heap.size 0 rfl p.parts _ HPw3.out.range Tryd.underlying24 rfl (patchInfo p) ?_)
      | (refine wpList_load_midG (by kernel_rfl) 24 _ rfl (w.heap.size + 1) 0 rfl q.parts _ HQw3.out.range Tryd.underlying24 rfl (patchInfo q) ?_)
      | (refine wpList_load_midG (by kernel_rfl) 24 _ rfl (w.heap.size + 2) 0 rfl r.parts _ HRw3.out.range Tryd.underlying24 rfl (patchInfo r) ?_)
      | fail)
  have HC := Lib.hid (Light_E r _ H2.out w3 ((HRO.out.below HBw3.out).more HBw3.out.size))
  refine (HC.out).mono ?_
  rintro r w4 ⟨rfl, hb⟩
  clear HC
  have HPw4 := Lib.hid (HPw3.out.below hb HPw3.out.lt)
  have HQw4 := Lib.hid (HQw3.out.below hb HQw3.out.lt)
  have HRw4 := Lib.hid (HRw3.out.below hb HRw3.out.lt)
  have HBw4 := Lib.hid (HBw3.out.trans (hb.mono HBw3.out.size))
  have HTw4 := Lib.hid (HTB.out.below HBw4.out HTB.out.size)
  clear hb HPw3 HQw3 HRw3 HBw3 HTw3
  go_wp2_with (first
      | (refine wpList_load_midG (by kernel_rfl) 24 _ rfl w.heap.size 0 rfl p.parts _ HPw4.out.range Tryd.underlying24 rfl (patchInfo p) ?_)
      | (refine wpList_load_midG (by kernel_rfl) 24 _ rfl (w.heap.size + 1) 0 rfl q.parts _ HQw4.out.range Tryd.underlying24 rfl (patchInfo q) ?_)
      | (refine wpList_load_midG (by kernel_rfl) 24 _ rfl (w.heap.size + 2) 0 rfl r.parts _ HRw4.out.range Tryd.underlying24 rfl (patchInfo r) ?_)
      | fail)
  have HC := Lib.hid (Right_E p _ H3.out w4 ((HPO.out.below HBw4.out).more HBw4.out.size))
  refine (HC.out).mono ?_
  rintro r w5 ⟨rfl, hb⟩
  clear HC
  have HPw5 := Lib.hid (HPw4.out.below hb HPw4.out.lt)
  have HQw5 := Lib.hid (HQw4.out.below hb HQw4.out.lt)
  have HRw5 := Lib.hid (HRw4.out.below hb HRw4.out.lt)
  have HBw5 := Lib.hid (HBw4.out.trans (hb.mono HBw4.out.size))
  have HTw5 := Lib.hid (HTB.out.below HBw5.out HTB.out.size)
  clear hb HPw4 HQw4 HRw4 HBw4 HTw4
  go_wp2_with (first
      | (refine wpList_load_midG (by kernel_rfl) 24 _ rfl w.heap.size 0 rfl p.parts _ HPw5.out.range Tryd.underlying24 rfl (patchInfo p) ?_)
      | (refine wpList_load_midG (by kernel_rfl) 24 _ rfl (w.heap.size + 1) 0 rfl q.parts _ HQw5.out.range Tryd.underlying24 rfl (patchInfo q) ?_)
      | (refine wpList_load_midG (by kernel_rfl) 24 _ rfl (w.heap.size + 2) 0 rfl r.parts _ HRw5.out.range Tryd.underlying24 rfl (patchInfo r) ?_)
      | fail)
  have HC := Lib.hid (Right_E q _ H4.out w5 ((HQO.out.below HBw5.out).more HBw5.out.size))
  refine (HC.out).mono ?_
  rintro r w6 ⟨rfl, hb⟩
  clear HC
  have HPw6 := Lib.hid (HPw5.out.below hb HPw5.out.lt)
  have HQw6 := Lib.hid (HQw5.out.below hb HQw5.out.lt)
  have HRw6 := Lib.hid (HRw5.out.below hb HRw5.out.lt)
  have HBw6 := Lib.hid (HBw5.out.trans (hb.mono HBw5.out.size))
  have HTw6 := Lib.hid (HTB.out.below HBw6.out HTB.out.size)
  clear hb HPw5 HQw5 HRw5 HBw5 HTw5
  go_wp2_with (first
      | (refine wpList_load_midG (by kernel_rfl) 24 _ rfl w.heap.size 0 rfl p.parts _ HPw6.out.range Tryd.underlying24 rfl (patchInfo p) ?_)
      | (refine wpList_load_midG (by kernel_rfl) 24 _ rfl (w.heap.size + 1) 0 rfl q.parts _ HQw6.out.range Tryd.underlying24 rfl (patchInfo q) ?_)
      | (refine wpList_load_midG (by kernel_rfl) 24 _ rfl (w.heap.size + 2) 0 rfl r.parts _ HRw6.out.range Tryd.underlying24 rfl (patchInfo r) ?_)
      | fail)
  have HC := Lib.hid (Right_E r _ H5.out w6 ((HRO.out.below HBw6.out).more HBw6.out.size))
  refine (HC.out).mono ?_
  rintro r w7 ⟨rfl, hb⟩
  clear HC
  have HPw7 := Lib.hid (HPw6.out.below hb HPw6.out.lt)
  have HQw7 := Lib.hid (HQw6.out.below hb HQw6.out.lt)
  have HRw7 := Lib.hid (HRw6.out.below hb HRw6.out.lt)
  have HBw7 := Lib.hid (HBw6.out.trans (hb.mono HBw6.out.size))
  have HTw7 := Lib.hid (HTB.out.below HBw7.out HTB.out.size)
  clear hb HPw6 HQw6 HRw6 HBw6 HTw6
  have c1 : w7.cell? ⟨w.heap.size, 1, none⟩ = some (.string ⟨p.to_.toArray⟩) := HPw7.out.cell 1
  have c2 : w7.cell? ⟨w.heap.size + 1, 0, none⟩ = some (.string ⟨q.from_.toArray⟩) := HQw7.out.cell 0
  have f2 := HQw7.out.frozen 0
  go_upto_region 5 with (fail)
  have HPx : Hid (Blk (w7.setCell ⟨w.heap.size + 1, 0, none⟩ (.string ⟨p.to_.toArray⟩)) w.heap.size 24 p.parts.toArray) := Lib.hid (HPw7.out.far (p := ⟨w.heap.size + 1, 0, none⟩) (by show w.heap.size ≠ w.heap.size + 1; omega) _)
  have HQx : Hid (Blk (w7.setCell ⟨w.heap.size + 1, 0, none⟩ (.string ⟨p.to_.toArray⟩)) (w.heap.size + 1) 24 (PatchD.mk p.to_ q.to_ q.A q.c q.edits).parts.toArray) := Lib.hid (HQw7.out.set_ 0 _)
  have HRx : Hid (Blk (w7.setCell ⟨w.heap.size + 1, 0, none⟩ (.string ⟨p.to_.toArray⟩)) (w.heap.size + 2) 24 r.parts.toArray) := Lib.hid (HRw7.out.far (p := ⟨w.heap.size + 1, 0, none⟩) (by show w.heap.size + 2 ≠ w.heap.size + 1; omega) _)
  have HBx : Hid (Below w.heap.size w (w7.setCell ⟨w.heap.size + 1, 0, none⟩ (.string ⟨p.to_.toArray⟩))) := Lib.hid (HBw7.out.setCell (p := ⟨w.heap.size + 1, 0, none⟩) (Nat.le_succ _) _)
  clear c1 c2 f2 HPw7 HQw7 HRw7 HBw7 HTw7
  generalize w7.setCell ⟨w.heap.size + 1, 0, none⟩ (.string ⟨p.to_.toArray⟩) = wx at HPx HQx HRx HBx ⊢
  have c1 : wx.cell? ⟨w.heap.size + 1, 1, none⟩ = some (.string ⟨q.to_.toArray⟩) := HQx.out.cell 1
  have c2 : wx.cell? ⟨w.heap.size + 2, 0, none⟩ = some (.string ⟨r.from_.toArray⟩) := HRx.out.cell 0
  have f2 := HRx.out.frozen 0
  go_upto_region 6 with (fail)
  have HPy : Hid (Blk (wx.setCell ⟨w.heap.size + 2, 0, none⟩ (.string ⟨q.to_.toArray⟩)) w.heap.size 24 p.parts.toArray) := Lib.hid (HPx.out.far (p := ⟨w.heap.size + 2, 0, none⟩) (by show w.heap.size ≠ w.heap.size + 2; omega) _)
  have HQy : Hid (Blk (wx.setCell ⟨w.heap.size + 2, 0, none⟩ (.string ⟨q.to_.toArray⟩)) (w.heap.size + 1) 24 (PatchD.mk p.to_ q.to_ q.A q.c q.edits).parts.toArray) := Lib.hid (HQx.out.far (p := ⟨w.heap.size + 2, 0, none⟩) (by show w.heap.size + 1 ≠ w.heap.size + 2; omega) _)
  have HRy : Hid (Blk (wx.setCell ⟨w.heap.size + 2, 0, none⟩ (.string ⟨q.to_.toArray⟩)) (w.heap.size + 2) 24 (PatchD.mk q.to_ r.to_ r.A r.c r.edits).parts.toArray) := Lib.hid (HRx.out.set_ 0 _)
  have HBy : Hid (Below w.heap.size w (wx.setCell ⟨w.heap.size + 2, 0, none⟩ (.string ⟨q.to_.toArray⟩))) := Lib.hid (HBx.out.setCell (p := ⟨w.heap.size + 2, 0, none⟩) (by show w.heap.size ≤ w.heap.size + 2; omega) _)
  clear c1 c2 f2 HPx HQx HRx HBx
  obtain ⟨q2, hq2⟩ : ∃ q2 : PatchD, PatchD.mk p.to_ q.to_ q.A q.c q.edits = q2 := ⟨_, rfl⟩
  obtain ⟨r2, hr2⟩ : ∃ r2 : PatchD, PatchD.mk q.to_ r.to_ r.A r.c r.edits = r2 := ⟨_, rfl⟩
  have HQE : Hid (q2.edits = q.edits) := Lib.hid (by rw [← hq2])
  rw [hq2] at HQy HQ2O HJ1 HJ2
  rw [hr2] at HRy HR2O HJ2 HJK
  clear hq2 hr2
  generalize wx.setCell ⟨w.heap.size + 2, 0, none⟩ (.string ⟨q.to_.toArray⟩) = wy at HPy HQy HRy HBy ⊢
  have HTy := Lib.hid (HTB.out.below HBy.out HTB.out.size)
  have HPwy := HPy; clear HPy
  have HQwy := HQy; clear HQy
  have HRwy := HRy; clear HRy
  have HBwy := HBy; have HTwy := HTy; clear HBy HTy
  go_wp2_with (first
      | (refine wpList_load_mid rfl 24 _ rfl w.heap.size 0 rfl p.parts _ HPwy.out.range Tryd.underlying24 rfl (patchInfo p) ?_)
      | (refine wpList_load_mid rfl 24 _ rfl (w.heap.size + 1) 0 rfl q2.parts _ HQwy.out.range Tryd.underlying24 rfl (patchInfo q2) ?_)
      | (refine wpList_load_mid rfl 24 _ rfl (w.heap.size + 2) 0 rfl r2.parts _ HRwy.out.range Tryd.underlying24 rfl (patchInfo r2) ?_)
      | fail)
  have HC := Lib.hid (Join_E p q2 RA EA HJ1.out wy ((HPO.out.below HBwy.out).more HBwy.out.size) ((HQ2O.out.below HBwy.out).more HBwy.out.size))
  refine (HC.out).mono ?_
  rintro r w8 ⟨pa, rfl, hpa, hkpa, hb⟩
  clear HC
  have HDpa := Lib.hid hpa; clear hpa
  have HPw8 := Lib.hid (HPwy.out.below hb HPwy.out.lt)
  have HQw8 := Lib.hid (HQwy.out.below hb HQwy.out.lt)
  have HRw8 := Lib.hid (HRwy.out.below hb HRwy.out.lt)
  have HBw8 := Lib.hid (HBwy.out.trans (hb.mono HBwy.out.size))
  have HTw8 := Lib.hid (HTB.out.below HBw8.out HTB.out.size)
  clear hb HPwy HQwy HRwy HBwy HTwy
  have HOpaw8 := Lib.hid hkpa; have HLpaw8 : Hid (w8.heap.size ≤ w8.heap.size) := Lib.hid (Nat.le_refl _); clear hkpa
  go_wp2_with (first
      | (refine wpList_load_mid rfl 24 _ rfl w.heap.size 0 rfl p.parts _ HPw8.out.range Tryd.underlying24 rfl (patchInfo p) ?_)
      | (refine wpList_load_mid rfl 24 _ rfl (w.heap.size + 1) 0 rfl q2.parts _ HQw8.out.range Tryd.underlying24 rfl (patchInfo q2) ?_)
      | (refine wpList_load_mid rfl 24 _ rfl (w.heap.size + 2) 0 rfl r2.parts _ HRw8.out.range Tryd.underlying24 rfl (patchInfo r2) ?_)
      | (refine wpList_new_store rfl 24 _ _ rfl pa.parts rfl rfl rfl (patchInfo pa) (PatchD.one pa) ?_))
  intro w9 hx hb
  have HN := Lib.hid hx; clear hx
  have HPw9 := Lib.hid (HPw8.out.below hb HPw8.out.lt)
  have HQw9 := Lib.hid (HQw8.out.below hb HQw8.out.lt)
  have HRw9 := Lib.hid (HRw8.out.below hb HRw8.out.lt)
  have HOpaw9 := Lib.hid (HOpaw8.out.below (hb.mono HLpaw8.out)); have HLpaw9 := Lib.hid (Nat.le_trans HLpaw8.out hb.size)
  have HBw9 := Lib.hid (HBw8.out.trans (hb.mono HBw8.out.size))
  have HTw9 := Lib.hid (HTB.out.below HBw9.out HTB.out.size)
  clear hb HPw8 HQw8 HRw8 HOpaw8 HLpaw8 HBw8 HTw8
  have HMw9 := HN; clear HN
  go_wp2_with (first
      | (refine wpList_load_mid rfl 24 _ rfl w.heap.size 0 rfl p.parts _ HPw9.out.range Tryd.underlying24 rfl (patchInfo p) ?_)
      | (refine wpList_load_mid rfl 24 _ rfl (w.heap.size + 1) 0 rfl q2.parts _ HQw9.out.range Tryd.underlying24 rfl (patchInfo q2) ?_)
      | (refine wpList_load_mid rfl 24 _ rfl (w.heap.size + 2) 0 rfl r2.parts _ HRw9.out.range Tryd.underlying24 rfl (patchInfo r2) ?_)
      | (refine wpList_load_mid rfl 24 _ rfl w8.heap.size 0 rfl pa.parts _ HMw9.out.range Tryd.underlying24 rfl (patchInfo pa) ?_)
      | fail)
  have HC := Lib.hid (Join_E q2 r2 RB EB HJ2.out w9 ((HQ2O.out.below HBw9.out).more HBw9.out.size) ((HR2O.out.below HBw9.out).more HBw9.out.size))
  refine (HC.out).mono ?_
  rintro r w10 ⟨pb, rfl, hpb, hkpb, hb⟩
  clear HC
  have HDpb := Lib.hid hpb; clear hpb
  have HPw10 := Lib.hid (HPw9.out.below hb HPw9.out.lt)
  have HQw10 := Lib.hid (HQw9.out.below hb HQw9.out.lt)
  have HRw10 := Lib.hid (HRw9.out.below hb HRw9.out.lt)
  have HMw10 := Lib.hid (HMw9.out.below hb HMw9.out.lt)
  have HOpaw10 := Lib.hid (HOpaw9.out.below (hb.mono HLpaw9.out)); have HLpaw10 := Lib.hid (Nat.le_trans HLpaw9.out hb.size)
  have HBw10 := Lib.hid (HBw9.out.trans (hb.mono HBw9.out.size))
  have HTw10 := Lib.hid (HTB.out.below HBw10.out HTB.out.size)
  clear hb HPw9 HQw9 HRw9 HMw9 HOpaw9 HLpaw9 HBw9 HTw9
  have HOpbw10 := Lib.hid hkpb; have HLpbw10 : Hid (w10.heap.size ≤ w10.heap.size) := Lib.hid (Nat.le_refl _); clear hkpb
  go_wp2_with (first
      | (refine wpList_load_mid rfl 24 _ rfl w.heap.size 0 rfl p.parts _ HPw10.out.range Tryd.underlying24 rfl (patchInfo p) ?_)
      | (refine wpList_load_mid rfl 24 _ rfl (w.heap.size + 1) 0 rfl q2.parts _ HQw10.out.range Tryd.underlying24 rfl (patchInfo q2) ?_)
      | (refine wpList_load_mid rfl 24 _ rfl (w.heap.size + 2) 0 rfl r2.parts _ HRw10.out.range Tryd.underlying24 rfl (patchInfo r2) ?_)
      | (refine wpList_load_mid rfl 24 _ rfl w8.heap.size 0 rfl pa.parts _ HMw10.out.range Tryd.underlying24 rfl (patchInfo pa) ?_)
      | (refine wpList_new_store rfl 24 _ _ rfl pb.parts rfl rfl rfl (patchInfo pb) (PatchD.one pb) ?_))
  intro w11 hx hb
  have HN := Lib.hid hx; clear hx
  have HPw11 := Lib.hid (HPw10.out.below hb HPw10.out.lt)
  have HQw11 := Lib.hid (HQw10.out.below hb HQw10.out.lt)
  have HRw11 := Lib.hid (HRw10.out.below hb HRw10.out.lt)
  have HMw11 := Lib.hid (HMw10.out.below hb HMw10.out.lt)
  have HOpaw11 := Lib.hid (HOpaw10.out.below (hb.mono HLpaw10.out)); have HLpaw11 := Lib.hid (Nat.le_trans HLpaw10.out hb.size)
  have HOpbw11 := Lib.hid (HOpbw10.out.below (hb.mono HLpbw10.out)); have HLpbw11 := Lib.hid (Nat.le_trans HLpbw10.out hb.size)
  have HBw11 := Lib.hid (HBw10.out.trans (hb.mono HBw10.out.size))
  have HTw11 := Lib.hid (HTB.out.below HBw11.out HTB.out.size)
  clear hb HPw10 HQw10 HRw10 HMw10 HOpaw10 HLpaw10 HOpbw10 HLpbw10 HBw10 HTw10
  have HNw11 := HN; clear HN
  have c2 : w11.cell? ⟨w.heap.size, 2, none⟩ = some (.slice p.A p.edits.length p.c) := HPw11.out.cell 2
  go_wp2_with (first
      | (refine wpList_load_mid rfl 24 _ rfl w.heap.size 0 rfl p.parts _ HPw11.out.range Tryd.underlying24 rfl (patchInfo p) ?_)
      | (refine wpList_load_mid rfl 24 _ rfl (w.heap.size + 1) 0 rfl q2.parts _ HQw11.out.range Tryd.underlying24 rfl (patchInfo q2) ?_)
      | (refine wpList_load_mid rfl 24 _ rfl (w.heap.size + 2) 0 rfl r2.parts _ HRw11.out.range Tryd.underlying24 rfl (patchInfo r2) ?_)
      | (refine wpList_load_mid rfl 24 _ rfl w8.heap.size 0 rfl pa.parts _ HMw11.out.range Tryd.underlying24 rfl (patchInfo pa) ?_)
      | (refine wpList_load_mid rfl 24 _ rfl w10.heap.size 0 rfl pb.parts _ HNw11.out.range Tryd.underlying24 rfl (patchInfo pb) ?_)
      | fail)
  have HC := Lib.hid (Total_E p.A p.c p.edits _ HT.out w11 ((HPO.out.below HBw11.out).more HBw11.out.size).cells (fun e h => rightE_EOk (HRP.out e h)) (by rw [HT.out]; omega))
  refine (HC.out).mono ?_
  rintro r w12 ⟨rfl, hb⟩
  clear HC
  clear c2
  have HPw12 := Lib.hid (HPw11.out.below hb HPw11.out.lt)
  have HQw12 := Lib.hid (HQw11.out.below hb HQw11.out.lt)
  have HRw12 := Lib.hid (HRw11.out.below hb HRw11.out.lt)
  have HMw12 := Lib.hid (HMw11.out.below hb HMw11.out.lt)
  have HNw12 := Lib.hid (HNw11.out.below hb HNw11.out.lt)
  have HOpaw12 := Lib.hid (HOpaw11.out.below (hb.mono HLpaw11.out)); have HLpaw12 := Lib.hid (Nat.le_trans HLpaw11.out hb.size)
  have HOpbw12 := Lib.hid (HOpbw11.out.below (hb.mono HLpbw11.out)); have HLpbw12 := Lib.hid (Nat.le_trans HLpbw11.out hb.size)
  have HBw12 := Lib.hid (HBw11.out.trans (hb.mono HBw11.out.size))
  have HTw12 := Lib.hid (HTB.out.below HBw12.out HTB.out.size)
  clear hb HPw11 HQw11 HRw11 HMw11 HNw11 HOpaw11 HLpaw11 HOpbw11 HLpbw11 HBw11 HTw11
  go_upto_if 72 with (fail)
  go_cut [12] (fun t wq => t = .int .i64 T ∧ Hid (Below w12.heap.size w12 wq))
  case first =>
    by_cases h0 : 0 < T
    · have HCw12 : Hid (Below w12.heap.size w12 w12) := Lib.hid (Below.refl _ _)
      have HALL := Lib.hid (HJA.out (by rw [HT.out]; exact h0))
      have c1 : w12.cell? ⟨w.heap.size, 1, none⟩ = some (.string ⟨PT.toArray⟩) := (HPw12.out.cell 1).trans (by show some (Value.string ⟨p.to_.toArray⟩) = _; rw [HPT.out])
      have HNE : Hid (Blk (w12.alloc (.cells #[.int .i64 0, .int .i64 T, .string ⟨#[]⟩] 56)) w12.heap.size 56 #[.int .i64 0, .int .i64 T, .string ⟨#[]⟩]) := Lib.hid (Blk.new w12 56 _)
      have HBE : Hid (Below w12.heap.size w12 (w12.alloc (.cells #[.int .i64 0, .int .i64 T, .string ⟨#[]⟩] 56))) := Lib.hid ((Below.refl _ _).alloc (Nat.le_refl _) _)
      go_wp2_with (refine wpList_new_store rfl 24 _ _ rfl (PatchD.mk PT PT (some ⟨w12.heap.size, 0, none⟩) 1 [⟨0, T, []⟩]).parts (by show Value.pointer (some ⟨w12.heap.size + 1, 0, none⟩) = Value.pointer (some ⟨(w12.alloc _).heap.size, 0, none⟩); simp) rfl rfl (patchInfo _) (PatchD.one _) ?_)
      intro w2f hx hb1
      have hb : Below w12.heap.size w12 w2f := HBE.out.trans (hb1.mono (Nat.le_succ _))
      have HALB : Hid (Blk w2f (w12.heap.size + 1) 24 (PatchD.mk PT PT (some ⟨w12.heap.size, 0, none⟩) 1 [⟨0, T, []⟩]).parts.toArray) := Lib.hid hx
      have HEE := Lib.hid (HNE.out.below hb1 (Nat.lt_succ_self _))
      clear hx hb1 c1 HNE HBE
      obtain ⟨all, hall⟩ : ∃ all : PatchD, PatchD.mk PT PT (some ⟨w12.heap.size, 0, none⟩) 1 [⟨0, T, []⟩] = all := ⟨_, rfl⟩
      have HAO : Hid (all.Ok w2f w2f.heap.size) := Lib.hid (by
        rw [← hall]
        have hpt := HPO.out.to_
        rw [HPT.out] at hpt
        refine ⟨hpt, hpt, by show 1 ≤ _; omega, Reads.of_blk HEE.out rfl, fun e he => ?_⟩
        simp at he
        subst he
        exact ⟨I64.zero, by show I64 T; unfold I64; omega, by show 0 ≤ maxLen; exact Nat.zero_le _⟩)
      have HAD : Hid (joinR p.pd all.pd = (⟨PF, PT, compactL p.edits⟩, 0)) := Lib.hid (by
        have h := HALL.out
        rw [HT.out, HPF.out, HPT.out] at h
        rw [← hall]
        exact h)
      rw [hall] at HALB
      clear hall HALL HEE
      have HPw2f := Lib.hid (HPw12.out.below hb HPw12.out.lt)
      have HQw2f := Lib.hid (HQw12.out.below hb HQw12.out.lt)
      have HRw2f := Lib.hid (HRw12.out.below hb HRw12.out.lt)
      have HMw2f := Lib.hid (HMw12.out.below hb HMw12.out.lt)
      have HNw2f := Lib.hid (HNw12.out.below hb HNw12.out.lt)
      have HOpaw2f := Lib.hid (HOpaw12.out.below (hb.mono HLpaw12.out)); have HLpaw2f := Lib.hid (Nat.le_trans HLpaw12.out hb.size)
      have HOpbw2f := Lib.hid (HOpbw12.out.below (hb.mono HLpbw12.out)); have HLpbw2f := Lib.hid (Nat.le_trans HLpbw12.out hb.size)
      have HBw2f := Lib.hid (HBw12.out.trans (hb.mono HBw12.out.size))
      have HTw2f := Lib.hid (HTB.out.below HBw2f.out HTB.out.size)
      have HCw2f := Lib.hid (HCw12.out.trans (hb.mono HCw12.out.size))
      clear hb HCw12 HPw12 HQw12 HRw12 HMw12 HNw12 HOpaw12 HLpaw12 HOpbw12 HLpbw12 HBw12 HTw12
      have HALw2f := HALB; have HOallw2f := HAO; have HLallw2f : Hid (w2f.heap.size ≤ w2f.heap.size) := Lib.hid (Nat.le_refl _); clear HALB HAO
      go_wp2_with (first
          | (refine wpList_load_mid rfl 24 _ rfl w.heap.size 0 rfl p.parts _ HPw2f.out.range Tryd.underlying24 rfl (patchInfo p) ?_)
          | (refine wpList_load_mid rfl 24 _ rfl (w.heap.size + 1) 0 rfl q2.parts _ HQw2f.out.range Tryd.underlying24 rfl (patchInfo q2) ?_)
          | (refine wpList_load_mid rfl 24 _ rfl (w.heap.size + 2) 0 rfl r2.parts _ HRw2f.out.range Tryd.underlying24 rfl (patchInfo r2) ?_)
          | (refine wpList_load_mid rfl 24 _ rfl w8.heap.size 0 rfl pa.parts _ HMw2f.out.range Tryd.underlying24 rfl (patchInfo pa) ?_)
          | (refine wpList_load_mid rfl 24 _ rfl w10.heap.size 0 rfl pb.parts _ HNw2f.out.range Tryd.underlying24 rfl (patchInfo pb) ?_)
          | (refine wpList_load_mid rfl 24 _ rfl (w12.heap.size + 1) 0 rfl all.parts _ HALw2f.out.range Tryd.underlying24 rfl (patchInfo all) ?_)
          | fail)
      have HC := Lib.hid (Join_E p all _ 0 HAD.out w2f ((HPO.out.below HBw2f.out).more HBw2f.out.size) (HOallw2f.out.more HLallw2f.out))
      refine (HC.out).mono ?_
      rintro r w15f ⟨ps, rfl, hps, hkps, hb⟩
      clear HC
      have HDps := Lib.hid hps; clear hps
      have HPw15f := Lib.hid (HPw2f.out.below hb HPw2f.out.lt)
      have HQw15f := Lib.hid (HQw2f.out.below hb HQw2f.out.lt)
      have HRw15f := Lib.hid (HRw2f.out.below hb HRw2f.out.lt)
      have HMw15f := Lib.hid (HMw2f.out.below hb HMw2f.out.lt)
      have HNw15f := Lib.hid (HNw2f.out.below hb HNw2f.out.lt)
      have HALw15f := Lib.hid (HALw2f.out.below hb HALw2f.out.lt)
      have HOpaw15f := Lib.hid (HOpaw2f.out.below (hb.mono HLpaw2f.out)); have HLpaw15f := Lib.hid (Nat.le_trans HLpaw2f.out hb.size)
      have HOpbw15f := Lib.hid (HOpbw2f.out.below (hb.mono HLpbw2f.out)); have HLpbw15f := Lib.hid (Nat.le_trans HLpbw2f.out hb.size)
      have HOallw15f := Lib.hid (HOallw2f.out.below (hb.mono HLallw2f.out)); have HLallw15f := Lib.hid (Nat.le_trans HLallw2f.out hb.size)
      have HBw15f := Lib.hid (HBw2f.out.trans (hb.mono HBw2f.out.size))
      have HTw15f := Lib.hid (HTB.out.below HBw15f.out HTB.out.size)
      have HCw15f := Lib.hid (HCw2f.out.trans (hb.mono HCw2f.out.size))
      clear hb HCw2f HPw2f HQw2f HRw2f HMw2f HNw2f HALw2f HOpaw2f HLpaw2f HOpbw2f HLpbw2f HOallw2f HLallw2f HBw2f HTw2f
      have HOpsw15f := Lib.hid hkps; have HLpsw15f : Hid (w15f.heap.size ≤ w15f.heap.size) := Lib.hid (Nat.le_refl _); clear hkps
      go_wp2_with (first
          | (refine wpList_load_mid rfl 24 _ rfl w.heap.size 0 rfl p.parts _ HPw15f.out.range Tryd.underlying24 rfl (patchInfo p) ?_)
          | (refine wpList_load_mid rfl 24 _ rfl (w.heap.size + 1) 0 rfl q2.parts _ HQw15f.out.range Tryd.underlying24 rfl (patchInfo q2) ?_)
          | (refine wpList_load_mid rfl 24 _ rfl (w.heap.size + 2) 0 rfl r2.parts _ HRw15f.out.range Tryd.underlying24 rfl (patchInfo r2) ?_)
          | (refine wpList_load_mid rfl 24 _ rfl w8.heap.size 0 rfl pa.parts _ HMw15f.out.range Tryd.underlying24 rfl (patchInfo pa) ?_)
          | (refine wpList_load_mid rfl 24 _ rfl w10.heap.size 0 rfl pb.parts _ HNw15f.out.range Tryd.underlying24 rfl (patchInfo pb) ?_)
          | (refine wpList_load_mid rfl 24 _ rfl (w12.heap.size + 1) 0 rfl all.parts _ HALw15f.out.range Tryd.underlying24 rfl (patchInfo all) ?_)
          | (refine wpList_new_store rfl 24 _ _ rfl ps.parts rfl rfl rfl (patchInfo ps) (PatchD.one ps) ?_))
      intro w16f hx hb
      have HN := Lib.hid hx; clear hx
      have HPw16f := Lib.hid (HPw15f.out.below hb HPw15f.out.lt)
      have HQw16f := Lib.hid (HQw15f.out.below hb HQw15f.out.lt)
      have HRw16f := Lib.hid (HRw15f.out.below hb HRw15f.out.lt)
      have HMw16f := Lib.hid (HMw15f.out.below hb HMw15f.out.lt)
      have HNw16f := Lib.hid (HNw15f.out.below hb HNw15f.out.lt)
      have HALw16f := Lib.hid (HALw15f.out.below hb HALw15f.out.lt)
      have HOpaw16f := Lib.hid (HOpaw15f.out.below (hb.mono HLpaw15f.out)); have HLpaw16f := Lib.hid (Nat.le_trans HLpaw15f.out hb.size)
      have HOpbw16f := Lib.hid (HOpbw15f.out.below (hb.mono HLpbw15f.out)); have HLpbw16f := Lib.hid (Nat.le_trans HLpbw15f.out hb.size)
      have HOallw16f := Lib.hid (HOallw15f.out.below (hb.mono HLallw15f.out)); have HLallw16f := Lib.hid (Nat.le_trans HLallw15f.out hb.size)
      have HOpsw16f := Lib.hid (HOpsw15f.out.below (hb.mono HLpsw15f.out)); have HLpsw16f := Lib.hid (Nat.le_trans HLpsw15f.out hb.size)
      have HBw16f := Lib.hid (HBw15f.out.trans (hb.mono HBw15f.out.size))
      have HTw16f := Lib.hid (HTB.out.below HBw16f.out HTB.out.size)
      have HCw16f := Lib.hid (HCw15f.out.trans (hb.mono HCw15f.out.size))
      clear hb HCw15f HPw15f HQw15f HRw15f HMw15f HNw15f HALw15f HOpaw15f HLpaw15f HOpbw15f HLpbw15f HOallw15f HLallw15f HOpsw15f HLpsw15f HBw15f HTw15f
      have HSw16f := HN; clear HN
      have HSL : Hid (ps.edits = compactL p.edits) := Lib.hid (congrArg PD.edits HDps.out)
      go_wp2_with fail
      have hdr : Below w16f.heap.size w16f w16f.drew := (Below.refl _ _).drew
      have HPw16fd := Lib.hid (HPw16f.out.below hdr HPw16f.out.lt)
      have HQw16fd := Lib.hid (HQw16f.out.below hdr HQw16f.out.lt)
      have HRw16fd := Lib.hid (HRw16f.out.below hdr HRw16f.out.lt)
      have HMw16fd := Lib.hid (HMw16f.out.below hdr HMw16f.out.lt)
      have HNw16fd := Lib.hid (HNw16f.out.below hdr HNw16f.out.lt)
      have HALw16fd := Lib.hid (HALw16f.out.below hdr HALw16f.out.lt)
      have HSw16fd := Lib.hid (HSw16f.out.below hdr HSw16f.out.lt)
      have HOpaw16fd := Lib.hid (HOpaw16f.out.below (hdr.mono HLpaw16f.out)); have HLpaw16fd := Lib.hid (Nat.le_trans HLpaw16f.out hdr.size)
      have HOpbw16fd := Lib.hid (HOpbw16f.out.below (hdr.mono HLpbw16f.out)); have HLpbw16fd := Lib.hid (Nat.le_trans HLpbw16f.out hdr.size)
      have HOallw16fd := Lib.hid (HOallw16f.out.below (hdr.mono HLallw16f.out)); have HLallw16fd := Lib.hid (Nat.le_trans HLallw16f.out hdr.size)
      have HOpsw16fd := Lib.hid (HOpsw16f.out.below (hdr.mono HLpsw16f.out)); have HLpsw16fd := Lib.hid (Nat.le_trans HLpsw16f.out hdr.size)
      have HBw16fd := Lib.hid (HBw16f.out.trans (hdr.mono HBw16f.out.size))
      have HTw16fd := Lib.hid (HTB.out.below HBw16fd.out HTB.out.size)
      have HCw16fd := Lib.hid (HCw16f.out.trans (hdr.mono HCw16f.out.size))
      clear HCw16f HPw16f HQw16f HRw16f HMw16f HNw16f HALw16f HSw16f HOpaw16f HLpaw16f HOpbw16f HLpbw16f HOallw16f HLallw16f HOpsw16f HLpsw16f HBw16f HTw16f
      refine wp_region_held_drew (S := (fun w' => True ∧ w'.cell? ⟨w15f.heap.size, 0, none⟩ = some (.string ⟨PF.toArray⟩) ∧ w'.cell? ⟨w.heap.size, 0, none⟩ = some (.string ⟨PF.toArray⟩) ∧ w'.cell? ⟨w15f.heap.size, 1, none⟩ = some (.string ⟨PT.toArray⟩) ∧ w'.cell? ⟨w.heap.size, 1, none⟩ = some (.string ⟨PT.toArray⟩) ∧ w'.cell? ⟨w15f.heap.size, 2, none⟩ = some (.slice ps.A ps.edits.length ps.c) ∧ w'.cell? ⟨w.heap.size, 2, none⟩ = some (.slice p.A p.edits.length p.c))) (by kernel_rfl) ⟨trivial, (HSw16fd.out.cell 0).trans (by show some (Value.string ⟨ps.from_.toArray⟩) = _; rw [show ps.from_ = PF from congrArg PD.from_ HDps.out]), (HPw16fd.out.cell 0).trans (by show some (Value.string ⟨p.from_.toArray⟩) = _; rw [HPF.out]), (HSw16fd.out.cell 1).trans (by show some (Value.string ⟨ps.to_.toArray⟩) = _; rw [show ps.to_ = PT from congrArg PD.to_ HDps.out]), (HPw16fd.out.cell 1).trans (by show some (Value.string ⟨p.to_.toArray⟩) = _; rw [HPT.out]), (HSw16fd.out.cell 2).trans rfl, (HPw16fd.out.cell 2).trans rfl⟩ (fun hHeld => ?_)
      refine wpAnyH_pure (i := 0) (some 87) (.int .i64 0) (by kernel_rfl) (by kernel_rfl) (by kernel_rfl) (by kernel_rfl) (fun _ _ _ h => h) (by kernel_rfl) (by intro w; kernel_rfl) (by assumption) ?_
      refine wpAnyH_pure (i := 1) (some 88) (.bool false) (by kernel_rfl) (by kernel_rfl) (by kernel_rfl) (by kernel_rfl) (fun _ _ _ h => h) (by kernel_rfl) (by intro w; kernel_rfl) (by assumption) ?_
      refine wpAnyH_pure (i := 2) (some 89) (.bool false) (by kernel_rfl) (by kernel_rfl) (by kernel_rfl) (by kernel_rfl) (fun _ _ _ h => h) (by kernel_rfl) (by intro w; kernel_rfl) (by assumption) ?_
      refine wpAnyH_pure (i := 3) (some 90) (.pointer (some ⟨w15f.heap.size, 0, none⟩)) (by kernel_rfl) (by kernel_rfl) (by kernel_rfl) (by kernel_rfl) (fun _ _ _ h => h) (by kernel_rfl) (by intro w; kernel_rfl) (by assumption) ?_
      (try simp only [Act.put, List.setIfInBounds_toArray, List.set_cons_zero, List.set_cons_succ])
      refine wpAnyH_read (i := 4) (some 91) (.string ⟨PF.toArray⟩) (by kernel_rfl) (by kernel_rfl) (by kernel_rfl) (by kernel_rfl) (fun _ _ _ h => h) (by kernel_rfl) (by intro o ho w hSw; cases ho; (try dsimp only at hSw); go_simp) (by assumption) ?_
      (try simp only [Act.put, List.setIfInBounds_toArray, List.set_cons_zero, List.set_cons_succ])
      refine wpAnyH_pure (i := 5) (some 92) (.pointer (some ⟨w.heap.size, 0, none⟩)) (by kernel_rfl) (by kernel_rfl) (by kernel_rfl) (by kernel_rfl) (fun _ _ _ h => h) (by kernel_rfl) (by intro w; kernel_rfl) (by assumption) ?_
      (try simp only [Act.put, List.setIfInBounds_toArray, List.set_cons_zero, List.set_cons_succ])
      refine wpAnyH_read (i := 6) (some 93) (.string ⟨PF.toArray⟩) (by kernel_rfl) (by kernel_rfl) (by kernel_rfl) (by kernel_rfl) (fun _ _ _ h => h) (by kernel_rfl) (by intro o ho w hSw; cases ho; (try dsimp only at hSw); go_simp) (by assumption) ?_
      (try simp only [Act.put, List.setIfInBounds_toArray, List.set_cons_zero, List.set_cons_succ])
      (try simp only [Act.put, List.setIfInBounds_toArray, List.set_cons_zero, List.set_cons_succ])
      refine wpAnyH_read (i := 7) (some 94) (.bool false) (by kernel_rfl) (by kernel_rfl) (by kernel_rfl) (by kernel_rfl) (fun _ _ _ h => h) (by kernel_rfl) (by intro o ho w hSw; cases ho; (try dsimp only at hSw); go_simp) (by assumption) ?_
      (try simp only [Act.put, List.setIfInBounds_toArray, List.set_cons_zero, List.set_cons_succ])
      refine wpAnyH_pure (i := 8) (some 95) (.bool false) (by kernel_rfl) (by kernel_rfl) (by kernel_rfl) (by kernel_rfl) (fun _ _ _ h => h) (by kernel_rfl) (by intro w; kernel_rfl) (by assumption) ?_
      refine wpAnyH_pure (i := 9) (some 96) (.bool false) (by kernel_rfl) (by kernel_rfl) (by kernel_rfl) (by kernel_rfl) (fun _ _ _ h => h) (by kernel_rfl) (by intro w; kernel_rfl) (by assumption) ?_
      refine wpAnyH_pure (i := 10) (some 97) (.pointer (some ⟨w15f.heap.size, 1, none⟩)) (by kernel_rfl) (by kernel_rfl) (by kernel_rfl) (by kernel_rfl) (fun _ _ _ h => h) (by kernel_rfl) (by intro w; kernel_rfl) (by assumption) ?_
      (try simp only [Act.put, List.setIfInBounds_toArray, List.set_cons_zero, List.set_cons_succ])
      refine wpAnyH_read (i := 11) (some 98) (.string ⟨PT.toArray⟩) (by kernel_rfl) (by kernel_rfl) (by kernel_rfl) (by kernel_rfl) (fun _ _ _ h => h) (by kernel_rfl) (by intro o ho w hSw; cases ho; (try dsimp only at hSw); go_simp) (by assumption) ?_
      (try simp only [Act.put, List.setIfInBounds_toArray, List.set_cons_zero, List.set_cons_succ])
      refine wpAnyH_pure (i := 12) (some 99) (.pointer (some ⟨w.heap.size, 1, none⟩)) (by kernel_rfl) (by kernel_rfl) (by kernel_rfl) (by kernel_rfl) (fun _ _ _ h => h) (by kernel_rfl) (by intro w; kernel_rfl) (by assumption) ?_
      (try simp only [Act.put, List.setIfInBounds_toArray, List.set_cons_zero, List.set_cons_succ])
      refine wpAnyH_read (i := 13) (some 100) (.string ⟨PT.toArray⟩) (by kernel_rfl) (by kernel_rfl) (by kernel_rfl) (by kernel_rfl) (fun _ _ _ h => h) (by kernel_rfl) (by intro o ho w hSw; cases ho; (try dsimp only at hSw); go_simp) (by assumption) ?_
      (try simp only [Act.put, List.setIfInBounds_toArray, List.set_cons_zero, List.set_cons_succ])
      (try simp only [Act.put, List.setIfInBounds_toArray, List.set_cons_zero, List.set_cons_succ])
      refine wpAnyH_read (i := 14) (some 101) (.bool false) (by kernel_rfl) (by kernel_rfl) (by kernel_rfl) (by kernel_rfl) (fun _ _ _ h => h) (by kernel_rfl) (by intro o ho w hSw; cases ho; (try dsimp only at hSw); go_simp) (by assumption) ?_
      (try simp only [Act.put, List.setIfInBounds_toArray, List.set_cons_zero, List.set_cons_succ])
      refine wpAnyH_pure (i := 15) (some 102) (.bool false) (by kernel_rfl) (by kernel_rfl) (by kernel_rfl) (by kernel_rfl) (fun _ _ _ h => h) (by kernel_rfl) (by intro w; kernel_rfl) (by assumption) ?_
      refine wpAnyH_pure (i := 16) (some 103) (.bool false) (by kernel_rfl) (by kernel_rfl) (by kernel_rfl) (by kernel_rfl) (fun _ _ _ h => h) (by kernel_rfl) (by intro w; kernel_rfl) (by assumption) ?_
      refine wpAnyH_pure (i := 17) (some 104) (.pointer (some ⟨w15f.heap.size, 2, none⟩)) (by kernel_rfl) (by kernel_rfl) (by kernel_rfl) (by kernel_rfl) (fun _ _ _ h => h) (by kernel_rfl) (by intro w; kernel_rfl) (by assumption) ?_
      (try simp only [Act.put, List.setIfInBounds_toArray, List.set_cons_zero, List.set_cons_succ])
      refine wpAnyH_read (i := 18) (some 105) (.slice ps.A ps.edits.length ps.c) (by kernel_rfl) (by kernel_rfl) (by kernel_rfl) (by kernel_rfl) (fun _ _ _ h => h) (by kernel_rfl) (by intro o ho w hSw; cases ho; (try dsimp only at hSw); go_simp) (by assumption) ?_
      (try simp only [Act.put, List.setIfInBounds_toArray, List.set_cons_zero, List.set_cons_succ])
      refine wpAnyH_pure (i := 19) (some 106) (.agg #[.string ⟨#[]⟩, .string ⟨#[]⟩, .slice ps.A ps.edits.length ps.c]) (by kernel_rfl) (by kernel_rfl) (by kernel_rfl) (by kernel_rfl) (fun _ _ _ h => h) (by kernel_rfl) (by intro w; kernel_rfl) (by assumption) ?_
      refine wpAnyH_pure (i := 21) (some 108) (.pointer (some ⟨w.heap.size, 2, none⟩)) (by kernel_rfl) (by kernel_rfl) (by kernel_rfl) (by kernel_rfl) (fun _ _ _ h => h) (by kernel_rfl) (by intro w; kernel_rfl) (by assumption) ?_
      (try simp only [Act.put, List.setIfInBounds_toArray, List.set_cons_zero, List.set_cons_succ])
      refine wpAnyH_read (i := 22) (some 109) (.slice p.A p.edits.length p.c) (by kernel_rfl) (by kernel_rfl) (by kernel_rfl) (by kernel_rfl) (fun _ _ _ h => h) (by kernel_rfl) (by intro o ho w hSw; cases ho; (try dsimp only at hSw); go_simp) (by assumption) ?_
      (try simp only [Act.put, List.setIfInBounds_toArray, List.set_cons_zero, List.set_cons_succ])
      (try simp only [Act.put, List.setIfInBounds_toArray, List.set_cons_zero, List.set_cons_succ])
      refine wpAnyH_ready (rs := [20]) (by kernel_rfl) (by simp) ?_
      refine AllReadyH.cons rfl (fun K hK => ?_) AllReadyH.nil
      go_simp
      have HNZ : Hid (Blk (w16f.alloc (.cells #[] 56)).drew w16f.heap.size 56 #[]) := Lib.hid (Blk.new w16f 56 #[])
      have HBZ : Hid (Below w16f.heap.size w16f.drew (w16f.alloc (.cells #[] 56)).drew) := Lib.hid ((Below.refl w16f.heap.size w16f.drew).alloc (Nat.le_refl _) (.cells #[] 56))
      generalize (w16f.alloc (.cells #[] 56)).drew = wz at HNZ HBZ ⊢
      have HSwz := Lib.hid (HSw16fd.out.below HBZ.out HSw16fd.out.lt)
      have HPwz := Lib.hid (HPw16fd.out.below HBZ.out HPw16fd.out.lt)
      refine hK.out _ _ ⟨trivial, (HSwz.out.cell 0).trans (by show some (Value.string ⟨ps.from_.toArray⟩) = _; rw [show ps.from_ = PF from congrArg PD.from_ HDps.out]), (HPwz.out.cell 0).trans (by show some (Value.string ⟨p.from_.toArray⟩) = _; rw [HPF.out]), (HSwz.out.cell 1).trans (by show some (Value.string ⟨ps.to_.toArray⟩) = _; rw [show ps.to_ = PT from congrArg PD.to_ HDps.out]), (HPwz.out.cell 1).trans (by show some (Value.string ⟨p.to_.toArray⟩) = _; rw [HPT.out]), (HSwz.out.cell 2).trans rfl, (HPwz.out.cell 2).trans rfl⟩ (fun hHeld => ?_)
      clear hK K
      have hpok : p.Ok wz w16f.heap.size := ((HPO.out.below HBw16fd.out).more HBw16fd.out.size).below HBZ.out
      have hne : 0 < p.edits.length := by
        cases he : p.edits with
        | nil => have := HT.out; rw [he] at this; rw [← this] at h0; exact absurd h0 (by decide)
        | cons e l => simp
      obtain ⟨ad, hA, _, hcel⟩ := hpok.cells.2 hne
      obtain ⟨i0, hi0, hz0, hz1, hz2⟩ := info_parts editInfo
      have HI0 := Lib.hid hi0; have HI1 := Lib.hid hz0; have HI2 := Lib.hid hz1; have HI3 := Lib.hid hz2
      have hpl := HPL.out
      have hown : wz.ownsRow w16f.heap.size 56 3 (.slice (some ⟨w16f.heap.size, 0, none⟩) 0 0) 0 [] := ⟨rfl, .inr ⟨_, 0, #[], rfl, Nat.le_refl _, HNZ.out, Nat.le_refl _, Nat.zero_le _, rfl, rfl⟩⟩
      have HOWZ := Lib.hid hown; have HHA := Lib.hid hA; have HCEL := Lib.hid hcel
      clear hi0 hz0 hz1 hz2 hown hpok hA hcel
      refine wpAnyH_append (i := 23) (by kernel_rfl) (.tmp 107) (.tmp 109) 22 (some 110) (by kernel_rfl) (by kernel_rfl) w16f.heap.size 56 i0 (.agg #[.int .i64 0, .int .i64 0, .string ByteArray.empty]) 3 32 Tryd.underlying22 HI0.out HI1.out HI2.out HI3.out rfl (by decide) (.slice (some ⟨w16f.heap.size, 0, none⟩) 0 0) 0 [] (by kernel_rfl) HOWZ.out ad p.edits.length p.c (p.edits.flatMap EditD.parts) (by rw [← HHA.out]; kernel_rfl) (flat_length EditD.parts 3 EditD.parts_length p.edits) HCEL.out (edits_one p.edits) (by unfold maxLen; omega) (by omega) (HBZ.out.size) ?_
      intro v' w2z hown' hgrow
      simp only [Nat.zero_add, List.nil_append] at hown'
      obtain ⟨A5, c5, rfl⟩ := own_shape hown'
      have hb : Below w16f.drew.heap.size w16f.drew w2z := HBZ.out.grown hgrow HBZ.out.size (fun k hk => by injection hk with hk; exact Nat.le_of_eq hk)
      have HOW5 := Lib.hid hown'
      clear hown' hgrow HOWZ HCEL HNZ HBZ HSwz HPwz
      have HPw2z := Lib.hid (HPw16fd.out.below hb HPw16fd.out.lt)
      have HQw2z := Lib.hid (HQw16fd.out.below hb HQw16fd.out.lt)
      have HRw2z := Lib.hid (HRw16fd.out.below hb HRw16fd.out.lt)
      have HMw2z := Lib.hid (HMw16fd.out.below hb HMw16fd.out.lt)
      have HNw2z := Lib.hid (HNw16fd.out.below hb HNw16fd.out.lt)
      have HALw2z := Lib.hid (HALw16fd.out.below hb HALw16fd.out.lt)
      have HSw2z := Lib.hid (HSw16fd.out.below hb HSw16fd.out.lt)
      have HOpaw2z := Lib.hid (HOpaw16fd.out.below (hb.mono HLpaw16fd.out)); have HLpaw2z := Lib.hid (Nat.le_trans HLpaw16fd.out hb.size)
      have HOpbw2z := Lib.hid (HOpbw16fd.out.below (hb.mono HLpbw16fd.out)); have HLpbw2z := Lib.hid (Nat.le_trans HLpbw16fd.out hb.size)
      have HOallw2z := Lib.hid (HOallw16fd.out.below (hb.mono HLallw16fd.out)); have HLallw2z := Lib.hid (Nat.le_trans HLallw16fd.out hb.size)
      have HOpsw2z := Lib.hid (HOpsw16fd.out.below (hb.mono HLpsw16fd.out)); have HLpsw2z := Lib.hid (Nat.le_trans HLpsw16fd.out hb.size)
      have HBw2z := Lib.hid (HBw16fd.out.trans (hb.mono HBw16fd.out.size))
      have HTw2z := Lib.hid (HTB.out.below HBw2z.out HTB.out.size)
      have HCw2z := Lib.hid (HCw16fd.out.trans (hb.mono HCw16fd.out.size))
      clear hb HCw16fd HPw16fd HQw16fd HRw16fd HMw16fd HNw16fd HALw16fd HSw16fd HOpaw16fd HLpaw16fd HOpbw16fd HLpbw16fd HOallw16fd HLallw16fd HOpsw16fd HLpsw16fd HBw16fd HTw16fd
      refine ⟨⟨trivial, (HSw2z.out.cell 0).trans (by show some (Value.string ⟨ps.from_.toArray⟩) = _; rw [show ps.from_ = PF from congrArg PD.from_ HDps.out]), (HPw2z.out.cell 0).trans (by show some (Value.string ⟨p.from_.toArray⟩) = _; rw [HPF.out]), (HSw2z.out.cell 1).trans (by show some (Value.string ⟨ps.to_.toArray⟩) = _; rw [show ps.to_ = PT from congrArg PD.to_ HDps.out]), (HPw2z.out.cell 1).trans (by show some (Value.string ⟨p.to_.toArray⟩) = _; rw [HPT.out]), (HSw2z.out.cell 2).trans rfl, (HPw2z.out.cell 2).trans rfl⟩, fun hHeld => ?_⟩
      (try simp only [Act.put, List.setIfInBounds_toArray, List.set_cons_zero, List.set_cons_succ])
      refine wpAnyH_call (i := 24) (by kernel_rfl) 20 #[.tmp 110] #[22] (some 111) (by kernel_rfl) (by kernel_rfl) Tryd.call20 #[.slice A5 p.edits.length c5] (by kernel_rfl) (Compact_any A5 c5 p.edits w2z.heap.size w2z (Reads.of_own HOW5.out) HRP.out (Nat.le_refl _) HTP.out) ?_
      rintro r w17f ⟨A6, c6, rfl, ho6, hb⟩
      refine ⟨_, rfl, ?_⟩
      have HO6 := Lib.hid ho6; clear ho6
      have HPw17f := Lib.hid (HPw2z.out.below hb HPw2z.out.lt)
      have HQw17f := Lib.hid (HQw2z.out.below hb HQw2z.out.lt)
      have HRw17f := Lib.hid (HRw2z.out.below hb HRw2z.out.lt)
      have HMw17f := Lib.hid (HMw2z.out.below hb HMw2z.out.lt)
      have HNw17f := Lib.hid (HNw2z.out.below hb HNw2z.out.lt)
      have HALw17f := Lib.hid (HALw2z.out.below hb HALw2z.out.lt)
      have HSw17f := Lib.hid (HSw2z.out.below hb HSw2z.out.lt)
      have HOpaw17f := Lib.hid (HOpaw2z.out.below (hb.mono HLpaw2z.out)); have HLpaw17f := Lib.hid (Nat.le_trans HLpaw2z.out hb.size)
      have HOpbw17f := Lib.hid (HOpbw2z.out.below (hb.mono HLpbw2z.out)); have HLpbw17f := Lib.hid (Nat.le_trans HLpbw2z.out hb.size)
      have HOallw17f := Lib.hid (HOallw2z.out.below (hb.mono HLallw2z.out)); have HLallw17f := Lib.hid (Nat.le_trans HLallw2z.out hb.size)
      have HOpsw17f := Lib.hid (HOpsw2z.out.below (hb.mono HLpsw2z.out)); have HLpsw17f := Lib.hid (Nat.le_trans HLpsw2z.out hb.size)
      have HBw17f := Lib.hid (HBw2z.out.trans (hb.mono HBw2z.out.size))
      have HTw17f := Lib.hid (HTB.out.below HBw17f.out HTB.out.size)
      have HCw17f := Lib.hid (HCw2z.out.trans (hb.mono HCw2z.out.size))
      clear hb HCw2z HPw2z HQw2z HRw2z HMw2z HNw2z HALw2z HSw2z HOpaw2z HLpaw2z HOpbw2z HLpbw2z HOallw2z HLallw2z HOpsw2z HLpsw2z HBw2z HTw2z
      refine ⟨⟨trivial, (HSw17f.out.cell 0).trans (by show some (Value.string ⟨ps.from_.toArray⟩) = _; rw [show ps.from_ = PF from congrArg PD.from_ HDps.out]), (HPw17f.out.cell 0).trans (by show some (Value.string ⟨p.from_.toArray⟩) = _; rw [HPF.out]), (HSw17f.out.cell 1).trans (by show some (Value.string ⟨ps.to_.toArray⟩) = _; rw [show ps.to_ = PT from congrArg PD.to_ HDps.out]), (HPw17f.out.cell 1).trans (by show some (Value.string ⟨p.to_.toArray⟩) = _; rw [HPT.out]), (HSw17f.out.cell 2).trans rfl, (HPw17f.out.cell 2).trans rfl⟩, fun hHeld => ?_⟩
      refine wpAnyH_pure (i := 25) (some 112) (.agg #[.string ⟨#[]⟩, .string ⟨#[]⟩, .slice A6 (compactL p.edits).length c6]) (by kernel_rfl) (by kernel_rfl) (by kernel_rfl) (by kernel_rfl) (fun _ _ _ h => h) (by kernel_rfl) (by intro w; kernel_rfl) (by assumption) ?_
      refine wpAnyH_call (i := 26) (by kernel_rfl) 10 #[.tmp 106, .tmp 112] #[24, 24] (some 113) (by kernel_rfl) (by kernel_rfl) Tryd.call10 #[.agg #[.string ⟨#[]⟩, .string ⟨#[]⟩, .slice ps.A ps.edits.length ps.c], .agg #[.string ⟨#[]⟩, .string ⟨#[]⟩, .slice A6 (compactL p.edits).length c6]] (by kernel_rfl) (Same_L ps.A ps.c ps.edits A6 c6 (compactL p.edits) HSL.out _ (HOpsw17f.out.more HLpsw17f.out) (Reads.of_own HO6.out) (compact_len HRP.out HTP.out).1 (compact_len HRP.out HTP.out).2) ?_
      rintro r w18f ⟨rfl, hb⟩
      refine ⟨_, rfl, ?_⟩
      have HPw18f := Lib.hid (HPw17f.out.below hb HPw17f.out.lt)
      have HQw18f := Lib.hid (HQw17f.out.below hb HQw17f.out.lt)
      have HRw18f := Lib.hid (HRw17f.out.below hb HRw17f.out.lt)
      have HMw18f := Lib.hid (HMw17f.out.below hb HMw17f.out.lt)
      have HNw18f := Lib.hid (HNw17f.out.below hb HNw17f.out.lt)
      have HALw18f := Lib.hid (HALw17f.out.below hb HALw17f.out.lt)
      have HSw18f := Lib.hid (HSw17f.out.below hb HSw17f.out.lt)
      have HOpaw18f := Lib.hid (HOpaw17f.out.below (hb.mono HLpaw17f.out)); have HLpaw18f := Lib.hid (Nat.le_trans HLpaw17f.out hb.size)
      have HOpbw18f := Lib.hid (HOpbw17f.out.below (hb.mono HLpbw17f.out)); have HLpbw18f := Lib.hid (Nat.le_trans HLpbw17f.out hb.size)
      have HOallw18f := Lib.hid (HOallw17f.out.below (hb.mono HLallw17f.out)); have HLallw18f := Lib.hid (Nat.le_trans HLallw17f.out hb.size)
      have HOpsw18f := Lib.hid (HOpsw17f.out.below (hb.mono HLpsw17f.out)); have HLpsw18f := Lib.hid (Nat.le_trans HLpsw17f.out hb.size)
      have HBw18f := Lib.hid (HBw17f.out.trans (hb.mono HBw17f.out.size))
      have HTw18f := Lib.hid (HTB.out.below HBw18f.out HTB.out.size)
      have HCw18f := Lib.hid (HCw17f.out.trans (hb.mono HCw17f.out.size))
      clear hb HCw17f HPw17f HQw17f HRw17f HMw17f HNw17f HALw17f HSw17f HOpaw17f HLpaw17f HOpbw17f HLpbw17f HOallw17f HLallw17f HOpsw17f HLpsw17f HBw17f HTw17f
      refine ⟨⟨trivial, (HSw18f.out.cell 0).trans (by show some (Value.string ⟨ps.from_.toArray⟩) = _; rw [show ps.from_ = PF from congrArg PD.from_ HDps.out]), (HPw18f.out.cell 0).trans (by show some (Value.string ⟨p.from_.toArray⟩) = _; rw [HPF.out]), (HSw18f.out.cell 1).trans (by show some (Value.string ⟨ps.to_.toArray⟩) = _; rw [show ps.to_ = PT from congrArg PD.to_ HDps.out]), (HPw18f.out.cell 1).trans (by show some (Value.string ⟨p.to_.toArray⟩) = _; rw [HPT.out]), (HSw18f.out.cell 2).trans rfl, (HPw18f.out.cell 2).trans rfl⟩, fun hHeld => ?_⟩
      refine wpAnyH_pure (i := 27) (some 114) (.bool false) (by kernel_rfl) (by kernel_rfl) (by kernel_rfl) (by kernel_rfl) (fun _ _ _ h => h) (by kernel_rfl) (by intro w; kernel_rfl) (by assumption) ?_
      refine wpAnyH_pure (i := 28) (some 115) (.bool false) (by kernel_rfl) (by kernel_rfl) (by kernel_rfl) (by kernel_rfl) (fun _ _ _ h => h) (by kernel_rfl) (by intro w; kernel_rfl) (by assumption) ?_
      (try simp only [Act.put, List.setIfInBounds_toArray, List.set_cons_zero, List.set_cons_succ])
      refine wpAnyH_done (by kernel_rfl) ?_ _
      go_wp2_with fail
      go_meet
      exact ⟨rfl, HCw18f⟩
    · go_wp2_with fail
      go_meet
      exact ⟨rfl, Lib.hid (Below.refl _ _)⟩
  case rest =>
    obtain ⟨rfl, HBq⟩ := hcut
    have hb := HBq.out; clear HBq
    have HPwc := Lib.hid (HPw12.out.below hb HPw12.out.lt)
    have HQwc := Lib.hid (HQw12.out.below hb HQw12.out.lt)
    have HRwc := Lib.hid (HRw12.out.below hb HRw12.out.lt)
    have HMwc := Lib.hid (HMw12.out.below hb HMw12.out.lt)
    have HNwc := Lib.hid (HNw12.out.below hb HNw12.out.lt)
    have HOpawc := Lib.hid (HOpaw12.out.below (hb.mono HLpaw12.out)); have HLpawc := Lib.hid (Nat.le_trans HLpaw12.out hb.size)
    have HOpbwc := Lib.hid (HOpbw12.out.below (hb.mono HLpbw12.out)); have HLpbwc := Lib.hid (Nat.le_trans HLpbw12.out hb.size)
    have HBwc := Lib.hid (HBw12.out.trans (hb.mono HBw12.out.size))
    have HTwc := Lib.hid (HTB.out.below HBwc.out HTB.out.size)
    clear hb HPw12 HQw12 HRw12 HMw12 HNw12 HOpaw12 HLpaw12 HOpbw12 HLpbw12 HBw12 HTw12
    rcases HEA.out with h | h | h
    · subst h
      rcases HEB.out with h | h | h
      · subst h
        obtain ⟨RX, EX, hX⟩ : ∃ RX EX, joinR p.pd RB = (RX, EX) := ⟨_, _, rfl⟩
        have HJ3 : Hid (joinR pa.pd r2.pd = (RX, EX)) := Lib.hid (by rw [HDpa.out, (HJK.out rfl rfl).1, hX])
        have HJ4 : Hid (joinR p.pd pb.pd = (RX, EX)) := Lib.hid (by rw [HDpb.out, hX])
        obtain ⟨TQ, hTQ⟩ : ∃ T, totalI q.edits = T := ⟨_, rfl⟩
        have HTA : Hid (totalI pa.edits = TQ) := Lib.hid (by have h : pa.edits = RA.edits := congrArg PD.edits HDpa.out; rw [h, (HJK.out rfl rfl).2, hTQ])
        have HTB2 : Hid (totalI q2.edits = TQ) := Lib.hid (by rw [HQE.out, hTQ])
        have HEPA : Hid (∀ e ∈ pa.edits, EOk e) := Lib.hid (by
          have h : pa.edits = RA.edits := congrArg PD.edits HDpa.out
          rw [h]
          exact fun e he => rightE_EOk (((rightPD_iff RA).1 (HRA.out rfl)).edits e he))
        have HEQ2 : Hid (∀ e ∈ q2.edits, EOk e) := Lib.hid (by rw [HQE.out]; exact fun e he => rightE_EOk (HRQ.out e he))
        have HTQ1 : Hid (TQ ≤ 16777216) := Lib.hid (by rw [← hTQ]; exact HTQ.out)
        clear hX hTQ
        go_wp2_with (first
            | (refine wpList_load_mid rfl 24 _ rfl w.heap.size 0 rfl p.parts _ HPwc.out.range Tryd.underlying24 rfl (patchInfo p) ?_)
            | (refine wpList_load_mid rfl 24 _ rfl (w.heap.size + 1) 0 rfl q2.parts _ HQwc.out.range Tryd.underlying24 rfl (patchInfo q2) ?_)
            | (refine wpList_load_mid rfl 24 _ rfl (w.heap.size + 2) 0 rfl r2.parts _ HRwc.out.range Tryd.underlying24 rfl (patchInfo r2) ?_)
            | (refine wpList_load_mid rfl 24 _ rfl w8.heap.size 0 rfl pa.parts _ HMwc.out.range Tryd.underlying24 rfl (patchInfo pa) ?_)
            | (refine wpList_load_mid rfl 24 _ rfl w10.heap.size 0 rfl pb.parts _ HNwc.out.range Tryd.underlying24 rfl (patchInfo pb) ?_)
            | fail)
        have HC := Lib.hid (Join_E pa r2 RX EX HJ3.out wc (HOpawc.out.more HLpawc.out) ((HR2O.out.below HBwc.out).more HBwc.out.size))
        refine (HC.out).mono ?_
        rintro r w13k ⟨x, rfl, hx, hkx, hb⟩
        clear HC
        have HDx := Lib.hid hx; clear hx
        have HPw13k := Lib.hid (HPwc.out.below hb HPwc.out.lt)
        have HQw13k := Lib.hid (HQwc.out.below hb HQwc.out.lt)
        have HRw13k := Lib.hid (HRwc.out.below hb HRwc.out.lt)
        have HMw13k := Lib.hid (HMwc.out.below hb HMwc.out.lt)
        have HNw13k := Lib.hid (HNwc.out.below hb HNwc.out.lt)
        have HOpaw13k := Lib.hid (HOpawc.out.below (hb.mono HLpawc.out)); have HLpaw13k := Lib.hid (Nat.le_trans HLpawc.out hb.size)
        have HOpbw13k := Lib.hid (HOpbwc.out.below (hb.mono HLpbwc.out)); have HLpbw13k := Lib.hid (Nat.le_trans HLpbwc.out hb.size)
        have HBw13k := Lib.hid (HBwc.out.trans (hb.mono HBwc.out.size))
        have HTw13k := Lib.hid (HTB.out.below HBw13k.out HTB.out.size)
        clear hb HPwc HQwc HRwc HMwc HNwc HOpawc HLpawc HOpbwc HLpbwc HBwc HTwc
        have HOxw13k := Lib.hid hkx; have HLxw13k : Hid (w13k.heap.size ≤ w13k.heap.size) := Lib.hid (Nat.le_refl _); clear hkx
        go_wp2_with (first
            | (refine wpList_load_mid rfl 24 _ rfl w.heap.size 0 rfl p.parts _ HPw13k.out.range Tryd.underlying24 rfl (patchInfo p) ?_)
            | (refine wpList_load_mid rfl 24 _ rfl (w.heap.size + 1) 0 rfl q2.parts _ HQw13k.out.range Tryd.underlying24 rfl (patchInfo q2) ?_)
            | (refine wpList_load_mid rfl 24 _ rfl (w.heap.size + 2) 0 rfl r2.parts _ HRw13k.out.range Tryd.underlying24 rfl (patchInfo r2) ?_)
            | (refine wpList_load_mid rfl 24 _ rfl w8.heap.size 0 rfl pa.parts _ HMw13k.out.range Tryd.underlying24 rfl (patchInfo pa) ?_)
            | (refine wpList_load_mid rfl 24 _ rfl w10.heap.size 0 rfl pb.parts _ HNw13k.out.range Tryd.underlying24 rfl (patchInfo pb) ?_)
            | (refine wpList_new_store rfl 24 _ _ rfl x.parts rfl rfl rfl (patchInfo x) (PatchD.one x) ?_))
        intro w14k hx hb
        have HN := Lib.hid hx; clear hx
        have HPw14k := Lib.hid (HPw13k.out.below hb HPw13k.out.lt)
        have HQw14k := Lib.hid (HQw13k.out.below hb HQw13k.out.lt)
        have HRw14k := Lib.hid (HRw13k.out.below hb HRw13k.out.lt)
        have HMw14k := Lib.hid (HMw13k.out.below hb HMw13k.out.lt)
        have HNw14k := Lib.hid (HNw13k.out.below hb HNw13k.out.lt)
        have HOpaw14k := Lib.hid (HOpaw13k.out.below (hb.mono HLpaw13k.out)); have HLpaw14k := Lib.hid (Nat.le_trans HLpaw13k.out hb.size)
        have HOpbw14k := Lib.hid (HOpbw13k.out.below (hb.mono HLpbw13k.out)); have HLpbw14k := Lib.hid (Nat.le_trans HLpbw13k.out hb.size)
        have HOxw14k := Lib.hid (HOxw13k.out.below (hb.mono HLxw13k.out)); have HLxw14k := Lib.hid (Nat.le_trans HLxw13k.out hb.size)
        have HBw14k := Lib.hid (HBw13k.out.trans (hb.mono HBw13k.out.size))
        have HTw14k := Lib.hid (HTB.out.below HBw14k.out HTB.out.size)
        clear hb HPw13k HQw13k HRw13k HMw13k HNw13k HOpaw13k HLpaw13k HOpbw13k HLpbw13k HOxw13k HLxw13k HBw13k HTw13k
        have HXw14k := HN; clear HN
        go_wp2_with (first
            | (refine wpList_load_mid rfl 24 _ rfl w.heap.size 0 rfl p.parts _ HPw14k.out.range Tryd.underlying24 rfl (patchInfo p) ?_)
            | (refine wpList_load_mid rfl 24 _ rfl (w.heap.size + 1) 0 rfl q2.parts _ HQw14k.out.range Tryd.underlying24 rfl (patchInfo q2) ?_)
            | (refine wpList_load_mid rfl 24 _ rfl (w.heap.size + 2) 0 rfl r2.parts _ HRw14k.out.range Tryd.underlying24 rfl (patchInfo r2) ?_)
            | (refine wpList_load_mid rfl 24 _ rfl w8.heap.size 0 rfl pa.parts _ HMw14k.out.range Tryd.underlying24 rfl (patchInfo pa) ?_)
            | (refine wpList_load_mid rfl 24 _ rfl w10.heap.size 0 rfl pb.parts _ HNw14k.out.range Tryd.underlying24 rfl (patchInfo pb) ?_)
            | (refine wpList_load_mid rfl 24 _ rfl w13k.heap.size 0 rfl x.parts _ HXw14k.out.range Tryd.underlying24 rfl (patchInfo x) ?_)
            | fail)
        have HC := Lib.hid (Join_E p pb RX EX HJ4.out w14k ((HPO.out.below HBw14k.out).more HBw14k.out.size) (HOpbw14k.out.more HLpbw14k.out))
        refine (HC.out).mono ?_
        rintro r w15k ⟨y, rfl, hy, hky, hb⟩
        clear HC
        have HDy := Lib.hid hy; clear hy
        have HPw15k := Lib.hid (HPw14k.out.below hb HPw14k.out.lt)
        have HQw15k := Lib.hid (HQw14k.out.below hb HQw14k.out.lt)
        have HRw15k := Lib.hid (HRw14k.out.below hb HRw14k.out.lt)
        have HMw15k := Lib.hid (HMw14k.out.below hb HMw14k.out.lt)
        have HNw15k := Lib.hid (HNw14k.out.below hb HNw14k.out.lt)
        have HXw15k := Lib.hid (HXw14k.out.below hb HXw14k.out.lt)
        have HOpaw15k := Lib.hid (HOpaw14k.out.below (hb.mono HLpaw14k.out)); have HLpaw15k := Lib.hid (Nat.le_trans HLpaw14k.out hb.size)
        have HOpbw15k := Lib.hid (HOpbw14k.out.below (hb.mono HLpbw14k.out)); have HLpbw15k := Lib.hid (Nat.le_trans HLpbw14k.out hb.size)
        have HOxw15k := Lib.hid (HOxw14k.out.below (hb.mono HLxw14k.out)); have HLxw15k := Lib.hid (Nat.le_trans HLxw14k.out hb.size)
        have HBw15k := Lib.hid (HBw14k.out.trans (hb.mono HBw14k.out.size))
        have HTw15k := Lib.hid (HTB.out.below HBw15k.out HTB.out.size)
        clear hb HPw14k HQw14k HRw14k HMw14k HNw14k HXw14k HOpaw14k HLpaw14k HOpbw14k HLpbw14k HOxw14k HLxw14k HBw14k HTw14k
        have HOyw15k := Lib.hid hky; have HLyw15k : Hid (w15k.heap.size ≤ w15k.heap.size) := Lib.hid (Nat.le_refl _); clear hky
        go_wp2_with (first
            | (refine wpList_load_mid rfl 24 _ rfl w.heap.size 0 rfl p.parts _ HPw15k.out.range Tryd.underlying24 rfl (patchInfo p) ?_)
            | (refine wpList_load_mid rfl 24 _ rfl (w.heap.size + 1) 0 rfl q2.parts _ HQw15k.out.range Tryd.underlying24 rfl (patchInfo q2) ?_)
            | (refine wpList_load_mid rfl 24 _ rfl (w.heap.size + 2) 0 rfl r2.parts _ HRw15k.out.range Tryd.underlying24 rfl (patchInfo r2) ?_)
            | (refine wpList_load_mid rfl 24 _ rfl w8.heap.size 0 rfl pa.parts _ HMw15k.out.range Tryd.underlying24 rfl (patchInfo pa) ?_)
            | (refine wpList_load_mid rfl 24 _ rfl w10.heap.size 0 rfl pb.parts _ HNw15k.out.range Tryd.underlying24 rfl (patchInfo pb) ?_)
            | (refine wpList_load_mid rfl 24 _ rfl w13k.heap.size 0 rfl x.parts _ HXw15k.out.range Tryd.underlying24 rfl (patchInfo x) ?_)
            | (refine wpList_new_store rfl 24 _ _ rfl y.parts rfl rfl rfl (patchInfo y) (PatchD.one y) ?_))
        intro w16k hx hb
        have HN := Lib.hid hx; clear hx
        have HPw16k := Lib.hid (HPw15k.out.below hb HPw15k.out.lt)
        have HQw16k := Lib.hid (HQw15k.out.below hb HQw15k.out.lt)
        have HRw16k := Lib.hid (HRw15k.out.below hb HRw15k.out.lt)
        have HMw16k := Lib.hid (HMw15k.out.below hb HMw15k.out.lt)
        have HNw16k := Lib.hid (HNw15k.out.below hb HNw15k.out.lt)
        have HXw16k := Lib.hid (HXw15k.out.below hb HXw15k.out.lt)
        have HOpaw16k := Lib.hid (HOpaw15k.out.below (hb.mono HLpaw15k.out)); have HLpaw16k := Lib.hid (Nat.le_trans HLpaw15k.out hb.size)
        have HOpbw16k := Lib.hid (HOpbw15k.out.below (hb.mono HLpbw15k.out)); have HLpbw16k := Lib.hid (Nat.le_trans HLpbw15k.out hb.size)
        have HOxw16k := Lib.hid (HOxw15k.out.below (hb.mono HLxw15k.out)); have HLxw16k := Lib.hid (Nat.le_trans HLxw15k.out hb.size)
        have HOyw16k := Lib.hid (HOyw15k.out.below (hb.mono HLyw15k.out)); have HLyw16k := Lib.hid (Nat.le_trans HLyw15k.out hb.size)
        have HBw16k := Lib.hid (HBw15k.out.trans (hb.mono HBw15k.out.size))
        have HTw16k := Lib.hid (HTB.out.below HBw16k.out HTB.out.size)
        clear hb HPw15k HQw15k HRw15k HMw15k HNw15k HXw15k HOpaw15k HLpaw15k HOpbw15k HLpbw15k HOxw15k HLxw15k HOyw15k HLyw15k HBw15k HTw15k
        have HYw16k := HN; clear HN
        go_wp2_with fail
        have hdr : Below w16k.heap.size w16k w16k.drew := (Below.refl _ _).drew
        have HPw16kd := Lib.hid (HPw16k.out.below hdr HPw16k.out.lt)
        have HQw16kd := Lib.hid (HQw16k.out.below hdr HQw16k.out.lt)
        have HRw16kd := Lib.hid (HRw16k.out.below hdr HRw16k.out.lt)
        have HMw16kd := Lib.hid (HMw16k.out.below hdr HMw16k.out.lt)
        have HNw16kd := Lib.hid (HNw16k.out.below hdr HNw16k.out.lt)
        have HXw16kd := Lib.hid (HXw16k.out.below hdr HXw16k.out.lt)
        have HYw16kd := Lib.hid (HYw16k.out.below hdr HYw16k.out.lt)
        have HOpaw16kd := Lib.hid (HOpaw16k.out.below (hdr.mono HLpaw16k.out)); have HLpaw16kd := Lib.hid (Nat.le_trans HLpaw16k.out hdr.size)
        have HOpbw16kd := Lib.hid (HOpbw16k.out.below (hdr.mono HLpbw16k.out)); have HLpbw16kd := Lib.hid (Nat.le_trans HLpbw16k.out hdr.size)
        have HOxw16kd := Lib.hid (HOxw16k.out.below (hdr.mono HLxw16k.out)); have HLxw16kd := Lib.hid (Nat.le_trans HLxw16k.out hdr.size)
        have HOyw16kd := Lib.hid (HOyw16k.out.below (hdr.mono HLyw16k.out)); have HLyw16kd := Lib.hid (Nat.le_trans HLyw16k.out hdr.size)
        have HBw16kd := Lib.hid (HBw16k.out.trans (hdr.mono HBw16k.out.size))
        have HTw16kd := Lib.hid (HTB.out.below HBw16kd.out HTB.out.size)
        clear HPw16k HQw16k HRw16k HMw16k HNw16k HXw16k HYw16k HOpaw16k HLpaw16k HOpbw16k HLpbw16k HOxw16k HLxw16k HOyw16k HLyw16k HBw16k HTw16k
        refine wp_region_held_drew (S := (fun w' => True ∧ w'.rangeAt (w13k.heap.size) 0 x.parts ∧ w'.rangeAt (w15k.heap.size) 0 y.parts ∧ w'.cell? ⟨w8.heap.size, 2, none⟩ = some (.slice pa.A pa.edits.length pa.c) ∧ w'.cell? ⟨(w.heap.size + 1), 2, none⟩ = some (.slice q2.A q2.edits.length q2.c))) (by kernel_rfl) ⟨trivial, HXw16kd.out.range, HYw16kd.out.range, (HMw16kd.out.cell 2).trans rfl, (HQw16kd.out.cell 2).trans rfl⟩ (fun hHeld => ?_)
        refine wpAnyH_pure (i := 0) (some 147) (.bool true) (by kernel_rfl) (by kernel_rfl) (by kernel_rfl) (by kernel_rfl) (fun _ _ _ h => h) (by kernel_rfl) (by intro w; kernel_rfl) (by assumption) ?_
        refine wpAnyH_pure (i := 1) (some 148) (.bool true) (by kernel_rfl) (by kernel_rfl) (by kernel_rfl) (by kernel_rfl) (fun _ _ _ h => h) (by kernel_rfl) (by intro w; kernel_rfl) (by assumption) ?_
        refine wpAnyH_pure (i := 2) (some 149) (.int .i64 EX) (by kernel_rfl) (by kernel_rfl) (by kernel_rfl) (by kernel_rfl) (fun _ _ _ h => h) (by kernel_rfl) (by intro w; kernel_rfl) (by assumption) ?_
        refine wpAnyH_pure (i := 3) (some 150) (.int .i64 EX) (by kernel_rfl) (by kernel_rfl) (by kernel_rfl) (by kernel_rfl) (fun _ _ _ h => h) (by kernel_rfl) (by intro w; kernel_rfl) (by assumption) ?_
        (try simp only [Act.put, List.setIfInBounds_toArray, List.set_cons_zero, List.set_cons_succ])
        refine wpAnyH_read (i := 4) (some 151) (.bool true) (by kernel_rfl) (by kernel_rfl) (by kernel_rfl) (by kernel_rfl) (fun _ _ _ h => h) (by kernel_rfl) (by intro o ho w hSw; cases ho; (try dsimp only at hSw); go_simp) (by assumption) ?_
        (try simp only [Act.put, List.setIfInBounds_toArray, List.set_cons_zero, List.set_cons_succ])
        refine wpAnyH_pure (i := 5) (some 152) (.bool true) (by kernel_rfl) (by kernel_rfl) (by kernel_rfl) (by kernel_rfl) (fun _ _ _ h => h) (by kernel_rfl) (by intro w; kernel_rfl) (by assumption) ?_
        refine wpAnyH_pure (i := 6) (some 153) (.bool true) (by kernel_rfl) (by kernel_rfl) (by kernel_rfl) (by kernel_rfl) (fun _ _ _ h => h) (by kernel_rfl) (by intro w; kernel_rfl) (by assumption) ?_
        refine wpAnyH_loadB (i := 7) (some 154) 24 (.tmp 16) (w13k.heap.size) (x.parts) _ (by kernel_rfl) (by kernel_rfl) (by kernel_rfl) (by kernel_rfl) (fun _ _ _ h => h) (by kernel_rfl) (by kernel_rfl) (fun w h => h.2.1) Tryd.underlying24 rfl (patchInfo x) (by assumption) ?_
        refine wpAnyH_loadB (i := 8) (some 155) 24 (.tmp 18) (w15k.heap.size) (y.parts) _ (by kernel_rfl) (by kernel_rfl) (by kernel_rfl) (by kernel_rfl) (fun _ _ _ h => h) (by kernel_rfl) (by kernel_rfl) (fun w h => h.2.2.1) Tryd.underlying24 rfl (patchInfo y) (by assumption) ?_
        refine wpAnyH_call (i := 9) (by kernel_rfl) 10 #[.tmp 154, .tmp 155] #[24, 24] (some 156) (by kernel_rfl) (by kernel_rfl) Tryd.call10 #[.agg (x.parts).toArray, .agg (y.parts).toArray] (by kernel_rfl) (Same_E x y (HDx.out.trans HDy.out.symm) _ (HOxw16kd.out.more HLxw16kd.out) (HOyw16kd.out.more HLyw16kd.out)) ?_
        rintro r w17k ⟨rfl, hb⟩
        refine ⟨_, rfl, ?_⟩
        have HPw17k := Lib.hid (HPw16kd.out.below hb HPw16kd.out.lt)
        have HQw17k := Lib.hid (HQw16kd.out.below hb HQw16kd.out.lt)
        have HRw17k := Lib.hid (HRw16kd.out.below hb HRw16kd.out.lt)
        have HMw17k := Lib.hid (HMw16kd.out.below hb HMw16kd.out.lt)
        have HNw17k := Lib.hid (HNw16kd.out.below hb HNw16kd.out.lt)
        have HXw17k := Lib.hid (HXw16kd.out.below hb HXw16kd.out.lt)
        have HYw17k := Lib.hid (HYw16kd.out.below hb HYw16kd.out.lt)
        have HOpaw17k := Lib.hid (HOpaw16kd.out.below (hb.mono HLpaw16kd.out)); have HLpaw17k := Lib.hid (Nat.le_trans HLpaw16kd.out hb.size)
        have HOpbw17k := Lib.hid (HOpbw16kd.out.below (hb.mono HLpbw16kd.out)); have HLpbw17k := Lib.hid (Nat.le_trans HLpbw16kd.out hb.size)
        have HOxw17k := Lib.hid (HOxw16kd.out.below (hb.mono HLxw16kd.out)); have HLxw17k := Lib.hid (Nat.le_trans HLxw16kd.out hb.size)
        have HOyw17k := Lib.hid (HOyw16kd.out.below (hb.mono HLyw16kd.out)); have HLyw17k := Lib.hid (Nat.le_trans HLyw16kd.out hb.size)
        have HBw17k := Lib.hid (HBw16kd.out.trans (hb.mono HBw16kd.out.size))
        have HTw17k := Lib.hid (HTB.out.below HBw17k.out HTB.out.size)
        clear hb HPw16kd HQw16kd HRw16kd HMw16kd HNw16kd HXw16kd HYw16kd HOpaw16kd HLpaw16kd HOpbw16kd HLpbw16kd HOxw16kd HLxw16kd HOyw16kd HLyw16kd HBw16kd HTw16kd
        refine ⟨⟨trivial, HXw17k.out.range, HYw17k.out.range, (HMw17k.out.cell 2).trans rfl, (HQw17k.out.cell 2).trans rfl⟩, fun hHeld => ?_⟩
        refine wpAnyH_pure (i := 10) (some 157) (.bool true) (by kernel_rfl) (by kernel_rfl) (by kernel_rfl) (by kernel_rfl) (fun _ _ _ h => h) (by kernel_rfl) (by intro w; kernel_rfl) (by assumption) ?_
        (try simp only [Act.put, List.setIfInBounds_toArray, List.set_cons_zero, List.set_cons_succ])
        refine wpAnyH_pure (i := 11) (some 158) (.bool true) (by kernel_rfl) (by kernel_rfl) (by kernel_rfl) (by kernel_rfl) (fun _ _ _ h => h) (by kernel_rfl) (by intro w; kernel_rfl) (by assumption) ?_
        refine wpAnyH_pure (i := 12) (some 159) (.pointer (some ⟨w8.heap.size, 2, none⟩)) (by kernel_rfl) (by kernel_rfl) (by kernel_rfl) (by kernel_rfl) (fun _ _ _ h => h) (by kernel_rfl) (by intro w; kernel_rfl) (by assumption) ?_
        (try simp only [Act.put, List.setIfInBounds_toArray, List.set_cons_zero, List.set_cons_succ])
        refine wpAnyH_read (i := 13) (some 160) (.slice pa.A pa.edits.length pa.c) (by kernel_rfl) (by kernel_rfl) (by kernel_rfl) (by kernel_rfl) (fun _ _ _ h => h) (by kernel_rfl) (by intro o ho w hSw; cases ho; (try dsimp only at hSw); go_simp) (by assumption) ?_
        (try simp only [Act.put, List.setIfInBounds_toArray, List.set_cons_zero, List.set_cons_succ])
        refine wpAnyH_pure (i := 15) (some 162) (.pointer (some ⟨(w.heap.size + 1), 2, none⟩)) (by kernel_rfl) (by kernel_rfl) (by kernel_rfl) (by kernel_rfl) (fun _ _ _ h => h) (by kernel_rfl) (by intro w; kernel_rfl) (by assumption) ?_
        (try simp only [Act.put, List.setIfInBounds_toArray, List.set_cons_zero, List.set_cons_succ])
        refine wpAnyH_read (i := 16) (some 163) (.slice q2.A q2.edits.length q2.c) (by kernel_rfl) (by kernel_rfl) (by kernel_rfl) (by kernel_rfl) (fun _ _ _ h => h) (by kernel_rfl) (by intro o ho w hSw; cases ho; (try dsimp only at hSw); go_simp) (by assumption) ?_
        (try simp only [Act.put, List.setIfInBounds_toArray, List.set_cons_zero, List.set_cons_succ])
        (try simp only [Act.put, List.setIfInBounds_toArray, List.set_cons_zero, List.set_cons_succ])
        refine wpAnyH_call (i := 14) (by kernel_rfl) 19 #[.tmp 160] #[22] (some 161) (by kernel_rfl) (by kernel_rfl) Tryd.call19 #[.slice pa.A pa.edits.length pa.c] (by kernel_rfl) (Total_E pa.A pa.c pa.edits TQ HTA.out _ (HOpaw17k.out.more HLpaw17k.out).cells HEPA.out (by rw [HTA.out]; have := HTQ1.out; omega)) ?_
        rintro r w18k ⟨rfl, hb⟩
        refine ⟨_, rfl, ?_⟩
        have HPw18k := Lib.hid (HPw17k.out.below hb HPw17k.out.lt)
        have HQw18k := Lib.hid (HQw17k.out.below hb HQw17k.out.lt)
        have HRw18k := Lib.hid (HRw17k.out.below hb HRw17k.out.lt)
        have HMw18k := Lib.hid (HMw17k.out.below hb HMw17k.out.lt)
        have HNw18k := Lib.hid (HNw17k.out.below hb HNw17k.out.lt)
        have HXw18k := Lib.hid (HXw17k.out.below hb HXw17k.out.lt)
        have HYw18k := Lib.hid (HYw17k.out.below hb HYw17k.out.lt)
        have HOpaw18k := Lib.hid (HOpaw17k.out.below (hb.mono HLpaw17k.out)); have HLpaw18k := Lib.hid (Nat.le_trans HLpaw17k.out hb.size)
        have HOpbw18k := Lib.hid (HOpbw17k.out.below (hb.mono HLpbw17k.out)); have HLpbw18k := Lib.hid (Nat.le_trans HLpbw17k.out hb.size)
        have HOxw18k := Lib.hid (HOxw17k.out.below (hb.mono HLxw17k.out)); have HLxw18k := Lib.hid (Nat.le_trans HLxw17k.out hb.size)
        have HOyw18k := Lib.hid (HOyw17k.out.below (hb.mono HLyw17k.out)); have HLyw18k := Lib.hid (Nat.le_trans HLyw17k.out hb.size)
        have HBw18k := Lib.hid (HBw17k.out.trans (hb.mono HBw17k.out.size))
        have HTw18k := Lib.hid (HTB.out.below HBw18k.out HTB.out.size)
        clear hb HPw17k HQw17k HRw17k HMw17k HNw17k HXw17k HYw17k HOpaw17k HLpaw17k HOpbw17k HLpbw17k HOxw17k HLxw17k HOyw17k HLyw17k HBw17k HTw17k
        refine ⟨⟨trivial, HXw18k.out.range, HYw18k.out.range, (HMw18k.out.cell 2).trans rfl, (HQw18k.out.cell 2).trans rfl⟩, fun hHeld => ?_⟩
        refine wpAnyH_call (i := 17) (by kernel_rfl) 19 #[.tmp 163] #[22] (some 164) (by kernel_rfl) (by kernel_rfl) Tryd.call19 #[.slice q2.A q2.edits.length q2.c] (by kernel_rfl) (Total_E q2.A q2.c q2.edits TQ HTB2.out _ ((HQ2O.out.below HBw18k.out).more HBw18k.out.size).cells HEQ2.out (by rw [HTB2.out]; have := HTQ1.out; omega)) ?_
        rintro r w19k ⟨rfl, hb⟩
        refine ⟨_, rfl, ?_⟩
        have HPw19k := Lib.hid (HPw18k.out.below hb HPw18k.out.lt)
        have HQw19k := Lib.hid (HQw18k.out.below hb HQw18k.out.lt)
        have HRw19k := Lib.hid (HRw18k.out.below hb HRw18k.out.lt)
        have HMw19k := Lib.hid (HMw18k.out.below hb HMw18k.out.lt)
        have HNw19k := Lib.hid (HNw18k.out.below hb HNw18k.out.lt)
        have HXw19k := Lib.hid (HXw18k.out.below hb HXw18k.out.lt)
        have HYw19k := Lib.hid (HYw18k.out.below hb HYw18k.out.lt)
        have HOpaw19k := Lib.hid (HOpaw18k.out.below (hb.mono HLpaw18k.out)); have HLpaw19k := Lib.hid (Nat.le_trans HLpaw18k.out hb.size)
        have HOpbw19k := Lib.hid (HOpbw18k.out.below (hb.mono HLpbw18k.out)); have HLpbw19k := Lib.hid (Nat.le_trans HLpbw18k.out hb.size)
        have HOxw19k := Lib.hid (HOxw18k.out.below (hb.mono HLxw18k.out)); have HLxw19k := Lib.hid (Nat.le_trans HLxw18k.out hb.size)
        have HOyw19k := Lib.hid (HOyw18k.out.below (hb.mono HLyw18k.out)); have HLyw19k := Lib.hid (Nat.le_trans HLyw18k.out hb.size)
        have HBw19k := Lib.hid (HBw18k.out.trans (hb.mono HBw18k.out.size))
        have HTw19k := Lib.hid (HTB.out.below HBw19k.out HTB.out.size)
        clear hb HPw18k HQw18k HRw18k HMw18k HNw18k HXw18k HYw18k HOpaw18k HLpaw18k HOpbw18k HLpbw18k HOxw18k HLxw18k HOyw18k HLyw18k HBw18k HTw18k
        refine ⟨⟨trivial, HXw19k.out.range, HYw19k.out.range, (HMw19k.out.cell 2).trans rfl, (HQw19k.out.cell 2).trans rfl⟩, fun hHeld => ?_⟩
        (try simp only [Act.put, List.setIfInBounds_toArray, List.set_cons_zero, List.set_cons_succ])
        refine wpAnyH_read (i := 18) (some 165) (.bool true) (by kernel_rfl) (by kernel_rfl) (by kernel_rfl) (by kernel_rfl) (fun _ _ _ h => h) (by kernel_rfl) (by intro o ho w hSw; cases ho; (try dsimp only at hSw); go_simp) (by assumption) ?_
        (try simp only [Act.put, List.setIfInBounds_toArray, List.set_cons_zero, List.set_cons_succ])
        refine wpAnyH_pure (i := 19) (some 166) (.bool true) (by kernel_rfl) (by kernel_rfl) (by kernel_rfl) (by kernel_rfl) (fun _ _ _ h => h) (by kernel_rfl) (by intro w; kernel_rfl) (by assumption) ?_
        refine wpAnyH_pure (i := 20) (some 6) (.bool true) (by kernel_rfl) (by kernel_rfl) (by kernel_rfl) (by kernel_rfl) (fun _ _ _ h => h) (by kernel_rfl) (by intro w; kernel_rfl) (by assumption) ?_
        (try simp only [Act.put, List.setIfInBounds_toArray, List.set_cons_zero, List.set_cons_succ])
        refine wpAnyH_done (by kernel_rfl) ?_ _
        go_wp2
        go_ret
        exact ⟨rfl, HBw19k.out⟩
      · subst h
        go_wp2
        go_ret
        exact ⟨rfl, HBwc.out⟩
      · subst h
        go_wp2
        go_ret
        exact ⟨rfl, HBwc.out⟩
    · subst h
      go_wp2
      go_ret
      exact ⟨rfl, HBwc.out⟩
    · subst h
      go_wp2
      go_ret
      exact ⟨rfl, HBwc.out⟩

theorem light_total : ∀ (es : List EditD), totalI es ≤ (es.map lightN).sum
  | [] => by simp [totalI]
  | e :: l => by
    have h := light_total l
    rw [totalI_cons, List.map_cons, List.sum_cons]
    have : lenI e ≤ lightN e := by unfold lenI lightN; omega
    omega
theorem walk (p q r : PatchD) (w : World) (hp : p.Ok w w.heap.size) (hq : q.Ok w w.heap.size) (hr : r.Ok w w.heap.size) (ht : Tabs w) :
    Calls Tryd.prog 5 #[.agg p.parts.toArray, .agg q.parts.toArray, .agg r.parts.toArray] w fun r w' => r = .returned (.bool true) ∧ Below w.heap.size w w' := by
  cases h0 : lightB p with
  | false => exact exit0 p q r w hp hq hr ht h0
  | true =>
  cases h1 : lightB q with
  | false => exact exit1 p q r w hp hq hr ht h0 h1
  | true =>
  cases h2 : lightB r with
  | false => exact exit2 p q r w hp hq hr ht h0 h1 h2
  | true =>
  cases h3 : rightPB p with
  | false => exact exit3 p q r w hp hq hr ht h0 h1 h2 h3
  | true =>
  cases h4 : rightPB q with
  | false => exact exit4 p q r w hp hq hr ht h0 h1 h2 h3 h4
  | true =>
  cases h5 : rightPB r with
  | false => exact exit5 p q r w hp hq hr ht h0 h1 h2 h3 h4 h5
  | true =>
    have rp : rightPD p.pd = true := h3
    have Rp := (rightPD_iff p.pd).1 h3
    have Rq := (rightPD_iff q.pd).1 h4
    have Rr := (rightPD_iff r.pd).1 h5
    have rq : rightPD (PatchD.mk p.to_ q.to_ q.A q.c q.edits).pd = true := (rightPD_iff _).2 ⟨Rp.to_, Rq.to_, Rq.len, Rq.edits, Rq.total⟩
    have rr : rightPD (PatchD.mk q.to_ r.to_ r.A r.c r.edits).pd = true := (rightPD_iff _).2 ⟨Rq.to_, Rr.to_, Rr.len, Rr.edits, Rr.total⟩
    have hL := h0
    simp only [lightB, Bool.and_eq_true, decide_eq_true_eq, List.all_eq_true] at hL
    obtain ⟨⟨⟨⟨l1, _⟩, _⟩, _⟩, l5⟩ := hL
    have lt := light_total p.edits
    exact main p q r w hp hq hr ht h0 h1 h2 h3 h4 h5 (joinR p.pd (PatchD.mk p.to_ q.to_ q.A q.c q.edits).pd).1 (joinR (PatchD.mk p.to_ q.to_ q.A q.c q.edits).pd (PatchD.mk q.to_ r.to_ r.A r.c r.edits).pd).1 _ _
      (joinR_err p.pd _ rp rq rfl) (joinR_err _ _ rq rr rfl) (fun h => (joinR_ok rp rq rfl h).2.2) rfl rfl
      (fun h => (joinR_all p.pd rp l1 (by show totalI p.edits ≤ 10000; omega) h).2)
      (fun ha hb => joinR_assoc p.pd _ _ rp rq rr rfl rfl ha hb)
theorem walkV (v0 v1 v2 : Value) (w : World) (hp : ∃ u : PatchD, v0 = .agg u.parts.toArray ∧ u.Ok w w.heap.size) (hq : ∃ u : PatchD, v1 = .agg u.parts.toArray ∧ u.Ok w w.heap.size) (hr : ∃ u : PatchD, v2 = .agg u.parts.toArray ∧ u.Ok w w.heap.size) (ht : Tabs w) :
    Calls Tryd.prog 5 #[v0, v1, v2] w fun r w' => r = .returned (.bool true) ∧ Below w.heap.size w w' := by
  obtain ⟨p, rfl, hp⟩ := hp
  obtain ⟨q, rfl, hq⟩ := hq
  obtain ⟨r, rfl, hr⟩ := hr
  exact walk p q r w hp hq hr ht

theorem own : ownKnob Tryd.prog.godebug = none := by kernel_rfl
theorem laidOut : laidOutB Tryd.prog = true := by kernel_rfl

set_option maxRecDepth 100000 in
/-- What the walk gives, for every argument and every world that holds the tables. -/
theorem contract (H : Type) (enc : TypeId × Value → H) (W : World) (base : Nat) (args : Array Value) (ds gs : List (DataW H)) (before : List MemPlace)
    (hval : ∀ (j : Nat) t v, Tryd.f5.params[j]? = some t → args[j]? = some v → Value.okWide Tryd.prog W .any base t v)
    (hW : DataW.Whole enc Tryd.prog Tryd.f5.params.toList Rows.patchJoinsSpec.vars false W args.toList ds gs before) (hL : laidMetH Tryd.prog Rows.patchReadsRow.laid W) :
    Calls Tryd.prog 5 args W fun e W' => ∃ v, e = .returned v ∧ Rows.patchJoinsSpec.post enc Tryd.prog Tryd.f5 false true false false W args v W' := by
  have hW' := hW
  obtain ⟨p, q, hA0, hV, rfl, hfz, hnd⟩ := hW
  have hA : DataW.TrodAll enc Tryd.prog W 0 (fun _ => true) true Tryd.f5.params.toList args.toList ds p := hA0
  rw [Tryd.params5] at hA hval
  obtain ⟨v0, vs0, d0, ds0, p0, q0, hargs, rfl, rfl, h0, r0⟩ := trodAll_cons hA
  obtain ⟨v1, vs1, d1, ds1, p1, q1, rfl, rfl, rfl, h1, r1⟩ := trodAll_cons r0
  obtain ⟨v2, vs2, d2, ds2, p2, q2, rfl, rfl, rfl, h2, r2⟩ := trodAll_cons r1
  obtain ⟨rfl, rfl, rfl⟩ := trodAll_nil r2
  obtain rfl : args = #[v0, v1, v2] := by cases args; simp_all
  obtain ⟨rfl, rfl⟩ := trodVars_none hV
  have k0 := h0
  have lt0 : ∀ x ∈ p0, x.block < W.heap.size := by obtain ⟨m, hm⟩ := k0; exact DataW.trod_lt m _ _ _ hm
  have o0 := openPatch (hval 0 24 v0 rfl rfl) h0
  have k1 := h1
  have lt1 : ∀ x ∈ p1, x.block < W.heap.size := by obtain ⟨m, hm⟩ := k1; exact DataW.trod_lt m _ _ _ hm
  have o1 := openPatch (hval 1 24 v1 rfl rfl) h1
  have k2 := h2
  have lt2 : ∀ x ∈ p2, x.block < W.heap.size := by obtain ⟨m, hm⟩ := k2; exact DataW.trod_lt m _ _ _ hm
  have o2 := openPatch (hval 2 24 v2 rfl rfl) h2
  clear hA0
  refine (walkV v0 v1 v2 W o0 o1 o2 (tables hL)).mono fun e W' ⟨he, bel⟩ => ?_
  subst he
  exact ⟨_, rfl, _, _, _, [], _, [], hW', trodAll_mk1 (shut_bool Tryd.underlying4 _), (trodAll_cons_mk (Below.trod laidOut (by kernel_rfl) (of_decide_eq_true (by kernel_rfl)) k0 bel lt0) (trodAll_cons_mk (Below.trod laidOut (by kernel_rfl) (of_decide_eq_true (by kernel_rfl)) k1 bel lt1) (trodAll_cons_mk (Below.trod laidOut (by kernel_rfl) (of_decide_eq_true (by kernel_rfl)) k2 bel lt2) trodAll_mk0))), rfl, bel.frame _, fun h => by cases h⟩

/-- A world for the witness: the settled one, the tables holding what their initialisers lay. -/
def layCons : Obj → Obj
  | .cells _ t frozen => .cells (constsL.map (Value.int .u64)).toArray t frozen
  | o => o
def layTurns : Obj → Obj
  | .cells _ t frozen => .cells (turnsL.map (fun (n : Nat) => Value.int .i64 n)).toArray t frozen
  | o => o
noncomputable def laidWorld (os : Os) : World :=
  { World.holding Tryd.prog os ⟨#[], #[], []⟩ with heap := ((World.holding Tryd.prog os ⟨#[], #[], []⟩).heap.modify 0 layCons).modify 1 layTurns }
theorem laid_met (os : Os) : laidMet Tryd.prog Rows.patchJoinsRow.laid ((laidWorld os).forCall (fun _ _ => 0) ⟨#[], #[.agg #[.string ByteArray.empty, .string ByteArray.empty, .slice none 0 0], .agg #[.string ByteArray.empty, .string ByteArray.empty, .slice none 0 0], .agg #[.string ByteArray.empty, .string ByteArray.empty, .slice none 0 0]], []⟩).memory :=
  laidMet_of_run' 8 (by kernel_rfl) (by kernel_rfl)
theorem reads (os : Os) {H : Type} (enc : TypeId × Value → H) : ∃ places, DataW.whole enc Tryd.prog ((laidWorld os).forCall (fun _ _ => 0) ⟨#[], #[.agg #[.string ByteArray.empty, .string ByteArray.empty, .slice none 0 0], .agg #[.string ByteArray.empty, .string ByteArray.empty, .slice none 0 0], .agg #[.string ByteArray.empty, .string ByteArray.empty, .slice none 0 0]], []⟩).memory Tryd.f5.params.toList Rows.patchJoinsSpec.vars false (#[.agg #[.string ByteArray.empty, .string ByteArray.empty, .slice none 0 0], .agg #[.string ByteArray.empty, .string ByteArray.empty, .slice none 0 0], .agg #[.string ByteArray.empty, .string ByteArray.empty, .slice none 0 0]] : Array Value).toList 8 = some ([.agg [.lit (.string []), .lit (.string []), .nil], .agg [.lit (.string []), .lit (.string []), .nil], .agg [.lit (.string []), .lit (.string []), .nil]], [], places) :=
  ⟨[], by kernel_rfl⟩

set_option maxRecDepth 100000 in
theorem lifted (os : Os) (started : os.Started) (H : Type) (enc : TypeId × Value → H) (F : Stop.Interp) :
    ReturnsInHanded {} Tryd.checked os 5 .any ((OpenSpec.ofChange Rows.patchJoinsSpec).preRow enc Tryd.prog Tryd.f5 Rows.patchJoinsRow.domain false Rows.patchJoinsRow.laid) (((OpenSpec.ofChange Rows.patchJoinsSpec).at F).post enc Tryd.prog Tryd.f5 false true false false) := by
  obtain ⟨places, hx⟩ := reads os enc
  refine returnsInHanded_of_row (C := Tryd.checked) (s := OpenSpec.ofChange Rows.patchJoinsSpec) own started (by kernel_rfl) Tryd.func5
    (witness_row_at (enc := enc) (C := Tryd.checked) false (laidWorld os) #[.agg #[.string ByteArray.empty, .string ByteArray.empty, .slice none 0 0], .agg #[.string ByteArray.empty, .string ByteArray.empty, .slice none 0 0], .agg #[.string ByteArray.empty, .string ByteArray.empty, .slice none 0 0]] rfl (by kernel_rfl) (by kernel_rfl) (by kernel_rfl)
      (OpenSpec.preRow_of_cond 8 hx (by kernel_rfl) (fun k hk => by cases hk) (by kernel_rfl) (laid_met os))) ?_
  intro W base args ds gs before hval hW _ _ _ hL _ _
  exact contract H enc W base args ds gs before hval hW hL

set_option maxRecDepth 100000 in
theorem said : Rows.PatchJoinsSaid :=
  OpenClaim.holds_of_cond 5 Tryd.f5 rfl rfl rfl rfl rfl rfl rfl ⟨rfl, rfl, rfl, rfl, rfl⟩ rfl rfl rfl rfl rfl (by kernel_rfl) Tryd.func5 (by kernel_rfl)
    (of_decide_eq_true (by kernel_rfl)) (by unfold Func.isWrapper; first | (rw [if_pos (by decide +kernel)]; kernel_rfl) | (rw [if_neg (by decide +kernel)]; exact ⟨rfl, rfl⟩))
    (fun os started H enc _ F => by rw [OpenClaim.pre_eq_preRow]; exact lifted os started H enc F)

set_option maxRecDepth 100000 in
theorem plain (f : FuncId) (fn : Func) (hf : Tryd.pinned.checked.prog.funcNamed "linchpin/linchpinlaw27.PatchJoins" = some f) (hfn : Tryd.pinned.checked.prog.funcs[f]? = some fn) :
    false = Tryd.pinned.checked.prog.looks [] ∧ ∀ (j : Nat) t, fn.params[j]? = some t → Tryd.pinned.checked.prog.wantsStandIn t = false := by
  obtain rfl : f = 5 := Option.some.inj ((show Tryd.prog.funcNamed "linchpin/linchpinlaw27.PatchJoins" = some 5 by kernel_rfl).symm.trans hf) |>.symm
  obtain rfl : fn = Tryd.f5 := (Option.some.inj (Tryd.func5.symm.trans hfn)).symm
  refine ⟨by kernel_rfl, fun j t ht => ?_⟩
  rw [Tryd.params5] at ht
  have hm := Array.mem_of_getElem? ht
  simp only [List.mem_toArray, List.mem_cons, List.not_mem_nil, or_false] at hm
  rcases hm with rfl | rfl | rfl
  all_goals first
    | exact (show Tryd.prog.wantsStandIn 24 = false by kernel_rfl)

/-- The tied card. -/
theorem card : Rows.PatchJoinsCardSaid :=
  Claim7.holds_tied_plain_at .later [] _ _ _ _ said (fun _ h => by cases h) (by kernel_rfl) (fun _ h => by cases h) patchJoins_row_tie rfl ⟨rfl, rfl⟩ (by kernel_rfl) rfl plain (by kernel_rfl)
#print axioms card

end patchJoins
end Go.Proofs.YtefgajipakjpeaaDoor
