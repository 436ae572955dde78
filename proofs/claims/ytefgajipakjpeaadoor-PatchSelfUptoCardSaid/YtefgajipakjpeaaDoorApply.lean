/-
  Contract of patch.Apply, where it succeeds and where the image is another one. Conditions: those in each theorem's own statement.
-/
import Derived.Test.YtefgajipakjpeaaDoorDiff
namespace Go.Proofs.YtefgajipakjpeaaDoor
open Go.RowKit

set_option maxHeartbeats 8000000 in
set_option maxRecDepth 100000 in
theorem Apply_arg (x : ImageD) (PX : List Value) (p : PatchD) (hPX : PX = x.parts) (bb : Nat) (w : World) (hin : x.In w bb) (hok : x.Ok) (hbb : bb ≤ w.heap.size) (hp : p.Ok w bb) (ht : Tabs w) (hlen : (wImage x).length ≤ 70368744177664) (hr : rightPB p = true) (hne : sumImg x ≠ p.from_) :
    Calls Tryd.prog 15 #[.agg PX.toArray, .agg p.parts.toArray] w fun r w' => r = .returned (.tuple #[.agg ImageD.nil.parts.toArray, .int .i64 1]) ∧ Below w.heap.size w w' := by
  have hb0 : Below w.heap.size w (((w.alloc (.cells PX.toArray 50)).alloc (.cells p.parts.toArray 24)).alloc (.cells #[.string ⟨#[]⟩, .bool false, .int .i64 0, .int .i64 0, .int .i64 0, .string ⟨#[]⟩, .string ⟨#[]⟩, .int .i64 0, .slice none 0 0, .slice none 0 0, .slice none 0 0, .slice none 0 0, .slice none 0 0, .slice none 0 0, .slice none 0 0, .slice none 0 0, .int .i64 0, .slice none 0 0, .slice none 0 0, .slice none 0 0, .slice none 0 0, .slice none 0 0, .slice none 0 0, .slice none 0 0, .slice none 0 0, .slice none 0 0] 50)) := (((Below.refl _ _).alloc (Nat.le_refl _) _).alloc (by simp) _).alloc (by simp; omega) _
  have HRI := Lib.hid (fun (w' : World) (hb : Below w.heap.size w w') => Right_any p bb w' (hp.below (hb.mono hbb)) (Nat.le_trans hbb hb.size))
  rw [hr] at HRI
  have HDX := Lib.hid (fun (w' : World) (hb : Below w.heap.size w w') => ImgId_any x PX hPX bb w' (hin.below (hb.mono hbb)) hok (Nat.le_trans hbb hb.size) hlen (ht.below hb ht.size))
  have HBX := Lib.hid (fun (w' : World) (hb : Below w.heap.size w w') => ImgBytes_any x PX hPX bb w' (hin.below (hb.mono hbb)) hok (Nat.le_trans hbb hb.size) hlen)
  have HX0 : Hid (Blk (((w.alloc (.cells PX.toArray 50)).alloc (.cells p.parts.toArray 24)).alloc (.cells #[.string ⟨#[]⟩, .bool false, .int .i64 0, .int .i64 0, .int .i64 0, .string ⟨#[]⟩, .string ⟨#[]⟩, .int .i64 0, .slice none 0 0, .slice none 0 0, .slice none 0 0, .slice none 0 0, .slice none 0 0, .slice none 0 0, .slice none 0 0, .slice none 0 0, .int .i64 0, .slice none 0 0, .slice none 0 0, .slice none 0 0, .slice none 0 0, .slice none 0 0, .slice none 0 0, .slice none 0 0, .slice none 0 0, .slice none 0 0] 50)) w.heap.size 50 PX.toArray) := ((Blk.new w 50 _).alloc _).alloc _
  have HP0 : Hid (Blk (((w.alloc (.cells PX.toArray 50)).alloc (.cells p.parts.toArray 24)).alloc (.cells #[.string ⟨#[]⟩, .bool false, .int .i64 0, .int .i64 0, .int .i64 0, .string ⟨#[]⟩, .string ⟨#[]⟩, .int .i64 0, .slice none 0 0, .slice none 0 0, .slice none 0 0, .slice none 0 0, .slice none 0 0, .slice none 0 0, .slice none 0 0, .slice none 0 0, .int .i64 0, .slice none 0 0, .slice none 0 0, .slice none 0 0, .slice none 0 0, .slice none 0 0, .slice none 0 0, .slice none 0 0, .slice none 0 0, .slice none 0 0] 50)) (w.heap.size + 1) 24 p.parts.toArray) := (Blk.newAt (by simp)).alloc _
  have HR0 : Hid (Blk (((w.alloc (.cells PX.toArray 50)).alloc (.cells p.parts.toArray 24)).alloc (.cells #[.string ⟨#[]⟩, .bool false, .int .i64 0, .int .i64 0, .int .i64 0, .string ⟨#[]⟩, .string ⟨#[]⟩, .int .i64 0, .slice none 0 0, .slice none 0 0, .slice none 0 0, .slice none 0 0, .slice none 0 0, .slice none 0 0, .slice none 0 0, .slice none 0 0, .int .i64 0, .slice none 0 0, .slice none 0 0, .slice none 0 0, .slice none 0 0, .slice none 0 0, .slice none 0 0, .slice none 0 0, .slice none 0 0, .slice none 0 0] 50)) (w.heap.size + 2) 50 #[.string ⟨#[]⟩, .bool false, .int .i64 0, .int .i64 0, .int .i64 0, .string ⟨#[]⟩, .string ⟨#[]⟩, .int .i64 0, .slice none 0 0, .slice none 0 0, .slice none 0 0, .slice none 0 0, .slice none 0 0, .slice none 0 0, .slice none 0 0, .slice none 0 0, .int .i64 0, .slice none 0 0, .slice none 0 0, .slice none 0 0, .slice none 0 0, .slice none 0 0, .slice none 0 0, .slice none 0 0, .slice none 0 0, .slice none 0 0]) := Blk.newAt (by simp)
  have HIX : Hid ((Tryd.prog.info? 50).map (·.size) = some PX.length) := Lib.hid (by rw [imgInfo, hPX]; rfl)
  obtain ⟨ZZ, hZZ⟩ : ∃ ZZ : List Value, ZZ = [.string ⟨#[]⟩, .bool false, .int .i64 0, .int .i64 0, .int .i64 0, .string ⟨#[]⟩, .string ⟨#[]⟩, .int .i64 0, .slice none 0 0, .slice none 0 0, .slice none 0 0, .slice none 0 0, .slice none 0 0, .slice none 0 0, .slice none 0 0, .slice none 0 0, .int .i64 0, .slice none 0 0, .slice none 0 0, .slice none 0 0, .slice none 0 0, .slice none 0 0, .slice none 0 0, .slice none 0 0, .slice none 0 0, .slice none 0 0] := ⟨_, rfl⟩
  have HZZ := Lib.hid hZZ
  have HIIZ : Hid ((Tryd.prog.info? 50).map (·.size) = some ZZ.length) := Lib.hid (by rw [imgInfo, hZZ]; rfl)
  have HIZS : Hid ((Tryd.prog.info? 50).map (·.size) = some ZZ.toArray.size) := Lib.hid (by rw [imgInfo, hZZ]; rfl)
  have HZ1 : Hid (ZZ.toArray.all (·.oneCell') = true) := Lib.hid (by rw [hZZ]; exact all_one (ImageD.nil.one))
  have HB0 := Lib.hid hb0
  have HPO := Lib.hid hp
  have HTB := Lib.hid ht
  unfold str at HBX HDX
  generalize sumImg x = SX at HDX hne
  have hnb : (SX == p.from_) = false := by simpa using hne
  clear hne
  clear hb0 hPX hin hok hp ht hr hZZ hlen
  simp only [PatchD.parts] at HRI HX0 HP0 HR0 HB0 ⊢
  go_enter Tryd.func15, Tryd.ntmps15
  go_wp2_with fail
  generalize (((w.alloc (.cells PX.toArray 50)).alloc (.cells #[.string ⟨p.from_.toArray⟩, .string ⟨p.to_.toArray⟩, .slice p.A p.edits.length p.c] 24)).alloc (.cells #[.string ⟨#[]⟩, .bool false, .int .i64 0, .int .i64 0, .int .i64 0, .string ⟨#[]⟩, .string ⟨#[]⟩, .int .i64 0, .slice none 0 0, .slice none 0 0, .slice none 0 0, .slice none 0 0, .slice none 0 0, .slice none 0 0, .slice none 0 0, .slice none 0 0, .int .i64 0, .slice none 0 0, .slice none 0 0, .slice none 0 0, .slice none 0 0, .slice none 0 0, .slice none 0 0, .slice none 0 0, .slice none 0 0, .slice none 0 0] 50)) = w0 at HX0 HP0 HR0 HB0 ⊢
  have HRW := Lib.hid (HRI.out w0 HB0.out)
  refine (HRW.out).mono ?_
  rintro r w1 ⟨rfl, hb1⟩
  have HX1 := Lib.hid (HX0.out.below hb1 HX0.out.lt)
  have HP1 := Lib.hid (HP0.out.below hb1 HP0.out.lt)
  have HR1 := Lib.hid (HR0.out.below hb1 HR0.out.lt)
  have HB1 := Lib.hid (HB0.out.trans (hb1.mono HB0.out.size))
  clear hb1 HX0 HP0 HR0 HB0 HRI HRW
  go_wp2_with fail
  have HX2 : Hid (Blk w1.drew w.heap.size 50 PX.toArray) := HX1.out
  have HP2 : Hid (Blk w1.drew (w.heap.size + 1) 24 #[.string ⟨p.from_.toArray⟩, .string ⟨p.to_.toArray⟩, .slice p.A p.edits.length p.c]) := HP1.out
  have HR2 : Hid (Blk w1.drew (w.heap.size + 2) 50 #[.string ⟨#[]⟩, .bool false, .int .i64 0, .int .i64 0, .int .i64 0, .string ⟨#[]⟩, .string ⟨#[]⟩, .int .i64 0, .slice none 0 0, .slice none 0 0, .slice none 0 0, .slice none 0 0, .slice none 0 0, .slice none 0 0, .slice none 0 0, .slice none 0 0, .int .i64 0, .slice none 0 0, .slice none 0 0, .slice none 0 0, .slice none 0 0, .slice none 0 0, .slice none 0 0, .slice none 0 0, .slice none 0 0, .slice none 0 0]) := HR1.out
  have HB2 : Hid (Below w.heap.size w w1.drew) := HB1.out.drew
  refine wp_region_held_drew (S := (fun w' => w'.rangeAt w.heap.size 0 PX ∧ w'.cell? ⟨w.heap.size + 1, 0, none⟩ = some (.string ⟨p.from_.toArray⟩))) (by kernel_rfl) ⟨HX2.out.range, HP2.out.cell 0⟩ (fun hHeld => ?_)
  refine wpAnyH_take (i := 0) (v := .agg (PX).toArray) rfl (by kernel_rfl) (by kernel_rfl) (by kernel_rfl) (fun _ _ _ h => h) (yieldsIf_load_mid (by rfl) 50 _ rfl w.heap.size 0 rfl PX _ (fun w h => h.1) Tryd.underlying50 rfl HIX.out) (by assumption) ?_
  (try simp only [List.getElem_toArray, List.getElem_cons_succ, List.getElem_cons_zero, Act.put, List.setIfInBounds_toArray, List.set_cons_zero, List.set_cons_succ])
  refine wpAnyH_take (i := 2) (v := .pointer (some ⟨w.heap.size + 1, 0, none⟩)) rfl (by kernel_rfl) (by kernel_rfl) (by kernel_rfl) (fun _ _ _ h => h) (Or.inl ⟨by rfl, by intro w hSw; (try dsimp only at hSw); go_simp⟩) (by assumption) ?_
  (try simp only [List.getElem_toArray, List.getElem_cons_succ, List.getElem_cons_zero, Act.put, List.setIfInBounds_toArray, List.set_cons_zero, List.set_cons_succ])
  refine wpAnyH_take (i := 3) (v := .string ⟨p.from_.toArray⟩) rfl (by kernel_rfl) (by kernel_rfl) (by kernel_rfl) (fun _ _ _ h => h) (Or.inl ⟨by rfl, by intro w hSw; (try dsimp only at hSw); go_simp⟩) (by assumption) ?_
  (try simp only [List.getElem_toArray, List.getElem_cons_succ, List.getElem_cons_zero, Act.put, List.setIfInBounds_toArray, List.set_cons_zero, List.set_cons_succ])
  refine wpAnyH_ready (rs := [1]) (by kernel_rfl) (by simp) ?_
  refine AllReadyH.cons rfl (fun K hK => ?_) ?_
  · refine step_call (by rfl) 33 _ _ (by rfl) Tryd.call33 _ (by first | (simp [Act.eval]; done) | simp [Act.eval, Act.put]) (HDX.out _ HB2.out) ?_
    rintro r w3 ⟨rfl, hb3⟩
    refine ⟨_, rfl, ?_⟩
    have HX3 := Lib.hid (HX2.out.below hb3 HX2.out.lt)
    have HP3 := Lib.hid (HP2.out.below hb3 HP2.out.lt)
    have HR3 := Lib.hid (HR2.out.below hb3 HR2.out.lt)
    have HB3 := Lib.hid (HB2.out.trans (hb3.mono HB2.out.size))
    clear hb3
    refine hK.out _ _ ⟨HX3.out.range, HP3.out.cell 0⟩ (fun hHeld => ?_)
    clear hK K
    (try simp only [List.getElem_toArray, List.getElem_cons_succ, List.getElem_cons_zero, Act.put, List.setIfInBounds_toArray, List.set_cons_zero, List.set_cons_succ])
    refine wpAnyH_take (i := 4) (v := .bool (!(SX == p.from_))) rfl (by kernel_rfl) (by kernel_rfl) (by kernel_rfl) (fun _ _ _ h => h) (Or.inl ⟨by rfl, by intro w hSw; (try dsimp only at hSw); go_simp⟩) (by assumption) ?_
    (try simp only [List.getElem_toArray, List.getElem_cons_succ, List.getElem_cons_zero, Act.put, List.setIfInBounds_toArray, List.set_cons_zero, List.set_cons_succ])
    refine wpAnyH_done (by kernel_rfl) ?_ _

    simp only [hnb, Bool.not_false]
    go_wp2_with (refine wpList_store_mid rfl 50 _ _ rfl (w.heap.size + 2) 0 ZZ.toArray rfl (by rw [HZZ.out]; rfl) (HR3.out.there (by rw [HZZ.out]; decide)) HIZS.out HZ1.out ?_)
    have hbz := HR3.out.setCells (vs := ZZ.toArray.toList) (by rw [HZZ.out]; rfl)
    have HBZ : Hid (Blk (w3.setCells (w.heap.size + 2) 0 ZZ.toArray.toList) (w.heap.size + 2) 50 ZZ.toArray) := Lib.hid (by simpa using hbz)
    have HBE := Lib.hid (Below.setCells (B := w.heap.size) (b := w.heap.size + 2) (a := w) ZZ.toArray.toList 0 w3 HB3.out (by omega))
    clear hbz
    generalize w3.setCells (w.heap.size + 2) 0 ZZ.toArray.toList = wz at HBZ HBE ⊢
    have hld := run_loadVar_mid (P := Tryd.prog) wz (w.heap.size + 2) 0 50 ZZ _ HBZ.out.range Tryd.underlying50 rfl HIIZ.out
    go_wp2
    refine bodyPost_ret (v := .tuple #[.agg ZZ.toArray, .int .i64 1]) (by simp [results, Tryd.results15, asAddr, hld]) rfl ?_
    exact ⟨by rw [HZZ.out]; rfl, HBE.out⟩
  · exact AllReadyH.nil

/-- What an edit puts into the new image. -/
def pieceL (src : List UInt8) (e : EditD) : List UInt8 := if copiedB e then (src.drop e.from_.toNat).take e.size.toNat else e.text
def resL (src : List UInt8) (es : List EditD) : List UInt8 := es.flatMap (pieceL src)
def insideL (src : List UInt8) (es : List EditD) : Prop := ∀ e ∈ es, copiedB e = true → e.from_ + e.size ≤ (src.length : Int)
theorem piece_ex (src : List UInt8) (a b : Int) (h0 : 0 ≤ a) (hb : 0 ≤ b) : (ByteArray.mk src.toArray).extract a.toNat (a + b).toNat = ⟨(pieceL src ⟨a, b, []⟩).toArray⟩ := by
  have e : (a + b).toNat - a.toNat = b.toNat := by omega
  rw [Lib.extract_eq, e]
  rfl
theorem rightPB_edits {p : PatchD} (h : rightPB p = true) : ∀ e ∈ p.edits, rightEB e = true := by
  intro e he
  simp only [rightPB, Bool.and_eq_true, List.all_eq_true] at h
  exact h.1.2 e he
theorem LB.writeS {B b : Nat} {acc : List UInt8} {w : World} (h : LB B b acc w) (l : List UInt8) (s : ByteArray) (hs : s = ⟨l.toArray⟩) (hl : acc.length + l.length ≤ 70368744177664) (hBw : B ≤ w.heap.size) :
    Calls Tryd.prog 21 #[.pointer (some ⟨b, 0, none⟩), .string s] w fun e w' => e = .returned (.tuple #[.int .i64 l.length, .nilIface]) ∧ LB B b (acc ++ l) w' ∧ Below B w w' := by
  subst hs
  exact h.write l hl hBw
theorem step_callG {P : Program} {ops : Array Oper} {o : Oper} {a : Act} {w : World} {K : Act → World → Prop} {Q : Exit → Act → World → Prop} {E : Prop}
    (hw : Region.wanted o (yielded ops a.tmps) = true) (f : FuncId) (xs : Array Operand) (ts : Array TypeId) (ho : o.op = .call { callee := .value (.func f), args := xs, argTypes := ts }) (hr : ∀ (vs : Array Value) (w : World), (callFunc f vs).run P w = .ok (.enter f vs) w) (vs : Array Value) (hv : xs.map a.eval = vs)
    {R : Ending → World → Prop} (hc : Calls P f vs w R) (h : ∀ e w', R e w' → ∃ v, e = .returned v ∧ K (a.put o.dst v) w') :
    if Region.wanted o (yielded ops a.tmps) = true then Oper.wp P o a w K Q else E := by
  rw [if_pos hw]
  unfold Oper.wp
  have e : (execOp a.eval o).run P w = .ok (.enter f vs) w := by
    obtain ⟨dst, op, ty, pos, after, guard⟩ := o
    simp only at ho
    subst ho
    rw [execOp_call_go, hv]
    have e2 : #[] ++ vs ++ #[] = vs := by simp
    rw [e2, hr]
  rw [e, Oper.upon_enter]
  refine hc.mono ?_
  intro e w' hR
  obtain ⟨v, rfl, hk⟩ := h e w' hR
  exact hk
theorem readOk_image {l : List UInt8} (h : readOk l = true) (x : ImageD) (hx : x.pl = (rImage ⟨l, false⟩).1) : wImage x = l := by
  simp only [readOk, Bool.and_eq_true, beq_iff_eq] at h
  rw [wImage_pl, hx]
  exact h.2

set_option maxHeartbeats 8000000 in
set_option maxRecDepth 100000 in
theorem Apply_ok (x : ImageD) (PX : List Value) (p : PatchD) (hPX : PX = x.parts) (bb : Nat) (w : World) (hin : x.In w bb) (hok : x.Ok) (hbb : bb ≤ w.heap.size) (hp : p.Ok w bb) (ht : Tabs w) (hlen : (wImage x).length ≤ 70368744177664) (hr : rightPB p = true) (hne : p.edits ≠ []) (heq : sumImg x = p.from_) (hcv : insideL (wImage x) p.edits) (hl20 : (resL (wImage x) p.edits).length ≤ 1048576) (hro : readOk (resL (wImage x) p.edits) = true) (hto : sumI (resL (wImage x) p.edits) = p.to_) :
    Calls Tryd.prog 15 #[.agg PX.toArray, .agg p.parts.toArray] w (fun r w' => ∃ y : ImageD, r = .returned (.tuple #[.agg y.parts.toArray, .int .i64 0]) ∧ y.pl = (rImage ⟨resL (wImage x) p.edits, false⟩).1 ∧ y.Rows w' ∧ y.Ok ∧ Below w.heap.size w w') := by
  have hb0 : Below w.heap.size w (((w.alloc (.cells PX.toArray 50)).alloc (.cells p.parts.toArray 24)).alloc (.cells #[.string ⟨#[]⟩, .bool false, .int .i64 0, .int .i64 0, .int .i64 0, .string ⟨#[]⟩, .string ⟨#[]⟩, .int .i64 0, .slice none 0 0, .slice none 0 0, .slice none 0 0, .slice none 0 0, .slice none 0 0, .slice none 0 0, .slice none 0 0, .slice none 0 0, .int .i64 0, .slice none 0 0, .slice none 0 0, .slice none 0 0, .slice none 0 0, .slice none 0 0, .slice none 0 0, .slice none 0 0, .slice none 0 0, .slice none 0 0] 50)) := (((Below.refl _ _).alloc (Nat.le_refl _) _).alloc (by simp) _).alloc (by simp; omega) _
  have HRI := Lib.hid (fun (w' : World) (hb : Below w.heap.size w w') => Right_any p bb w' (hp.below (hb.mono hbb)) (Nat.le_trans hbb hb.size))
  rw [hr] at HRI
  have HDX := Lib.hid (fun (w' : World) (hb : Below w.heap.size w w') => ImgId_any x PX hPX bb w' (hin.below (hb.mono hbb)) hok (Nat.le_trans hbb hb.size) hlen (ht.below hb ht.size))
  have HBX := Lib.hid (fun (w' : World) (hb : Below w.heap.size w w') => ImgBytes_any x PX hPX bb w' (hin.below (hb.mono hbb)) hok (Nat.le_trans hbb hb.size) hlen)
  have HX0 : Hid (Blk (((w.alloc (.cells PX.toArray 50)).alloc (.cells p.parts.toArray 24)).alloc (.cells #[.string ⟨#[]⟩, .bool false, .int .i64 0, .int .i64 0, .int .i64 0, .string ⟨#[]⟩, .string ⟨#[]⟩, .int .i64 0, .slice none 0 0, .slice none 0 0, .slice none 0 0, .slice none 0 0, .slice none 0 0, .slice none 0 0, .slice none 0 0, .slice none 0 0, .int .i64 0, .slice none 0 0, .slice none 0 0, .slice none 0 0, .slice none 0 0, .slice none 0 0, .slice none 0 0, .slice none 0 0, .slice none 0 0, .slice none 0 0] 50)) w.heap.size 50 PX.toArray) := ((Blk.new w 50 _).alloc _).alloc _
  have HP0 : Hid (Blk (((w.alloc (.cells PX.toArray 50)).alloc (.cells p.parts.toArray 24)).alloc (.cells #[.string ⟨#[]⟩, .bool false, .int .i64 0, .int .i64 0, .int .i64 0, .string ⟨#[]⟩, .string ⟨#[]⟩, .int .i64 0, .slice none 0 0, .slice none 0 0, .slice none 0 0, .slice none 0 0, .slice none 0 0, .slice none 0 0, .slice none 0 0, .slice none 0 0, .int .i64 0, .slice none 0 0, .slice none 0 0, .slice none 0 0, .slice none 0 0, .slice none 0 0, .slice none 0 0, .slice none 0 0, .slice none 0 0, .slice none 0 0] 50)) (w.heap.size + 1) 24 p.parts.toArray) := (Blk.newAt (by simp)).alloc _
  have HR0 : Hid (Blk (((w.alloc (.cells PX.toArray 50)).alloc (.cells p.parts.toArray 24)).alloc (.cells #[.string ⟨#[]⟩, .bool false, .int .i64 0, .int .i64 0, .int .i64 0, .string ⟨#[]⟩, .string ⟨#[]⟩, .int .i64 0, .slice none 0 0, .slice none 0 0, .slice none 0 0, .slice none 0 0, .slice none 0 0, .slice none 0 0, .slice none 0 0, .slice none 0 0, .int .i64 0, .slice none 0 0, .slice none 0 0, .slice none 0 0, .slice none 0 0, .slice none 0 0, .slice none 0 0, .slice none 0 0, .slice none 0 0, .slice none 0 0] 50)) (w.heap.size + 2) 50 #[.string ⟨#[]⟩, .bool false, .int .i64 0, .int .i64 0, .int .i64 0, .string ⟨#[]⟩, .string ⟨#[]⟩, .int .i64 0, .slice none 0 0, .slice none 0 0, .slice none 0 0, .slice none 0 0, .slice none 0 0, .slice none 0 0, .slice none 0 0, .slice none 0 0, .int .i64 0, .slice none 0 0, .slice none 0 0, .slice none 0 0, .slice none 0 0, .slice none 0 0, .slice none 0 0, .slice none 0 0, .slice none 0 0, .slice none 0 0]) := Blk.newAt (by simp)
  have HIX : Hid ((Tryd.prog.info? 50).map (·.size) = some PX.length) := Lib.hid (by rw [imgInfo, hPX]; rfl)
  obtain ⟨ZZ, hZZ⟩ : ∃ ZZ : List Value, ZZ = [.string ⟨#[]⟩, .bool false, .int .i64 0, .int .i64 0, .int .i64 0, .string ⟨#[]⟩, .string ⟨#[]⟩, .int .i64 0, .slice none 0 0, .slice none 0 0, .slice none 0 0, .slice none 0 0, .slice none 0 0, .slice none 0 0, .slice none 0 0, .slice none 0 0, .int .i64 0, .slice none 0 0, .slice none 0 0, .slice none 0 0, .slice none 0 0, .slice none 0 0, .slice none 0 0, .slice none 0 0, .slice none 0 0, .slice none 0 0] := ⟨_, rfl⟩
  have HZZ := Lib.hid hZZ
  have HIIZ : Hid ((Tryd.prog.info? 50).map (·.size) = some ZZ.length) := Lib.hid (by rw [imgInfo, hZZ]; rfl)
  have HIZS : Hid ((Tryd.prog.info? 50).map (·.size) = some ZZ.toArray.size) := Lib.hid (by rw [imgInfo, hZZ]; rfl)
  have HZ1 : Hid (ZZ.toArray.all (·.oneCell') = true) := Lib.hid (by rw [hZZ]; exact all_one (ImageD.nil.one))
  have HB0 := Lib.hid hb0
  have HPO := Lib.hid hp
  have HTB := Lib.hid ht
  unfold str at HBX HDX
  have HRE := Lib.hid (rightPB_edits hr)
  have hedl : p.edits.length ≤ 9223372036854775807 := hp.len
  have HRN : Hid (resL (wImage x) p.edits ≠ []) := Lib.hid (by
    intro h
    obtain ⟨e, he⟩ := List.exists_mem_of_ne_nil _ hne
    have h1 : pieceL (wImage x) e = [] := by
      rw [resL, List.flatMap_eq_nil_iff] at h
      exact h e he
    have h2 := rightE_cases (HRE.out e he)
    have h3 := hcv e he
    rcases h2 with ⟨a1, a2, a3, _⟩ | ⟨a1, _⟩
    · have hc : copiedB e = true := by unfold copiedB; rw [a1]; rfl
      have h4 := h3 hc
      unfold pieceL at h1
      rw [if_pos hc] at h1
      have h5 := congrArg List.length h1
      simp only [List.length_take, List.length_drop, List.length_nil] at h5
      omega
    · have hc : copiedB e = false := by
        unfold copiedB
        cases ht : e.text with
        | nil => exact absurd ht a1
        | cons _ _ => rfl
      unfold pieceL at h1
      rw [hc] at h1
      exact a1 h1)
  have HIN := Lib.hid hcv
  have HRO := Lib.hid hro
  have HTO := Lib.hid hto
  have HRL := Lib.hid hl20
  have HRD := Lib.hid (fun (w' : World) => ImgRead_any (resL (wImage x) p.edits) w' hl20)
  unfold ImgReadPost str at HRD
  simp only [hro] at HRD
  unfold insideL at HIN
  generalize sumImg x = SX at HDX heq
  have hyb : (SX == p.from_) = true := by rw [heq]; exact beq_self_eq_true _
  clear heq hne hcv hl20 hro hto
  obtain ⟨RES, hRES⟩ : ∃ R, resL (wImage x) p.edits = R := ⟨_, rfl⟩
  rw [hRES] at HRN HRO HTO HRL HRD ⊢
  have HRES := Lib.hid hRES.symm
  clear hRES
  have hsl := hlen
  generalize wImage x = SRC at HBX HIN HRES hsl
  clear hb0 hPX hin hok hp ht hr hZZ hlen
  simp only [PatchD.parts] at HRI HX0 HP0 HR0 HB0 ⊢
  go_enter Tryd.func15, Tryd.ntmps15
  go_wp2_with fail
  generalize (((w.alloc (.cells PX.toArray 50)).alloc (.cells #[.string ⟨p.from_.toArray⟩, .string ⟨p.to_.toArray⟩, .slice p.A p.edits.length p.c] 24)).alloc (.cells #[.string ⟨#[]⟩, .bool false, .int .i64 0, .int .i64 0, .int .i64 0, .string ⟨#[]⟩, .string ⟨#[]⟩, .int .i64 0, .slice none 0 0, .slice none 0 0, .slice none 0 0, .slice none 0 0, .slice none 0 0, .slice none 0 0, .slice none 0 0, .slice none 0 0, .int .i64 0, .slice none 0 0, .slice none 0 0, .slice none 0 0, .slice none 0 0, .slice none 0 0, .slice none 0 0, .slice none 0 0, .slice none 0 0, .slice none 0 0] 50)) = w0 at HX0 HP0 HR0 HB0 ⊢
  have HRW := Lib.hid (HRI.out w0 HB0.out)
  refine (HRW.out).mono ?_
  rintro r w1 ⟨rfl, hb1⟩
  have HX1 := Lib.hid (HX0.out.below hb1 HX0.out.lt)
  have HP1 := Lib.hid (HP0.out.below hb1 HP0.out.lt)
  have HR1 := Lib.hid (HR0.out.below hb1 HR0.out.lt)
  have HB1 := Lib.hid (HB0.out.trans (hb1.mono HB0.out.size))
  clear hb1 HX0 HP0 HR0 HB0 HRI HRW
  go_wp2_with fail
  have HX2 : Hid (Blk w1.drew w.heap.size 50 PX.toArray) := HX1.out
  have HP2 : Hid (Blk w1.drew (w.heap.size + 1) 24 #[.string ⟨p.from_.toArray⟩, .string ⟨p.to_.toArray⟩, .slice p.A p.edits.length p.c]) := HP1.out
  have HR2 : Hid (Blk w1.drew (w.heap.size + 2) 50 #[.string ⟨#[]⟩, .bool false, .int .i64 0, .int .i64 0, .int .i64 0, .string ⟨#[]⟩, .string ⟨#[]⟩, .int .i64 0, .slice none 0 0, .slice none 0 0, .slice none 0 0, .slice none 0 0, .slice none 0 0, .slice none 0 0, .slice none 0 0, .slice none 0 0, .int .i64 0, .slice none 0 0, .slice none 0 0, .slice none 0 0, .slice none 0 0, .slice none 0 0, .slice none 0 0, .slice none 0 0, .slice none 0 0, .slice none 0 0]) := HR1.out
  have HB2 : Hid (Below w.heap.size w w1.drew) := HB1.out.drew
  refine wp_region_held_drew (S := (fun w' => w'.rangeAt w.heap.size 0 PX ∧ w'.cell? ⟨w.heap.size + 1, 0, none⟩ = some (.string ⟨p.from_.toArray⟩))) (by kernel_rfl) ⟨HX2.out.range, HP2.out.cell 0⟩ (fun hHeld => ?_)
  refine wpAnyH_take (i := 0) (v := .agg (PX).toArray) rfl (by kernel_rfl) (by kernel_rfl) (by kernel_rfl) (fun _ _ _ h => h) (yieldsIf_load_mid (by rfl) 50 _ rfl w.heap.size 0 rfl PX _ (fun w h => h.1) Tryd.underlying50 rfl HIX.out) (by assumption) ?_
  (try simp only [List.getElem_toArray, List.getElem_cons_succ, List.getElem_cons_zero, Act.put, List.setIfInBounds_toArray, List.set_cons_zero, List.set_cons_succ])
  refine wpAnyH_take (i := 2) (v := .pointer (some ⟨w.heap.size + 1, 0, none⟩)) rfl (by kernel_rfl) (by kernel_rfl) (by kernel_rfl) (fun _ _ _ h => h) (Or.inl ⟨by rfl, by intro w hSw; (try dsimp only at hSw); go_simp⟩) (by assumption) ?_
  (try simp only [List.getElem_toArray, List.getElem_cons_succ, List.getElem_cons_zero, Act.put, List.setIfInBounds_toArray, List.set_cons_zero, List.set_cons_succ])
  refine wpAnyH_take (i := 3) (v := .string ⟨p.from_.toArray⟩) rfl (by kernel_rfl) (by kernel_rfl) (by kernel_rfl) (fun _ _ _ h => h) (Or.inl ⟨by rfl, by intro w hSw; (try dsimp only at hSw); go_simp⟩) (by assumption) ?_
  (try simp only [List.getElem_toArray, List.getElem_cons_succ, List.getElem_cons_zero, Act.put, List.setIfInBounds_toArray, List.set_cons_zero, List.set_cons_succ])
  refine wpAnyH_ready (rs := [1]) (by kernel_rfl) (by simp) ?_
  refine AllReadyH.cons rfl (fun K hK => ?_) ?_
  · refine step_call (by rfl) 33 _ _ (by rfl) Tryd.call33 _ (by first | (simp [Act.eval]; done) | simp [Act.eval, Act.put]) (HDX.out _ HB2.out) ?_
    rintro r w3 ⟨rfl, hb3⟩
    refine ⟨_, rfl, ?_⟩
    have HX3 := Lib.hid (HX2.out.below hb3 HX2.out.lt)
    have HP3 := Lib.hid (HP2.out.below hb3 HP2.out.lt)
    have HR3 := Lib.hid (HR2.out.below hb3 HR2.out.lt)
    have HB3 := Lib.hid (HB2.out.trans (hb3.mono HB2.out.size))
    clear hb3
    refine hK.out _ _ ⟨HX3.out.range, HP3.out.cell 0⟩ (fun hHeld => ?_)
    clear hK K
    (try simp only [List.getElem_toArray, List.getElem_cons_succ, List.getElem_cons_zero, Act.put, List.setIfInBounds_toArray, List.set_cons_zero, List.set_cons_succ])
    refine wpAnyH_take (i := 4) (v := .bool (!(SX == p.from_))) rfl (by kernel_rfl) (by kernel_rfl) (by kernel_rfl) (fun _ _ _ h => h) (Or.inl ⟨by rfl, by intro w hSw; (try dsimp only at hSw); go_simp⟩) (by assumption) ?_
    (try simp only [List.getElem_toArray, List.getElem_cons_succ, List.getElem_cons_zero, Act.put, List.setIfInBounds_toArray, List.set_cons_zero, List.set_cons_succ])
    refine wpAnyH_done (by kernel_rfl) ?_ _

    simp only [hyb, Bool.not_true]
    have HBW := Lib.hid (HBX.out w3 HB3.out)
    clear HBX HDX HX2 HP2 HR2 HB2 HX1 HP1 HR1 HB1
    go_wp2_with (refine wpList_load_mid rfl 50 _ rfl w.heap.size 0 rfl PX _ HX3.out.range Tryd.underlying50 rfl HIX.out ?_)
    refine (HBW.out).mono ?_
    rintro r w4 ⟨rfl, hb4⟩
    have HP4 := Lib.hid (HP3.out.below hb4 HP3.out.lt)
    have HR4 := Lib.hid (HR3.out.below hb4 HR3.out.lt)
    have HB4 := Lib.hid (HB3.out.trans (hb4.mono HB3.out.size))
    clear hb4 HX3 HP3 HR3 HB3 HBW
    have c2 : (w4.alloc (.cells #[.pointer none, .slice none 0 0] 69)).cell? ⟨w.heap.size + 1, 2, none⟩ = some (.slice p.A p.edits.length p.c) := (HP4.out.alloc _).cell 2
    have HLB0 : Hid (LB w4.heap.size w4.heap.size [] (w4.alloc (.cells #[.pointer none, .slice none 0 0] 69))) := Lib.hid (LB.new w4 (Nat.le_refl _))
    have HBB0 : Hid (Below w4.heap.size w4 (w4.alloc (.cells #[.pointer none, .slice none 0 0] 69))) := Lib.hid ((Below.refl _ _).alloc (Nat.le_refl _) _)
    have HRES0 : Hid (RES = [] ++ resL SRC (p.edits.drop 0)) := Lib.hid (by rw [List.drop_zero, List.nil_append]; exact HRES.out)
    have hw4 := HB4.out.size
    go_wp2_with fail
    go_loopw [27] (fun vi wr => ∃ (i : Nat) (acc : List UInt8), vi = .int .i64 i ∧ i ≤ p.edits.length ∧ Hid (RES = acc ++ resL SRC (p.edits.drop i)) ∧ Hid (LB w4.heap.size w4.heap.size acc wr) ∧ Hid (Below w4.heap.size w4 wr)) (fun vi _ => p.edits.length - (intOf vi).toNat)
    case atStart => exact ⟨0, [], rfl, Nat.zero_le _, HRES0, HLB0, HBB0⟩
    case round =>
      clear HRES0 HLB0 HBB0 c2
      obtain ⟨i, acc, rfl, hi, HRES, HLB, HB⟩ := hrel
      by_cases hil : i < p.edits.length
      · obtain ⟨b2, off, hA, _, d0, d1, d2⟩ := cells_of_edit (HPO.out.cells.below ((HB4.out.trans (HB.out.mono hw4)).mono hbb)) hil
        have HD := Lib.hid (List.drop_eq_getElem_cons hil)
        have HE := Lib.hid (HRE.out _ (List.getElem_mem hil))
        have HC := Lib.hid (HIN.out _ (List.getElem_mem hil))
        rw [HD.out] at HRES
        generalize p.edits[i]'hil = e at d0 d1 d2 HE HC HRES
        have HCP := Lib.hid (copied_any e)
        have HEC := Lib.hid (rightE_cases HE.out)
        have HN : Hid (RES = (acc ++ pieceL SRC e) ++ resL SRC (p.edits.drop (i + 1))) := Lib.hid (by rw [HRES.out, List.append_assoc]; rfl)
        have hpl : (acc.length : Int) + (pieceL SRC e).length ≤ 1048576 := by
          have h := HRL.out
          rw [HN.out] at h
          simp only [List.length_append] at h
          omega
        clear HRES
        obtain ⟨ef, ez, et⟩ := e
        simp only at d0 d1 d2
        simp only [EditD.parts] at HCP
        have HBA := Lib.hid (HB.out.alloc HB.out.size (.cells #[.int .i64 ef, .int .i64 ez, .string ⟨et.toArray⟩] 56))
        have HXA := Lib.hid (Blk.new wr 56 #[.int .i64 ef, .int .i64 ez, .string ⟨et.toArray⟩])
        have HMA := Lib.hid (HLB.out.alloc (.cells #[.int .i64 ef, .int .i64 ez, .string ⟨et.toArray⟩] 56))
        have hxb : w4.heap.size < wr.heap.size := HLB.out.lt
        rw [hA]
        clear hA HLB HB HD HE
        cases et with
        | nil =>
          have hcb : copiedB ⟨ef, ez, []⟩ = true := rfl
          rw [hcb] at HCP
          have hc := HC.out rfl
          have hec := HEC.out
          have hef : 0 ≤ ef ∧ 1 ≤ ez ∧ ez ≤ 16777216 ∧ ef ≤ 16777216 := by
            rcases hec with ⟨_, b', c', d', g', k'⟩ | ⟨a', _⟩
            · (try simp only at b' c' d' g' k'); omega
            · exact absurd rfl a'
          simp only at hc
          obtain ⟨hef0, hez0, hez1, hef1⟩ := hef
          obtain ⟨tl, htl⟩ : ∃ tl, pieceL SRC ⟨ef, ez, []⟩ = tl := ⟨_, rfl⟩
          rw [htl] at HN hpl
          have HEX : Hid ((ByteArray.mk SRC.toArray).extract ef.toNat (ef + ez).toNat = ⟨tl.toArray⟩) := Lib.hid (by rw [← htl]; exact piece_ex SRC ef ez hef0 (by omega))
          clear hcb hec HEC HC htl
          go_wp2_with fail
          refine (HCP.out _).mono ?_
          rintro r w5 ⟨rfl, hb5⟩
          have HB5 := Lib.hid (HBA.out.trans (hb5.mono HBA.out.size))
          have HX5 := Lib.hid (HXA.out.below hb5 HXA.out.lt)
          have HM5 := Lib.hid (HMA.out.keep hb5)
          clear hb5 HBA HXA HMA HCP
          have e0 : w5.cell? ⟨wr.heap.size, 0, none⟩ = some (.int .i64 ef) := HX5.out.cell 0
          have e1 : w5.cell? ⟨wr.heap.size, 1, none⟩ = some (.int .i64 ez) := HX5.out.cell 1
          have hwr : IntKind.i64.wrap (ef + ez) = ef + ez := IntWalk.i64_in _ (by omega)
          have hgt : decide ((SRC.length : Int) < ef + ez) = false := decide_eq_false (by omega)
          have hle : ef ≤ ef + ez := by omega
          have HW := Lib.hid (fun s hs => HM5.out.writeS tl s hs (by omega) HB5.out.size)
          go_wp2_with fail
          refine (HW.out _ HEX.out).mono ?_
          rintro r w6 ⟨rfl, hm6, hb6⟩
          have HM6 := Lib.hid hm6
          have HB6 := Lib.hid (HB5.out.trans hb6)
          clear hm6 hb6 hwr hgt hle e0 e1 HW HB5 HM5 HX5
          go_wp2
          go_roundw
          case rel => exact ⟨i + 1, _, by go_num, by omega, HN, HM6, HB6⟩
          case measure => simp [intOf]; omega
        | cons y yt =>
          have hcb : copiedB ⟨ef, ez, y :: yt⟩ = false := rfl
          rw [hcb] at HCP
          have hpe : pieceL SRC ⟨ef, ez, y :: yt⟩ = y :: yt := rfl
          rw [hpe] at HN hpl
          generalize hyt : y :: yt = t at HCP HN hpl HXA HBA HMA d2
          clear hcb hpe HEC HC hyt
          go_wp2_with fail
          refine (HCP.out _).mono ?_
          rintro r w5 ⟨rfl, hb5⟩
          have HB5 := Lib.hid (HBA.out.trans (hb5.mono HBA.out.size))
          have HX5 := Lib.hid (HXA.out.below hb5 HXA.out.lt)
          have HM5 := Lib.hid (HMA.out.keep hb5)
          clear hb5 HBA HXA HMA HCP
          have e2 : w5.cell? ⟨wr.heap.size, 2, none⟩ = some (.string ⟨t.toArray⟩) := HX5.out.cell 2
          have HW := Lib.hid (HM5.out.writeS t _ rfl (by omega) HB5.out.size)
          go_wp2_with fail
          refine (HW.out).mono ?_
          rintro r w6 ⟨rfl, hm6, hb6⟩
          have HM6 := Lib.hid hm6
          have HB6 := Lib.hid (HB5.out.trans hb6)
          clear hm6 hb6 e2 HW HB5 HM5 HX5
          go_wp2
          go_roundw
          case rel => exact ⟨i + 1, _, by go_num, by omega, HN, HM6, HB6⟩
          case measure => simp [intOf]; omega
      · obtain rfl : i = p.edits.length := by omega
        rw [List.drop_length] at HRES
        have HV : Hid (acc = RES) := Lib.hid (by rw [HRES.out]; simp [resL])
        rw [HV.out] at HLB
        clear HRES HV
        have HST := Lib.hid (HLB.out.string HRN.out)
        unfold str at HST
        go_wp2_with fail
        refine (HST.out).mono ?_
        rintro r w5 ⟨rfl, hb5⟩
        have HB5 := Lib.hid (HB4.out.trans ((HB.out.trans hb5).mono hw4))
        have HP5 := Lib.hid (HP4.out.below (HB.out.trans hb5) HP4.out.lt)
        have HR5 := Lib.hid (HR4.out.below (HB.out.trans hb5) HR4.out.lt)
        have HRW := Lib.hid (HRD.out w5)
        clear hb5 HB HLB HST HRD HP4 HR4 HB4
        go_wp2_with fail
        refine (HRW.out).mono ?_
        rintro r w6 ⟨y, rfl, hpl, hin, hyok, hb6⟩
        clear hin
        obtain ⟨hpl, hrw⟩ := hpl trivial
        have HPL := Lib.hid hpl
        have HYR := Lib.hid hrw
        have HYOK := Lib.hid hyok
        have HP6 := Lib.hid (HP5.out.below hb6 HP5.out.lt)
        have HR6 := Lib.hid (HR5.out.below hb6 HR5.out.lt)
        have HB6 := Lib.hid (HB5.out.trans (hb6.mono HB5.out.size))
        have HYW := Lib.hid (readOk_image HRO.out y hpl)
        clear hpl hrw hyok hb6 HP5 HR5 HB5 HRW
        have HIY : Hid ((Tryd.prog.info? 50).map (·.size) = some y.parts.length) := Lib.hid (by rw [imgInfo]; rfl)
        have HIYS : Hid ((Tryd.prog.info? 50).map (·.size) = some y.parts.toArray.size) := Lib.hid (by rw [imgInfo]; rfl)
        have HY1 : Hid (y.parts.toArray.all (·.oneCell') = true) := Lib.hid (all_one (ImageD.one y))
        have HY26 : Hid (y.parts.length = 26) := Lib.hid rfl
        obtain ⟨PY, hPY⟩ : ∃ PY : List Value, PY = y.parts := ⟨_, rfl⟩
        have HPY := Lib.hid hPY
        rw [← hPY] at HIY HIYS HY1 HY26 ⊢
        clear hPY
        have hlt6 := HP6.out.lt
        have HNB : Hid (Blk (w6.alloc (.cells #[.string ⟨#[]⟩, .bool false, .int .i64 0, .int .i64 0, .int .i64 0, .string ⟨#[]⟩, .string ⟨#[]⟩, .int .i64 0, .slice none 0 0, .slice none 0 0, .slice none 0 0, .slice none 0 0, .slice none 0 0, .slice none 0 0, .slice none 0 0, .slice none 0 0, .int .i64 0, .slice none 0 0, .slice none 0 0, .slice none 0 0, .slice none 0 0, .slice none 0 0, .slice none 0 0, .slice none 0 0, .slice none 0 0, .slice none 0 0] 50)) w6.heap.size 50 #[.string ⟨#[]⟩, .bool false, .int .i64 0, .int .i64 0, .int .i64 0, .string ⟨#[]⟩, .string ⟨#[]⟩, .int .i64 0, .slice none 0 0, .slice none 0 0, .slice none 0 0, .slice none 0 0, .slice none 0 0, .slice none 0 0, .slice none 0 0, .slice none 0 0, .int .i64 0, .slice none 0 0, .slice none 0 0, .slice none 0 0, .slice none 0 0, .slice none 0 0, .slice none 0 0, .slice none 0 0, .slice none 0 0, .slice none 0 0]) := Lib.hid (Blk.new w6 50 _)
        have HP7 := Lib.hid (HP6.out.alloc (.cells #[.string ⟨#[]⟩, .bool false, .int .i64 0, .int .i64 0, .int .i64 0, .string ⟨#[]⟩, .string ⟨#[]⟩, .int .i64 0, .slice none 0 0, .slice none 0 0, .slice none 0 0, .slice none 0 0, .slice none 0 0, .slice none 0 0, .slice none 0 0, .slice none 0 0, .int .i64 0, .slice none 0 0, .slice none 0 0, .slice none 0 0, .slice none 0 0, .slice none 0 0, .slice none 0 0, .slice none 0 0, .slice none 0 0, .slice none 0 0] 50))
        have HR7 := Lib.hid (HR6.out.alloc (.cells #[.string ⟨#[]⟩, .bool false, .int .i64 0, .int .i64 0, .int .i64 0, .string ⟨#[]⟩, .string ⟨#[]⟩, .int .i64 0, .slice none 0 0, .slice none 0 0, .slice none 0 0, .slice none 0 0, .slice none 0 0, .slice none 0 0, .slice none 0 0, .slice none 0 0, .int .i64 0, .slice none 0 0, .slice none 0 0, .slice none 0 0, .slice none 0 0, .slice none 0 0, .slice none 0 0, .slice none 0 0, .slice none 0 0, .slice none 0 0] 50))
        have HB7 := Lib.hid (HB6.out.alloc HB6.out.size (.cells #[.string ⟨#[]⟩, .bool false, .int .i64 0, .int .i64 0, .int .i64 0, .string ⟨#[]⟩, .string ⟨#[]⟩, .int .i64 0, .slice none 0 0, .slice none 0 0, .slice none 0 0, .slice none 0 0, .slice none 0 0, .slice none 0 0, .slice none 0 0, .slice none 0 0, .int .i64 0, .slice none 0 0, .slice none 0 0, .slice none 0 0, .slice none 0 0, .slice none 0 0, .slice none 0 0, .slice none 0 0, .slice none 0 0, .slice none 0 0] 50))
        have HYR7 := Lib.hid (HYR.out.map (fun e s n v xs _ h => own_below h ((Below.refl w6.heap.size w6).alloc (Nat.le_refl _) (.cells #[.string ⟨#[]⟩, .bool false, .int .i64 0, .int .i64 0, .int .i64 0, .string ⟨#[]⟩, .string ⟨#[]⟩, .int .i64 0, .slice none 0 0, .slice none 0 0, .slice none 0 0, .slice none 0 0, .slice none 0 0, .slice none 0 0, .slice none 0 0, .slice none 0 0, .int .i64 0, .slice none 0 0, .slice none 0 0, .slice none 0 0, .slice none 0 0, .slice none 0 0, .slice none 0 0, .slice none 0 0, .slice none 0 0, .slice none 0 0] 50)) (Nat.le_refl _)))
        go_wp2_with (refine wpList_store_mid rfl 50 _ _ rfl w6.heap.size 0 PY.toArray rfl rfl (HNB.out.there (by rw [List.size_toArray, HY26.out]; decide)) HIYS.out HY1.out ?_)
        have hbz := HNB.out.setCells (vs := PY.toArray.toList) (by simp [HY26.out])
        have HY8 : Hid (Blk ((w6.alloc (.cells #[.string ⟨#[]⟩, .bool false, .int .i64 0, .int .i64 0, .int .i64 0, .string ⟨#[]⟩, .string ⟨#[]⟩, .int .i64 0, .slice none 0 0, .slice none 0 0, .slice none 0 0, .slice none 0 0, .slice none 0 0, .slice none 0 0, .slice none 0 0, .slice none 0 0, .int .i64 0, .slice none 0 0, .slice none 0 0, .slice none 0 0, .slice none 0 0, .slice none 0 0, .slice none 0 0, .slice none 0 0, .slice none 0 0, .slice none 0 0] 50)).setCells w6.heap.size 0 PY.toArray.toList) w6.heap.size 50 PY.toArray) := Lib.hid (by simpa using hbz)
        have HP8 := Lib.hid (Blk.setCells_far PY.toArray.toList 0 _ HP7.out (b := w6.heap.size) (by omega))
        have HR8 := Lib.hid (Blk.setCells_far PY.toArray.toList 0 _ HR7.out (b := w6.heap.size) (by have := HR6.out.lt; omega))
        have HB8 := Lib.hid (Below.setCells (B := w.heap.size) (b := w6.heap.size) (a := w) PY.toArray.toList 0 _ HB7.out HB6.out.size)
        have HYR8 := Lib.hid (HYR7.out.map (fun e s n v xs he h => own_setCells PY.toArray.toList 0 _ _ h HNB.out (Ne.symm he)))
        clear hbz HNB HP7 HR7 HB7 HYR7 HP6 HR6 HYR
        have hw6 := HB6.out.size
        clear HB6
        generalize (w6.alloc (.cells #[.string ⟨#[]⟩, .bool false, .int .i64 0, .int .i64 0, .int .i64 0, .string ⟨#[]⟩, .string ⟨#[]⟩, .int .i64 0, .slice none 0 0, .slice none 0 0, .slice none 0 0, .slice none 0 0, .slice none 0 0, .slice none 0 0, .slice none 0 0, .slice none 0 0, .int .i64 0, .slice none 0 0, .slice none 0 0, .slice none 0 0, .slice none 0 0, .slice none 0 0, .slice none 0 0, .slice none 0 0, .slice none 0 0, .slice none 0 0] 50)).setCells w6.heap.size 0 PY.toArray.toList = w8 at HY8 HP8 HR8 HB8 HYR8 ⊢
        generalize w6.heap.size = yb at HY8 hlt6 hw6 ⊢
        have HDY := Lib.hid (fun (w' : World) (hb : Below w8.heap.size w8 w') => ImgId_any y PY HPY.out w8.heap.size w' (HYR8.out.in_.below hb) HYOK.out hb.size (by rw [HYW.out]; have := HRL.out; omega) (HTB.out.below (HB8.out.trans (hb.mono HB8.out.size)) HTB.out.size))
        unfold str at HDY
        have hyb2 : (sumImg y == p.to_) = true := by unfold sumImg; rw [HYW.out, HTO.out]; exact beq_self_eq_true _
        generalize sumImg y = SY at HDY hyb2
        have HX8 := HY8
        have HP9 : Hid (Blk w8.drew (w.heap.size + 1) 24 #[.string ⟨p.from_.toArray⟩, .string ⟨p.to_.toArray⟩, .slice p.A p.edits.length p.c]) := HP8.out
        have HY9 : Hid (Blk w8.drew yb 50 PY.toArray) := HY8.out
        have HR9 : Hid (Blk w8.drew (w.heap.size + 2) 50 #[.string ⟨#[]⟩, .bool false, .int .i64 0, .int .i64 0, .int .i64 0, .string ⟨#[]⟩, .string ⟨#[]⟩, .int .i64 0, .slice none 0 0, .slice none 0 0, .slice none 0 0, .slice none 0 0, .slice none 0 0, .slice none 0 0, .slice none 0 0, .slice none 0 0, .int .i64 0, .slice none 0 0, .slice none 0 0, .slice none 0 0, .slice none 0 0, .slice none 0 0, .slice none 0 0, .slice none 0 0, .slice none 0 0, .slice none 0 0]) := HR8.out
        have HB9 : Hid (Below w.heap.size w w8.drew) := HB8.out.drew
        have HBD : Hid (Below w8.heap.size w8 w8.drew) := (Below.refl _ _).drew
        have HYR9 : Hid (y.Rows w8.drew) := Lib.hid (HYR8.out.map (fun e s n v xs _ h => own_below h HBD.out (Nat.le_refl _)))
        refine wp_region_held_drew (S := (fun w' => w'.rangeAt yb 0 PY ∧ w'.cell? ⟨w.heap.size + 1, 1, none⟩ = some (.string ⟨p.to_.toArray⟩))) (by kernel_rfl) ⟨HY9.out.range, HP9.out.cell 1⟩ (fun hHeld => ?_)
        refine wpAnyH_take (i := 0) (v := .bool true) rfl (by kernel_rfl) (by kernel_rfl) (by kernel_rfl) (fun _ _ _ h => h) (Or.inl ⟨by rfl, by intro w hSw; (try dsimp only at hSw); go_simp⟩) (by assumption) ?_
        (try simp only [List.getElem_toArray, List.getElem_cons_succ, List.getElem_cons_zero, Act.put, List.setIfInBounds_toArray, List.set_cons_zero, List.set_cons_succ])
        refine wpAnyH_take (i := 1) (v := .bool false) rfl (by kernel_rfl) (by kernel_rfl) (by kernel_rfl) (fun _ _ _ h => h) (Or.inl ⟨by rfl, by intro w hSw; (try dsimp only at hSw); go_simp⟩) (by assumption) ?_
        (try simp only [List.getElem_toArray, List.getElem_cons_succ, List.getElem_cons_zero, Act.put, List.setIfInBounds_toArray, List.set_cons_zero, List.set_cons_succ])
        refine wpAnyH_take (i := 2) (v := .bool false) rfl (by kernel_rfl) (by kernel_rfl) (by kernel_rfl) (fun _ _ _ h => h) (Or.inl ⟨by rfl, by intro w hSw; (try dsimp only at hSw); go_simp⟩) (by assumption) ?_
        (try simp only [List.getElem_toArray, List.getElem_cons_succ, List.getElem_cons_zero, Act.put, List.setIfInBounds_toArray, List.set_cons_zero, List.set_cons_succ])
        refine wpAnyH_take (i := 3) (v := .agg (PY).toArray) rfl (by kernel_rfl) (by kernel_rfl) (by kernel_rfl) (fun _ _ _ h => h) (yieldsIf_load_mid (by rfl) 50 _ rfl yb 0 rfl PY _ (fun w h => h.1) Tryd.underlying50 rfl HIY.out) (by assumption) ?_
        (try simp only [List.getElem_toArray, List.getElem_cons_succ, List.getElem_cons_zero, Act.put, List.setIfInBounds_toArray, List.set_cons_zero, List.set_cons_succ])
        refine wpAnyH_take (i := 5) (v := .pointer (some ⟨w.heap.size + 1, 1, none⟩)) rfl (by kernel_rfl) (by kernel_rfl) (by kernel_rfl) (fun _ _ _ h => h) (Or.inl ⟨by rfl, by intro w hSw; (try dsimp only at hSw); go_simp⟩) (by assumption) ?_
        (try simp only [List.getElem_toArray, List.getElem_cons_succ, List.getElem_cons_zero, Act.put, List.setIfInBounds_toArray, List.set_cons_zero, List.set_cons_succ])
        refine wpAnyH_take (i := 6) (v := .string ⟨p.to_.toArray⟩) rfl (by kernel_rfl) (by kernel_rfl) (by kernel_rfl) (fun _ _ _ h => h) (Or.inl ⟨by rfl, by intro w hSw; (try dsimp only at hSw); go_simp⟩) (by assumption) ?_
        (try simp only [List.getElem_toArray, List.getElem_cons_succ, List.getElem_cons_zero, Act.put, List.setIfInBounds_toArray, List.set_cons_zero, List.set_cons_succ])
        refine wpAnyH_ready (rs := [4]) (by kernel_rfl) (by simp) ?_
        refine AllReadyH.cons rfl (fun K hK => ?_) ?_
        · refine step_callG (by first | rfl | simp [Region.wanted, yielded]) 33 _ _ (by rfl) Tryd.call33 _ (by first | (simp [Act.eval]; done) | simp [Act.eval, Act.put]) (HDY.out _ HBD.out) ?_
          rintro r w10 ⟨rfl, hb10⟩
          refine ⟨_, rfl, ?_⟩
          have HY10 := Lib.hid (HY9.out.below hb10 HY9.out.lt)
          have HP10 := Lib.hid (HP9.out.below hb10 HP9.out.lt)
          have HR10 := Lib.hid (HR9.out.below hb10 HR9.out.lt)
          have HB10 := Lib.hid (HB9.out.trans (hb10.mono HB9.out.size))
          have HYR10 := Lib.hid (HYR9.out.map (fun e s n v xs _ h => own_below h hb10 (Nat.le_refl _)))
          clear hb10
          refine hK.out _ _ ⟨HY10.out.range, HP10.out.cell 1⟩ (fun hHeld => ?_)
          clear hK K
          (try simp only [List.getElem_toArray, List.getElem_cons_succ, List.getElem_cons_zero, Act.put, List.setIfInBounds_toArray, List.set_cons_zero, List.set_cons_succ])
          refine wpAnyH_take (i := 7) (v := .bool (!(SY == p.to_))) rfl (by kernel_rfl) (by kernel_rfl) (by kernel_rfl) (fun _ _ _ h => h) (Or.inl ⟨by rfl, by intro w hSw; (try dsimp only at hSw); go_simp⟩) (by assumption) ?_
          (try simp only [List.getElem_toArray, List.getElem_cons_succ, List.getElem_cons_zero, Act.put, List.setIfInBounds_toArray, List.set_cons_zero, List.set_cons_succ])
          refine wpAnyH_take (i := 8) (v := .bool (!(SY == p.to_))) rfl (by kernel_rfl) (by kernel_rfl) (by kernel_rfl) (fun _ _ _ h => h) (Or.inl ⟨by rfl, by intro w hSw; (try dsimp only at hSw); go_simp⟩) (by assumption) ?_
          (try simp only [List.getElem_toArray, List.getElem_cons_succ, List.getElem_cons_zero, Act.put, List.setIfInBounds_toArray, List.set_cons_zero, List.set_cons_succ])
          refine wpAnyH_done (by kernel_rfl) ?_ _

          simp only [hyb2, Bool.not_true]
          go_wp2_with (first
            | (refine wpList_load_mid rfl 50 _ rfl yb 0 rfl PY _ HY10.out.range Tryd.underlying50 rfl HIY.out ?_)
            | (refine wpList_store_mid rfl 50 _ _ rfl (w.heap.size + 2) 0 PY.toArray rfl rfl (HR10.out.there (by rw [List.size_toArray, HY26.out]; decide)) HIYS.out HY1.out ?_))
          have hbz := HR10.out.setCells (vs := PY.toArray.toList) (by simp [HY26.out])
          have HBZ : Hid (Blk (w10.setCells (w.heap.size + 2) 0 PY.toArray.toList) (w.heap.size + 2) 50 PY.toArray) := Lib.hid (by simpa using hbz)
          have HBE := Lib.hid (Below.setCells (B := w.heap.size) (b := w.heap.size + 2) (a := w) PY.toArray.toList 0 w10 HB10.out (by omega))
          have HRWZ : Hid (y.Rows (w10.setCells (w.heap.size + 2) 0 PY.toArray.toList)) := Lib.hid (HYR10.out.map (fun e s n v xs he h => own_setCells _ 0 w10 _ h HR10.out (Ne.symm he)))
          clear hbz
          generalize w10.setCells (w.heap.size + 2) 0 PY.toArray.toList = wz at HBZ HBE HRWZ ⊢
          have hld := run_loadVar_mid (P := Tryd.prog) wz (w.heap.size + 2) 0 50 PY _ HBZ.out.range Tryd.underlying50 rfl HIY.out
          go_wp2
          refine bodyPost_ret (v := .tuple #[.agg PY.toArray, .int .i64 0]) (by simp [results, Tryd.results15, asAddr, hld]) rfl ?_
          exact ⟨y, by rw [HPY.out], HPL.out, HRWZ.out, HYOK.out, HBE.out⟩
        · exact AllReadyH.nil
  · exact AllReadyH.nil

end Go.Proofs.YtefgajipakjpeaaDoor
