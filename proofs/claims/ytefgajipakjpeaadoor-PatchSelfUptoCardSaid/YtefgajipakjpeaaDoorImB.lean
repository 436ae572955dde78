/-
  Contracts of image.Bytes, Id and Same. Conditions: the encoding is at most 2^46 bytes long; digest's tables are as laid.
-/
import Derived.Test.YtefgajipakjpeaaDoorImW
import Derived.Deep.MidRow
namespace Go.Proofs.YtefgajipakjpeaaDoor
open Go.RowKit

theorem imgInfo : (Tryd.prog.info? 50).map (·.size) = some 26 := by kernel_rfl
theorem ImageD.parts_length (x : ImageD) : x.parts.length = 26 := rfl
theorem Blk.range {w : World} {g : Nat} {t : TypeId} {cs : List Value} (h : Blk w g t cs.toArray) : w.rangeAt g 0 cs := fun j v hj => by
  rw [Nat.zero_add, h.cell j]
  simpa using hj
theorem wInt_ne (n : Int) : wInt n ≠ [] := by
  have := Lib.uvarint_pos (Lib.zigzag n)
  unfold wInt
  intro h
  rw [h] at this
  simp at this
theorem wImage_ne (x : ImageD) : wImage x ≠ [] := by
  unfold wImage wText
  have := Lib.uvarint_pos x.i0.length
  intro h
  have h2 := congrArg List.length h
  simp only [List.length_append, List.length_nil] at h2
  omega

theorem CW.string {B cb : Nat} {acc : List UInt8} {w : World} (h : CW B cb acc w) (h0 : acc ≠ []) :
    Calls Tryd.prog 25 #[.pointer (some ⟨cb, 0, none⟩)] w fun e w' => e = .returned (str acc) ∧ Below B w w' := by
  obtain ⟨cs, hs, _, h⟩ := h
  refine (String_any h (by decide) h0).mono ?_
  rintro e w' ⟨rfl, _, hb, _⟩
  exact ⟨rfl, hb⟩

set_option maxHeartbeats 2000000 in
set_option maxRecDepth 100000 in
/-- Bytes. -/
theorem ImgBytes_any (x : ImageD) (PS : List Value) (hPS : PS = x.parts) (bb : Nat) (w : World) (hin : x.In w bb) (hok : x.Ok) (hbb : bb ≤ w.heap.size) (hlen : (wImage x).length ≤ 70368744177664) :
    Calls Tryd.prog 14 #[.agg PS.toArray] w fun r w' => r = .returned (str (wImage x)) ∧ Below w.heap.size w w' := by
  have hcw : CW w.heap.size (w.heap.size + 1) [] ((w.alloc (.cells PS.toArray 50)).alloc (.cells #[.pointer none, .slice none 0 0, .pointer none] 83)) := by
    have h := CW.new (B := w.heap.size) (w.alloc (.cells PS.toArray 50)) (by simp)
    have e : (w.alloc (.cells PS.toArray 50)).heap.size = w.heap.size + 1 := by simp
    rw [e] at h
    exact h
  have hb0 : Below w.heap.size w ((w.alloc (.cells PS.toArray 50)).alloc (.cells #[.pointer none, .slice none 0 0, .pointer none] 83)) := ((Below.refl _ _).alloc (Nat.le_refl _) _).alloc (by simp) _
  have HIW := Lib.hid (image_w (B := w.heap.size) (cb := w.heap.size + 1) (ib := w.heap.size) (bb := bb) (ac := []) x hcw (by simp; omega) (by subst hPS; exact (Blk.new w 50 _).alloc _) (by omega) (hin.below (hb0.mono hbb)) hbb hok (by simpa using hlen))
  have HB0 := Lib.hid hb0
  have HNE := Lib.hid (wImage_ne x)
  unfold PutPost at HIW
  rw [List.nil_append] at HIW
  generalize wImage x = RES at HIW HNE
  clear hcw hb0 hPS hlen hin hok
  go_enter Tryd.func14, Tryd.ntmps14
  go_wp2_with fail
  refine (HIW.out).mono ?_
  rintro r w1 ⟨rfl, hc, hw⟩
  have HB1 := Lib.hid (HB0.out.trans hw.below)
  have HST := Lib.hid (hc.string HNE.out)
  unfold str at HST
  clear hc hw HIW HB0
  go_wp2_with fail
  refine (HST.out).mono ?_
  rintro r w2 ⟨rfl, hb2⟩
  have HB2 := Lib.hid (HB1.out.trans hb2)
  clear hb2 HST HB1
  go_wp2
  go_ret
  exact ⟨rfl, HB2.out⟩

def sumImg (x : ImageD) : List UInt8 := sumI (wImage x)
set_option maxHeartbeats 2000000 in
set_option maxRecDepth 100000 in
/-- Id. -/
theorem ImgId_any (x : ImageD) (PS : List Value) (hPS : PS = x.parts) (bb : Nat) (w : World) (hin : x.In w bb) (hok : x.Ok) (hbb : bb ≤ w.heap.size) (hlen : (wImage x).length ≤ 70368744177664) (ht : Tabs w) :
    Calls Tryd.prog 33 #[.agg PS.toArray] w fun r w' => r = .returned (str (sumImg x)) ∧ Below w.heap.size w w' := by
  have hl26 : some 26 = some PS.length := by rw [hPS]; rfl
  have HL := Lib.hid hl26
  have hb0 : Below w.heap.size w (w.alloc (.cells PS.toArray 50)) := (Below.refl _ _).alloc (Nat.le_refl _) _
  have HBY := Lib.hid (ImgBytes_any x PS hPS bb (w.alloc (.cells PS.toArray 50)) (hin.below (hb0.mono hbb)) hok (Nat.le_trans hbb (by simp)) hlen)
  have HRG : Hid ((w.alloc (.cells PS.toArray 50)).rangeAt w.heap.size 0 PS) := (Blk.new w 50 _).range
  have HII : Hid ((Tryd.prog.info? 50).map (·.size) = some PS.length) := Lib.hid (by rw [imgInfo]; exact hl26)
  have HB0 := Lib.hid hb0
  have HTB := Lib.hid ht
  have h2 := ht.size
  unfold sumImg
  unfold str at HBY
  have HSU := Lib.hid (fun (w' : World) (h : Tabs w') => Sum_any (wImage x) hlen w' h)
  unfold str at HSU ⊢
  generalize wImage x = RES at HBY HSU ⊢
  generalize sumI RES = SM at HSU ⊢
  clear hl26 hb0 hPS hlen hin hok ht
  go_enter Tryd.func33, Tryd.ntmps33
  go_wp2_with (refine wpList_load_mid rfl 50 _ rfl w.heap.size 0 rfl PS _ HRG.out Tryd.underlying50 rfl HII.out ?_)
  refine (HBY.out).mono ?_
  rintro r w1 ⟨rfl, hb1⟩
  have HB1 := Lib.hid (HB0.out.trans (hb1.mono (by simp)))
  have HS1 := Lib.hid (HSU.out w1 (HTB.out.below HB1.out h2))
  clear hb1 HBY HB0 HSU
  go_wp2_with fail
  refine (HS1.out).mono ?_
  rintro r w2 ⟨rfl, hb2⟩
  have HB2 := Lib.hid (HB1.out.trans (hb2.mono HB1.out.size))
  clear hb2 HS1 HB1
  go_wp2
  go_ret
  exact ⟨rfl, HB2.out⟩

set_option maxHeartbeats 4000000 in
set_option maxRecDepth 100000 in
/-- Same. -/
theorem ImgSame_any (x y : ImageD) (PX PY : List Value) (hPX : PX = x.parts) (hPY : PY = y.parts) (bb : Nat) (w : World) (hin : x.In w bb) (hok : x.Ok) (hin' : y.In w bb) (hok' : y.Ok) (hbb : bb ≤ w.heap.size)
    (hlen : (wImage x).length ≤ 70368744177664) (hlen' : (wImage y).length ≤ 70368744177664) :
    Calls Tryd.prog 16 #[.agg PX.toArray, .agg PY.toArray] w fun r w' => r = .returned (.bool (wImage x == wImage y)) ∧ Below w.heap.size w w' := by
  have hb0 : Below w.heap.size w ((w.alloc (.cells PX.toArray 50)).alloc (.cells PY.toArray 50)) := ((Below.refl _ _).alloc (Nat.le_refl _) _).alloc (by simp) _
  have HBX := Lib.hid (fun (w' : World) (hb : Below w.heap.size w w') => ImgBytes_any x PX hPX bb w' (hin.below (hb.mono hbb)) hok (Nat.le_trans hbb hb.size) hlen)
  have HBY := Lib.hid (fun (w' : World) (hb : Below w.heap.size w w') => ImgBytes_any y PY hPY bb w' (hin'.below (hb.mono hbb)) hok' (Nat.le_trans hbb hb.size) hlen')
  have HRX : Hid (Blk ((w.alloc (.cells PX.toArray 50)).alloc (.cells PY.toArray 50)) w.heap.size 50 PX.toArray) := (Blk.new w 50 _).alloc _
  have HRY : Hid (Blk ((w.alloc (.cells PX.toArray 50)).alloc (.cells PY.toArray 50)) (w.heap.size + 1) 50 PY.toArray) := Blk.newAt (by simp)
  have HIX : Hid ((Tryd.prog.info? 50).map (·.size) = some PX.length) := Lib.hid (by rw [imgInfo, hPX]; rfl)
  have HIY : Hid ((Tryd.prog.info? 50).map (·.size) = some PY.length) := Lib.hid (by rw [imgInfo, hPY]; rfl)
  have HB0 := Lib.hid hb0
  unfold str at HBX HBY
  generalize wImage x = RX at HBX ⊢
  generalize wImage y = RY at HBY ⊢
  clear hb0 hPX hPY hlen hlen' hin hok hin' hok'
  go_enter Tryd.func16, Tryd.ntmps16
  go_wp2_with fail
  generalize ((w.alloc (.cells PX.toArray 50)).alloc (.cells PY.toArray 50)) = w0 at HRX HRY HB0 ⊢
  have HRX1 : Hid (Blk w0.drew w.heap.size 50 PX.toArray) := HRX.out
  have HRY1 : Hid (Blk w0.drew (w.heap.size + 1) 50 PY.toArray) := HRY.out
  have HB1 : Hid (Below w.heap.size w w0.drew) := HB0.out.drew
  refine wp_region_held_drew (S := (fun w' => w'.rangeAt w.heap.size 0 PX ∧ w'.rangeAt (w.heap.size + 1) 0 PY)) (by kernel_rfl) ⟨HRX1.out.range, HRY1.out.range⟩ (fun hHeld => ?_)
  refine wpAnyH_take (i := 0) (v := .agg (PX).toArray) rfl (by kernel_rfl) (by kernel_rfl) (by kernel_rfl) (fun _ _ _ h => h) (yieldsIf_load_mid (by rfl) 50 _ rfl w.heap.size 0 rfl PX _ (fun w h => h.1) Tryd.underlying50 rfl HIX.out) (by assumption) ?_
  (try simp only [List.getElem_toArray, List.getElem_cons_succ, List.getElem_cons_zero, Act.put, List.setIfInBounds_toArray, List.set_cons_zero, List.set_cons_succ])
  refine wpAnyH_take (i := 2) (v := .agg (PY).toArray) rfl (by kernel_rfl) (by kernel_rfl) (by kernel_rfl) (fun _ _ _ h => h) (yieldsIf_load_mid (by rfl) 50 _ rfl (w.heap.size + 1) 0 rfl PY _ (fun w h => h.2) Tryd.underlying50 rfl HIY.out) (by assumption) ?_
  (try simp only [List.getElem_toArray, List.getElem_cons_succ, List.getElem_cons_zero, Act.put, List.setIfInBounds_toArray, List.set_cons_zero, List.set_cons_succ])
  refine wpAnyH_ready (rs := [1]) (by kernel_rfl) (by simp) ?_
  refine AllReadyH.cons rfl (fun K hK => ?_) ?_
  · refine step_call (by rfl) 14 _ _ (by rfl) Tryd.call14 _ (by first | (simp [Act.eval]; done) | simp [Act.eval, Act.put]) (HBX.out _ HB1.out) ?_
    rintro r w2 ⟨rfl, hb2⟩
    refine ⟨_, rfl, ?_⟩
    have HRX2 := Lib.hid (HRX1.out.below hb2 HRX1.out.lt)
    have HRY2 := Lib.hid (HRY1.out.below hb2 HRY1.out.lt)
    have HB2 := Lib.hid (HB1.out.trans (hb2.mono HB1.out.size))
    clear hb2
    refine hK.out _ _ ⟨HRX2.out.range, HRY2.out.range⟩ (fun hHeld => ?_)
    clear hK K
    (try simp only [List.getElem_toArray, List.getElem_cons_succ, List.getElem_cons_zero, Act.put, List.setIfInBounds_toArray, List.set_cons_zero, List.set_cons_succ])
    refine wpAnyH_ready (rs := [3]) (by kernel_rfl) (by simp) ?_
    refine AllReadyH.cons rfl (fun K hK => ?_) ?_
    · refine step_call (by rfl) 14 _ _ (by rfl) Tryd.call14 _ (by first | (simp [Act.eval]; done) | simp [Act.eval, Act.put]) (HBY.out _ HB2.out) ?_
      rintro r w3 ⟨rfl, hb3⟩
      refine ⟨_, rfl, ?_⟩
      have HRX3 := Lib.hid (HRX2.out.below hb3 HRX2.out.lt)
      have HRY3 := Lib.hid (HRY2.out.below hb3 HRY2.out.lt)
      have HB3 := Lib.hid (HB2.out.trans (hb3.mono HB2.out.size))
      clear hb3
      refine hK.out _ _ ⟨HRX3.out.range, HRY3.out.range⟩ (fun hHeld => ?_)
      clear hK K
      (try simp only [List.getElem_toArray, List.getElem_cons_succ, List.getElem_cons_zero, Act.put, List.setIfInBounds_toArray, List.set_cons_zero, List.set_cons_succ])
      refine wpAnyH_take (i := 4) (v := .bool (RX == RY)) rfl (by kernel_rfl) (by kernel_rfl) (by kernel_rfl) (fun _ _ _ h => h) (Or.inl ⟨by rfl, by intro w hSw; (try dsimp only at hSw); go_simp⟩) (by assumption) ?_
      (try simp only [List.getElem_toArray, List.getElem_cons_succ, List.getElem_cons_zero, Act.put, List.setIfInBounds_toArray, List.set_cons_zero, List.set_cons_succ])
      refine wpAnyH_take (i := 5) (v := .bool (RX == RY)) rfl (by kernel_rfl) (by kernel_rfl) (by kernel_rfl) (fun _ _ _ h => h) (Or.inl ⟨by rfl, by intro w hSw; (try dsimp only at hSw); go_simp⟩) (by assumption) ?_
      (try simp only [List.getElem_toArray, List.getElem_cons_succ, List.getElem_cons_zero, Act.put, List.setIfInBounds_toArray, List.set_cons_zero, List.set_cons_succ])
      refine wpAnyH_done (by kernel_rfl) ?_ _
      go_wp2
      go_ret
      exact ⟨rfl, HB3.out⟩
    · exact AllReadyH.nil
  · exact AllReadyH.nil

end Go.Proofs.YtefgajipakjpeaaDoor
