/-
  For all images and ints (of bulk at most 1048576 together), PatchSelf returns true, and its arguments read as before: the tied card, second form.
-/
import Derived.Test.YtefgajipakjpeaaDoorSelfM
import Derived.Test.YtefgajipakjpeaaDoorOpenI
import Derived.Deep.DeepCutAuto
namespace Go.Proofs.YtefgajipakjpeaaDoor
open Go.Joins Go.ChangeShapes Go.WideShapes Go.ChangeAt Go.RowKit

theorem ImgBytes_X (x : ImageD) (PX : List Value) (hPX : PX = x.parts) (X : List UInt8) (hX : wImage x = X) (w : World) (hin : x.In w w.heap.size) (hok : x.Ok) (hlen : (wImage x).length ≤ 70368744177664) :
    Calls Tryd.prog 14 #[.agg PX.toArray] w fun r w' => r = .returned (.string ⟨X.toArray⟩) ∧ Below w.heap.size w w' := by
  have h := ImgBytes_any x PX hPX w.heap.size w hin hok (Nat.le_refl _) hlen
  rw [hX] at h
  exact h

theorem Join_E2 (p q : PatchD) (R : PD) (E : Int) (h : joinR p.pd q.pd = (R, E)) (w : World) (hk : p.Ok w w.heap.size) (hk' : q.Ok w w.heap.size) :
    Calls Tryd.prog 17 #[.agg p.parts.toArray, .agg q.parts.toArray] w fun r w' => ∃ a : PatchD, r = .returned (.tuple #[.agg a.parts.toArray, .int .i64 E]) ∧ a.pd = R ∧ a.Ok w' w'.heap.size ∧ Below w.heap.size w w' := by
  have h1 := Join_any p q w.heap.size w hk hk' (Nat.le_refl _)
  rw [h] at h1
  exact h1
theorem xor1 : ∀ i : Fin 256, bits .xor .u8 (i.val : Int) 1 = (((i.val).toUInt8 ^^^ 1).toNat : Int) := by decide +kernel
theorem xor1_any (x : UInt8) : bits .xor .u8 (x.toNat : Int) 1 = ((x ^^^ 1).toNat : Int) := by
  have h := xor1 ⟨x.toNat, x.toNat_lt⟩
  rw [toUInt8_of] at h
  exact h
/-- An operation in a region that draws its order, the only one that may come up, by its run. -/
theorem wpAnyH_run {P : Program} {ops : Array Oper} {Q : Exit → Act → World → Prop} {md : Region.Mode} {S : World → Prop} {fuel : Nat} {listed : Array Bool} {a : Act} {w : World} {i : Nat} (d : Option Tmp) (v : Value) (w' : World) (hr : Region.ready md ops listed = [i])
    (hd : (ops[i]?).map (·.dst) = some d) (hw : (ops[i]?).map (fun o => Region.wanted o (yielded ops a.tmps)) = some true) (hrun : ∀ o, ops[i]? = some o → (execOp a.eval o).run P w = .ok (.value v) w') (hS : S w')
    (h : S w' → wpAnyH P md ops Q S fuel (listed.setIfInBounds i true) (a.put d v) w') : wpAnyH P md ops Q S (fuel + 1) listed a w := by
  cases hoi : ops[i]? with
  | none => rw [hoi] at hd; cases hd
  | some o =>
    rw [hoi] at hd hw
    simp only [Option.map_some, Option.some.injEq] at hd hw
    subst hd
    refine wpAnyH_ready hr (by simp) (AllReadyH.cons hoi (fun K hK => ?_) AllReadyH.nil)
    rw [if_pos hw]
    unfold Oper.wp
    rw [hrun o hoi]
    exact hK.out _ _ hS h

namespace patchSelf

set_option maxHeartbeats 4000000 in
set_option maxRecDepth 100000 in
theorem self_big (x : ImageD) (PX : List Value) (hPX : PX = x.parts) (n : Int) (w : World) (hin : x.In w w.heap.size) (hok : x.Ok) (hlen : (wImage x).length ≤ 70368744177664) (ht : Tabs w) (hf : fewB x = false) :
    Calls Tryd.prog 4 #[.agg PX.toArray, .int .i64 n] w fun r w' => r = .returned (.bool true) ∧ Below w.heap.size w w' := by
  have HTB := Lib.hid ht
  have HPX := Lib.hid hPX
  have HXI := Lib.hid hin
  have HXK := Lib.hid hok
  have HLN := Lib.hid hlen
  have HIX : Hid ((Tryd.prog.info? 50).map (·.size) = some PX.length) := Lib.hid (by rw [imgInfo, hPX]; rfl)
  have HX26 : Hid (PX.length = 26) := Lib.hid (by rw [hPX]; rfl)
  have HXO : Hid (∀ v ∈ PX, v.oneCell' = true) := Lib.hid (by rw [hPX]; exact ImageD.one x)
  have HFW := Lib.hid hf; clear hf
  have HZ0 : Hid (Below w.heap.size w (w.alloc (.cells PX.toArray 50))) := Lib.hid ((Below.refl _ _).alloc (Nat.le_refl _) _)
  have HZX : Hid (Blk (w.alloc (.cells PX.toArray 50)) w.heap.size 50 PX.toArray) := Lib.hid (Blk.new w 50 _)
  clear hPX hin hok hlen ht
  go_enter Tryd.func4, Tryd.ntmps4
  go_wp2_with fail
  generalize w.alloc (.cells PX.toArray 50) = w0 at HZ0 HZX ⊢
  have hb := HZ0.out
  have HBw0 := Lib.hid hb
  have HTw0 := Lib.hid (HTB.out.below HBw0.out HTB.out.size)
  clear hb
  have HXw0 := HZX; clear HZX HZ0
  go_wp2_with (first
      | (refine wpList_load_mid rfl 50 _ rfl w.heap.size 0 rfl PX _ HXw0.out.range Tryd.underlying50 rfl HIX.out ?_)
      | fail)
  have HC := Lib.hid (Small_any w0 HTw0.out)
  refine (HC.out).mono ?_
  rintro r w1 ⟨rfl, hb⟩
  clear HC
  have HXw1 := Lib.hid (HXw0.out.below hb HXw0.out.lt)
  have HBw1 := Lib.hid (HBw0.out.trans (hb.mono HBw0.out.size))
  have HTw1 := Lib.hid (HTB.out.below HBw1.out HTB.out.size)
  clear hb HXw0 HBw0 HTw0
  go_wp2_with (first
      | (refine wpList_load_mid rfl 50 _ rfl w.heap.size 0 rfl PX _ HXw1.out.range Tryd.underlying50 rfl HIX.out ?_)
      | fail)
  have HC := Lib.hid (few_any x PX HPX.out _ HFW.out w1 ((HXI.out.below HBw1.out).more HBw1.out.size) HXK.out HLN.out)
  refine (HC.out).mono ?_
  rintro r w2 ⟨rfl, hb⟩
  clear HC
  have HXw2 := Lib.hid (HXw1.out.below hb HXw1.out.lt)
  have HBw2 := Lib.hid (HBw1.out.trans (hb.mono HBw1.out.size))
  have HTw2 := Lib.hid (HTB.out.below HBw2.out HTB.out.size)
  clear hb HXw1 HBw1 HTw1
  go_wp2
  go_ret
  exact ⟨rfl, HBw2.out⟩

set_option maxHeartbeats 16000000 in
set_option maxRecDepth 100000 in
theorem self_few (x : ImageD) (PX : List Value) (hPX : PX = x.parts) (n : Int) (w : World) (hin : x.In w w.heap.size) (hok : x.Ok) (hlen : (wImage x).length ≤ 70368744177664) (ht : Tabs w) (hf : fewB x = true) :
    Calls Tryd.prog 4 #[.agg PX.toArray, .int .i64 n] w fun r w' => r = .returned (.bool true) ∧ Below w.heap.size w w' := by
  have HTB := Lib.hid ht
  have HPX := Lib.hid hPX
  have HXI := Lib.hid hin
  have HXK := Lib.hid hok
  have HLN := Lib.hid hlen
  have HIX : Hid ((Tryd.prog.info? 50).map (·.size) = some PX.length) := Lib.hid (by rw [imgInfo, hPX]; rfl)
  have HX26 : Hid (PX.length = 26) := Lib.hid (by rw [hPX]; rfl)
  have HXO : Hid (∀ v ∈ PX, v.oneCell' = true) := Lib.hid (by rw [hPX]; exact ImageD.one x)
  have HFW := Lib.hid hf
  have h6 : (wImage x).length ≤ 6000 := by unfold fewB at hf; simp only [Bool.and_eq_true, decide_eq_true_eq] at hf; exact hf.2
  have H6 := Lib.hid h6
  obtain ⟨B5, hB5⟩ : ∃ l, x.i5 = l := ⟨_, rfl⟩
  have HB5 := Lib.hid hB5
  have h5l : B5.length ≤ 4096 := by rw [← hB5]; unfold fewB at hf; simp only [Bool.and_eq_true, decide_eq_true_eq] at hf; exact hf.1
  obtain ⟨X, hX⟩ : ∃ l, wImage x = l := ⟨_, rfl⟩
  have HX := Lib.hid hX
  have hxl : X.length ≤ 6000 := by rw [← hX]; exact h6
  have HXN : Hid (X ≠ []) := Lib.hid (by rw [← hX]; exact wImage_ne x)
  clear hf h6 hB5 hX
  have HZ0 : Hid (Below w.heap.size w (w.alloc (.cells PX.toArray 50))) := Lib.hid ((Below.refl _ _).alloc (Nat.le_refl _) _)
  have HZX : Hid (Blk (w.alloc (.cells PX.toArray 50)) w.heap.size 50 PX.toArray) := Lib.hid (Blk.new w 50 _)
  clear hPX hin hok hlen ht
  go_enter Tryd.func4, Tryd.ntmps4
  go_wp2_with fail
  generalize w.alloc (.cells PX.toArray 50) = w0 at HZ0 HZX ⊢
  have hb := HZ0.out
  have HBw0 := Lib.hid hb
  have HTw0 := Lib.hid (HTB.out.below HBw0.out HTB.out.size)
  clear hb
  have HXw0 := HZX; clear HZX HZ0
  go_wp2_with (first
      | (refine wpList_load_mid rfl 50 _ rfl w.heap.size 0 rfl PX _ HXw0.out.range Tryd.underlying50 rfl HIX.out ?_)
      | fail)
  have HC := Lib.hid (Small_any w0 HTw0.out)
  refine (HC.out).mono ?_
  rintro r w1 ⟨rfl, hb⟩
  clear HC
  have HXw1 := Lib.hid (HXw0.out.below hb HXw0.out.lt)
  have HBw1 := Lib.hid (HBw0.out.trans (hb.mono HBw0.out.size))
  have HTw1 := Lib.hid (HTB.out.below HBw1.out HTB.out.size)
  clear hb HXw0 HBw0 HTw0
  go_wp2_with (first
      | (refine wpList_load_mid rfl 50 _ rfl w.heap.size 0 rfl PX _ HXw1.out.range Tryd.underlying50 rfl HIX.out ?_)
      | fail)
  have HC := Lib.hid (few_any x PX HPX.out _ HFW.out w1 ((HXI.out.below HBw1.out).more HBw1.out.size) HXK.out HLN.out)
  refine (HC.out).mono ?_
  rintro r w2 ⟨rfl, hb⟩
  clear HC
  have HXw2 := Lib.hid (HXw1.out.below hb HXw1.out.lt)
  have HBw2 := Lib.hid (HBw1.out.trans (hb.mono HBw1.out.size))
  have HTw2 := Lib.hid (HTB.out.below HBw2.out HTB.out.size)
  clear hb HXw1 HBw1 HTw1
  go_wp2_with (first
      | (refine wpList_load_mid rfl 50 _ rfl w.heap.size 0 rfl PX _ HXw2.out.range Tryd.underlying50 rfl HIX.out ?_)
      | fail)
  have HC := Lib.hid (Diff_E x x PX PX HPX.out HPX.out w2 ((HXI.out.below HBw2.out).more HBw2.out.size) HXK.out ((HXI.out.below HBw2.out).more HBw2.out.size) HXK.out HTw2.out H6.out H6.out)
  refine (HC.out).mono ?_
  rintro r w3 ⟨p, A, rfl, hEp, hp, hkp, hb⟩
  clear HC
  have HEp := Lib.hid hEp; have HDp := Lib.hid hp; clear hEp hp
  have HXw3 := Lib.hid (HXw2.out.below hb HXw2.out.lt)
  have HBw3 := Lib.hid (HBw2.out.trans (hb.mono HBw2.out.size))
  have HTw3 := Lib.hid (HTB.out.below HBw3.out HTB.out.size)
  clear hb HXw2 HBw2 HTw2
  have HOpw3 := Lib.hid hkp; have HLpw3 : Hid (w3.heap.size ≤ w3.heap.size) := Lib.hid (Nat.le_refl _); clear hkp
  have Hepw3 : Hid (Below w3.heap.size w3 w3) := Lib.hid (Below.refl _ _); have HKp := HOpw3
  go_wp2_with (first
      | (refine wpList_load_mid rfl 50 _ rfl w.heap.size 0 rfl PX _ HXw3.out.range Tryd.underlying50 rfl HIX.out ?_)
      | (refine wpList_new_store rfl 24 _ _ rfl p.parts rfl rfl rfl (patchInfo p) (PatchD.one p) ?_))
  intro w4 hx hb
  have HN := Lib.hid hx; clear hx
  have HXw4 := Lib.hid (HXw3.out.below hb HXw3.out.lt)
  have HOpw4 := Lib.hid (HOpw3.out.below (hb.mono HLpw3.out)); have HLpw4 := Lib.hid (Nat.le_trans HLpw3.out hb.size)
  have HBw4 := Lib.hid (HBw3.out.trans (hb.mono HBw3.out.size))
  have HTw4 := Lib.hid (HTB.out.below HBw4.out HTB.out.size)
  have Hepw4 := Lib.hid (Hepw3.out.trans (hb.mono Hepw3.out.size))
  clear hb Hepw3 HXw3 HOpw3 HLpw3 HBw3 HTw3
  have HPw4 := HN; clear HN
  have HEX : Hid (EditsOf X X A) := Lib.hid (by rw [← HX.out]; exact HEp.out)
  obtain ⟨e0, he0, ha0, hb0⟩ := self_edits HEX.out HXN.out hxl
  have HPE : Hid (p.edits = [e0]) := Lib.hid (by rw [show p.edits = p.pd.edits from rfl, HDp.out]; exact he0)
  have HA0 := Lib.hid ha0; have HB0 := Lib.hid hb0
  clear he0 ha0 hb0
  have hlt0 : 0 < p.edits.length := by rw [HPE.out]; simp
  obtain ⟨eb, eo, hpA, hebl, -, -, d2⟩ := cells_of_edit HKp.out.cells hlt0
  have e0e : p.edits[0]'hlt0 = e0 := by simp [HPE.out]
  rw [e0e] at d2
  have HPA := Lib.hid hpA
  have HEC : Hid (∀ w', Below w3.heap.size w3 w' → w'.cell? ⟨eb, eo + 2, none⟩ = some (.string ⟨e0.text.toArray⟩)) := Lib.hid (fun w' hb => (hb.cell (p := ⟨eb, eo + 2, none⟩) hebl).trans (by simpa using d2))
  clear d2 hpA hebl e0e hlt0
  have c2 : w4.cell? ⟨w3.heap.size, 2, none⟩ = some (.slice (some ⟨eb, eo, none⟩) 1 p.c) := (HPw4.out.cell 2).trans (by show some (Value.slice p.A p.edits.length p.c) = _; rw [HPA.out, HPE.out]; rfl)
  go_upto_region 7 with (fail)
  clear c2
  go_cut [50] (fun b wq => b = .bool false ∧ Hid (Below w4.heap.size w4 wq))
  case first =>
    by_cases h32 : 32 ≤ X.length
    · have Hqw4 : Hid (Below w4.heap.size w4 w4) := Lib.hid (Below.refl _ _)
      have HT0 : Hid (e0.text = []) := Lib.hid (HA0.out h32)
      have hge : decide ((32 : Int) ≤ (X.length : Int)) = true := decide_eq_true (by omega)
      go_wp2_with fail
      have hdr : Below w4.heap.size w4 w4.drew := (Below.refl _ _).drew
      have HXw4d := Lib.hid (HXw4.out.below hdr HXw4.out.lt)
      have HPw4d := Lib.hid (HPw4.out.below hdr HPw4.out.lt)
      have HOpw4d := Lib.hid (HOpw4.out.below (hdr.mono HLpw4.out)); have HLpw4d := Lib.hid (Nat.le_trans HLpw4.out hdr.size)
      have HBw4d := Lib.hid (HBw4.out.trans (hdr.mono HBw4.out.size))
      have HTw4d := Lib.hid (HTB.out.below HBw4d.out HTB.out.size)
      have Hepw4d := Lib.hid (Hepw4.out.trans (hdr.mono Hepw4.out.size))
      have Hqw4d := Lib.hid (Hqw4.out.trans (hdr.mono Hqw4.out.size))
      clear Hepw4 Hqw4 HXw4 HPw4 HOpw4 HLpw4 HBw4 HTw4
      refine wp_region_held_drew (S := (fun w' => True ∧ w'.rangeAt (w.heap.size) 0 PX ∧ w'.cell? ⟨w3.heap.size, 2, none⟩ = some (.slice (some ⟨eb, eo, none⟩) 1 p.c) ∧ w'.cell? ⟨eb, eo + 2, none⟩ = some (.string ⟨#[]⟩))) (by kernel_rfl) ⟨trivial, HXw4d.out.range, (HPw4d.out.cell 2).trans (by show some (Value.slice p.A p.edits.length p.c) = _; rw [HPA.out, HPE.out]; rfl), (HEC.out _ Hepw4d.out).trans (by rw [HT0.out])⟩ (fun hHeld => ?_)
      refine wpAnyH_pure (i := 0) (some 40) (.pointer (some ⟨w3.heap.size, 2, none⟩)) (by kernel_rfl) (by kernel_rfl) (by kernel_rfl) (by kernel_rfl) (fun _ _ _ h => h) (by kernel_rfl) (by intro w; kernel_rfl) (by assumption) ?_
      (try simp only [Act.put, List.setIfInBounds_toArray, List.set_cons_zero, List.set_cons_succ])
      refine wpAnyH_read (i := 1) (some 41) (.slice (some ⟨eb, eo, none⟩) 1 p.c) (by kernel_rfl) (by kernel_rfl) (by kernel_rfl) (by kernel_rfl) (fun _ _ _ h => h) (by kernel_rfl) (by intro o ho w hSw; cases ho; (try dsimp only at hSw); go_simp) (by assumption) ?_
      (try simp only [Act.put, List.setIfInBounds_toArray, List.set_cons_zero, List.set_cons_succ])
      refine wpAnyH_pure (i := 2) (some 42) (.pointer (some ⟨eb, eo, none⟩)) (by kernel_rfl) (by kernel_rfl) (by kernel_rfl) (by kernel_rfl) (fun _ _ _ h => h) (by kernel_rfl) (by intro w; kernel_rfl) (by assumption) ?_
      refine wpAnyH_pure (i := 3) (some 43) (.pointer (some ⟨eb, eo + 2, none⟩)) (by kernel_rfl) (by kernel_rfl) (by kernel_rfl) (by kernel_rfl) (fun _ _ _ h => h) (by kernel_rfl) (by intro w; kernel_rfl) (by assumption) ?_
      (try simp only [Act.put, List.setIfInBounds_toArray, List.set_cons_zero, List.set_cons_succ])
      refine wpAnyH_read (i := 4) (some 44) (.string ⟨#[]⟩) (by kernel_rfl) (by kernel_rfl) (by kernel_rfl) (by kernel_rfl) (fun _ _ _ h => h) (by kernel_rfl) (by intro o ho w hSw; cases ho; (try dsimp only at hSw); go_simp) (by assumption) ?_
      (try simp only [Act.put, List.setIfInBounds_toArray, List.set_cons_zero, List.set_cons_succ])
      (try simp only [Act.put, List.setIfInBounds_toArray, List.set_cons_zero, List.set_cons_succ])
      refine wpAnyH_read (i := 5) (some 45) (.bool true) (by kernel_rfl) (by kernel_rfl) (by kernel_rfl) (by kernel_rfl) (fun _ _ _ h => h) (by kernel_rfl) (by intro o ho w hSw; cases ho; (try dsimp only at hSw); go_simp) (by assumption) ?_
      (try simp only [Act.put, List.setIfInBounds_toArray, List.set_cons_zero, List.set_cons_succ])
      refine wpAnyH_loadB (i := 6) (some 46) 50 (.tmp 2) (w.heap.size) (PX) _ (by kernel_rfl) (by kernel_rfl) (by kernel_rfl) (by kernel_rfl) (fun _ _ _ h => h) (by kernel_rfl) (by kernel_rfl) (fun w h => h.2.1) Tryd.underlying50 rfl HIX.out (by assumption) ?_
      (try simp only [Act.put, List.setIfInBounds_toArray, List.set_cons_zero, List.set_cons_succ])
      refine wpAnyH_call (i := 7) (by kernel_rfl) 14 #[.tmp 46] #[50] (some 47) (by kernel_rfl) (by kernel_rfl) Tryd.call14 #[.agg PX.toArray] (by kernel_rfl) (ImgBytes_X x PX HPX.out X HX.out _ ((HXI.out.below HBw4d.out).more HBw4d.out.size) HXK.out HLN.out) ?_
      rintro r w5f ⟨rfl, hb⟩
      refine ⟨_, rfl, ?_⟩
      have HXw5f := Lib.hid (HXw4d.out.below hb HXw4d.out.lt)
      have HPw5f := Lib.hid (HPw4d.out.below hb HPw4d.out.lt)
      have HOpw5f := Lib.hid (HOpw4d.out.below (hb.mono HLpw4d.out)); have HLpw5f := Lib.hid (Nat.le_trans HLpw4d.out hb.size)
      have HBw5f := Lib.hid (HBw4d.out.trans (hb.mono HBw4d.out.size))
      have HTw5f := Lib.hid (HTB.out.below HBw5f.out HTB.out.size)
      have Hepw5f := Lib.hid (Hepw4d.out.trans (hb.mono Hepw4d.out.size))
      have Hqw5f := Lib.hid (Hqw4d.out.trans (hb.mono Hqw4d.out.size))
      clear hb Hepw4d Hqw4d HXw4d HPw4d HOpw4d HLpw4d HBw4d HTw4d
      refine ⟨⟨trivial, HXw5f.out.range, (HPw5f.out.cell 2).trans (by show some (Value.slice p.A p.edits.length p.c) = _; rw [HPA.out, HPE.out]; rfl), (HEC.out _ Hepw5f.out).trans (by rw [HT0.out])⟩, fun hHeld => ?_⟩
      (try simp only [Act.put, List.setIfInBounds_toArray, List.set_cons_zero, List.set_cons_succ])
      refine wpAnyH_read (i := 8) (some 48) (.int .i64 (X.length : Int)) (by kernel_rfl) (by kernel_rfl) (by kernel_rfl) (by kernel_rfl) (fun _ _ _ h => h) (by kernel_rfl) (by intro o ho w hSw; cases ho; (try dsimp only at hSw); go_simp) (by assumption) ?_
      (try simp only [Act.put, List.setIfInBounds_toArray, List.set_cons_zero, List.set_cons_succ])
      (try simp only [Act.put, List.setIfInBounds_toArray, List.set_cons_zero, List.set_cons_succ])
      refine wpAnyH_read (i := 9) (some 49) (.bool true) (by kernel_rfl) (by kernel_rfl) (by kernel_rfl) (by kernel_rfl) (fun _ _ _ h => h) (by kernel_rfl) (by intro o ho w hSw; cases ho; (try dsimp only at hSw); go_simp) (by assumption) ?_
      (try simp only [Act.put, List.setIfInBounds_toArray, List.set_cons_zero, List.set_cons_succ])
      refine wpAnyH_pure (i := 10) (some 50) (.bool false) (by kernel_rfl) (by kernel_rfl) (by kernel_rfl) (by kernel_rfl) (fun _ _ _ h => h) (by kernel_rfl) (by intro w; kernel_rfl) (by assumption) ?_
      (try simp only [Act.put, List.setIfInBounds_toArray, List.set_cons_zero, List.set_cons_succ])
      refine wpAnyH_done (by kernel_rfl) ?_ _
      go_wp2_with fail
      go_meet
      exact ⟨rfl, Hqw5f⟩
    · have Hqw4 : Hid (Below w4.heap.size w4 w4) := Lib.hid (Below.refl _ _)
      have HT0 : Hid (e0.text = X) := Lib.hid (HB0.out (by omega))
      obtain ⟨y, yt, hXy⟩ : ∃ y yt, X = y :: yt := by cases hX : X with | nil => exact absurd hX HXN.out | cons y yt => exact ⟨y, yt, rfl⟩
      have HXY := Lib.hid hXy; clear hXy
      have hge : decide ((32 : Int) ≤ (X.length : Int)) = false := decide_eq_false (by omega)
      go_wp2_with fail
      have hdr : Below w4.heap.size w4 w4.drew := (Below.refl _ _).drew
      have HXw4d := Lib.hid (HXw4.out.below hdr HXw4.out.lt)
      have HPw4d := Lib.hid (HPw4.out.below hdr HPw4.out.lt)
      have HOpw4d := Lib.hid (HOpw4.out.below (hdr.mono HLpw4.out)); have HLpw4d := Lib.hid (Nat.le_trans HLpw4.out hdr.size)
      have HBw4d := Lib.hid (HBw4.out.trans (hdr.mono HBw4.out.size))
      have HTw4d := Lib.hid (HTB.out.below HBw4d.out HTB.out.size)
      have Hepw4d := Lib.hid (Hepw4.out.trans (hdr.mono Hepw4.out.size))
      have Hqw4d := Lib.hid (Hqw4.out.trans (hdr.mono Hqw4.out.size))
      clear Hepw4 Hqw4 HXw4 HPw4 HOpw4 HLpw4 HBw4 HTw4
      refine wp_region_held_drew (S := (fun w' => True ∧ w'.rangeAt (w.heap.size) 0 PX ∧ w'.cell? ⟨w3.heap.size, 2, none⟩ = some (.slice (some ⟨eb, eo, none⟩) 1 p.c) ∧ w'.cell? ⟨eb, eo + 2, none⟩ = some (.string ⟨(y :: yt).toArray⟩))) (by kernel_rfl) ⟨trivial, HXw4d.out.range, (HPw4d.out.cell 2).trans (by show some (Value.slice p.A p.edits.length p.c) = _; rw [HPA.out, HPE.out]; rfl), (HEC.out _ Hepw4d.out).trans (by rw [HT0.out, HXY.out])⟩ (fun hHeld => ?_)
      refine wpAnyH_pure (i := 0) (some 40) (.pointer (some ⟨w3.heap.size, 2, none⟩)) (by kernel_rfl) (by kernel_rfl) (by kernel_rfl) (by kernel_rfl) (fun _ _ _ h => h) (by kernel_rfl) (by intro w; kernel_rfl) (by assumption) ?_
      (try simp only [Act.put, List.setIfInBounds_toArray, List.set_cons_zero, List.set_cons_succ])
      refine wpAnyH_read (i := 1) (some 41) (.slice (some ⟨eb, eo, none⟩) 1 p.c) (by kernel_rfl) (by kernel_rfl) (by kernel_rfl) (by kernel_rfl) (fun _ _ _ h => h) (by kernel_rfl) (by intro o ho w hSw; cases ho; (try dsimp only at hSw); go_simp) (by assumption) ?_
      (try simp only [Act.put, List.setIfInBounds_toArray, List.set_cons_zero, List.set_cons_succ])
      refine wpAnyH_pure (i := 2) (some 42) (.pointer (some ⟨eb, eo, none⟩)) (by kernel_rfl) (by kernel_rfl) (by kernel_rfl) (by kernel_rfl) (fun _ _ _ h => h) (by kernel_rfl) (by intro w; kernel_rfl) (by assumption) ?_
      refine wpAnyH_pure (i := 3) (some 43) (.pointer (some ⟨eb, eo + 2, none⟩)) (by kernel_rfl) (by kernel_rfl) (by kernel_rfl) (by kernel_rfl) (fun _ _ _ h => h) (by kernel_rfl) (by intro w; kernel_rfl) (by assumption) ?_
      (try simp only [Act.put, List.setIfInBounds_toArray, List.set_cons_zero, List.set_cons_succ])
      refine wpAnyH_read (i := 4) (some 44) (.string ⟨(y :: yt).toArray⟩) (by kernel_rfl) (by kernel_rfl) (by kernel_rfl) (by kernel_rfl) (fun _ _ _ h => h) (by kernel_rfl) (by intro o ho w hSw; cases ho; (try dsimp only at hSw); go_simp) (by assumption) ?_
      (try simp only [Act.put, List.setIfInBounds_toArray, List.set_cons_zero, List.set_cons_succ])
      (try simp only [Act.put, List.setIfInBounds_toArray, List.set_cons_zero, List.set_cons_succ])
      refine wpAnyH_read (i := 5) (some 45) (.bool false) (by kernel_rfl) (by kernel_rfl) (by kernel_rfl) (by kernel_rfl) (fun _ _ _ h => h) (by kernel_rfl) (by intro o ho w hSw; cases ho; (try dsimp only at hSw); go_simp) (by assumption) ?_
      (try simp only [Act.put, List.setIfInBounds_toArray, List.set_cons_zero, List.set_cons_succ])
      refine wpAnyH_loadB (i := 6) (some 46) 50 (.tmp 2) (w.heap.size) (PX) _ (by kernel_rfl) (by kernel_rfl) (by kernel_rfl) (by kernel_rfl) (fun _ _ _ h => h) (by kernel_rfl) (by kernel_rfl) (fun w h => h.2.1) Tryd.underlying50 rfl HIX.out (by assumption) ?_
      (try simp only [Act.put, List.setIfInBounds_toArray, List.set_cons_zero, List.set_cons_succ])
      refine wpAnyH_call (i := 7) (by kernel_rfl) 14 #[.tmp 46] #[50] (some 47) (by kernel_rfl) (by kernel_rfl) Tryd.call14 #[.agg PX.toArray] (by kernel_rfl) (ImgBytes_X x PX HPX.out X HX.out _ ((HXI.out.below HBw4d.out).more HBw4d.out.size) HXK.out HLN.out) ?_
      rintro r w5f ⟨rfl, hb⟩
      refine ⟨_, rfl, ?_⟩
      have HXw5f := Lib.hid (HXw4d.out.below hb HXw4d.out.lt)
      have HPw5f := Lib.hid (HPw4d.out.below hb HPw4d.out.lt)
      have HOpw5f := Lib.hid (HOpw4d.out.below (hb.mono HLpw4d.out)); have HLpw5f := Lib.hid (Nat.le_trans HLpw4d.out hb.size)
      have HBw5f := Lib.hid (HBw4d.out.trans (hb.mono HBw4d.out.size))
      have HTw5f := Lib.hid (HTB.out.below HBw5f.out HTB.out.size)
      have Hepw5f := Lib.hid (Hepw4d.out.trans (hb.mono Hepw4d.out.size))
      have Hqw5f := Lib.hid (Hqw4d.out.trans (hb.mono Hqw4d.out.size))
      clear hb Hepw4d Hqw4d HXw4d HPw4d HOpw4d HLpw4d HBw4d HTw4d
      refine ⟨⟨trivial, HXw5f.out.range, (HPw5f.out.cell 2).trans (by show some (Value.slice p.A p.edits.length p.c) = _; rw [HPA.out, HPE.out]; rfl), (HEC.out _ Hepw5f.out).trans (by rw [HT0.out, HXY.out])⟩, fun hHeld => ?_⟩
      (try simp only [Act.put, List.setIfInBounds_toArray, List.set_cons_zero, List.set_cons_succ])
      refine wpAnyH_read (i := 8) (some 48) (.int .i64 (X.length : Int)) (by kernel_rfl) (by kernel_rfl) (by kernel_rfl) (by kernel_rfl) (fun _ _ _ h => h) (by kernel_rfl) (by intro o ho w hSw; cases ho; (try dsimp only at hSw); go_simp) (by assumption) ?_
      (try simp only [Act.put, List.setIfInBounds_toArray, List.set_cons_zero, List.set_cons_succ])
      (try simp only [Act.put, List.setIfInBounds_toArray, List.set_cons_zero, List.set_cons_succ])
      refine wpAnyH_read (i := 9) (some 49) (.bool false) (by kernel_rfl) (by kernel_rfl) (by kernel_rfl) (by kernel_rfl) (fun _ _ _ h => h) (by kernel_rfl) (by intro o ho w hSw; cases ho; (try dsimp only at hSw); go_simp) (by assumption) ?_
      (try simp only [Act.put, List.setIfInBounds_toArray, List.set_cons_zero, List.set_cons_succ])
      refine wpAnyH_pure (i := 10) (some 50) (.bool false) (by kernel_rfl) (by kernel_rfl) (by kernel_rfl) (by kernel_rfl) (fun _ _ _ h => h) (by kernel_rfl) (by intro w; kernel_rfl) (by assumption) ?_
      (try simp only [Act.put, List.setIfInBounds_toArray, List.set_cons_zero, List.set_cons_succ])
      refine wpAnyH_done (by kernel_rfl) ?_ _
      go_wp2_with fail
      go_meet
      exact ⟨rfl, Hqw5f⟩
  case rest =>
    obtain ⟨rfl, HBq⟩ := hcut
    have hb := HBq.out; clear HBq
    have HXwc := Lib.hid (HXw4.out.below hb HXw4.out.lt)
    have HPwc := Lib.hid (HPw4.out.below hb HPw4.out.lt)
    have HOpwc := Lib.hid (HOpw4.out.below (hb.mono HLpw4.out)); have HLpwc := Lib.hid (Nat.le_trans HLpw4.out hb.size)
    have HBwc := Lib.hid (HBw4.out.trans (hb.mono HBw4.out.size))
    have HTwc := Lib.hid (HTB.out.below HBwc.out HTB.out.size)
    have Hepwc := Lib.hid (Hepw4.out.trans (hb.mono Hepw4.out.size))
    clear hb Hepw4 HXw4 HPw4 HOpw4 HLpw4 HBw4 HTw4
    go_wp2_with (first
        | (refine wpList_load_mid rfl 50 _ rfl w.heap.size 0 rfl PX _ HXwc.out.range Tryd.underlying50 rfl HIX.out ?_)
        | (refine wpList_load_mid rfl 24 _ rfl w3.heap.size 0 rfl p.parts _ HPwc.out.range Tryd.underlying24 rfl (patchInfo p) ?_)
        | fail)
    have HC := Lib.hid (Apply_E x x PX p A HPX.out HDp.out HEp.out.val HEp.out.inside H6.out H6.out HXK.out HXI.out.lens wc ((HXI.out.below HBwc.out).more HBwc.out.size) HXK.out (HOpwc.out.more HLpwc.out) HTwc.out)
    refine (HC.out).mono ?_
    rintro r w5m ⟨z, rfl, hz, hiz, hkz, hb⟩
    clear HC
    have HDz := Lib.hid hz; have HKz := Lib.hid hkz; clear hz hkz
    have HXw5m := Lib.hid (HXwc.out.below hb HXwc.out.lt)
    have HPw5m := Lib.hid (HPwc.out.below hb HPwc.out.lt)
    have HOpw5m := Lib.hid (HOpwc.out.below (hb.mono HLpwc.out)); have HLpw5m := Lib.hid (Nat.le_trans HLpwc.out hb.size)
    have HBw5m := Lib.hid (HBwc.out.trans (hb.mono HBwc.out.size))
    have HTw5m := Lib.hid (HTB.out.below HBw5m.out HTB.out.size)
    have Hepw5m := Lib.hid (Hepwc.out.trans (hb.mono Hepwc.out.size))
    clear hb Hepwc HXwc HPwc HOpwc HLpwc HBwc HTwc
    have HOzw5m := Lib.hid hiz; have HLzw5m : Hid (w5m.heap.size ≤ w5m.heap.size) := Lib.hid (Nat.le_refl _); clear hiz
    go_wp2_with (first
        | (refine wpList_load_mid rfl 50 _ rfl w.heap.size 0 rfl PX _ HXw5m.out.range Tryd.underlying50 rfl HIX.out ?_)
        | (refine wpList_load_mid rfl 24 _ rfl w3.heap.size 0 rfl p.parts _ HPw5m.out.range Tryd.underlying24 rfl (patchInfo p) ?_)
        | (refine wpList_new_store rfl 50 _ _ rfl z.parts rfl rfl rfl (by rw [imgInfo, ImageD.parts_length]) (ImageD.one z) ?_))
    intro w6m hx hb
    have HN := Lib.hid hx; clear hx
    have HXw6m := Lib.hid (HXw5m.out.below hb HXw5m.out.lt)
    have HPw6m := Lib.hid (HPw5m.out.below hb HPw5m.out.lt)
    have HOpw6m := Lib.hid (HOpw5m.out.below (hb.mono HLpw5m.out)); have HLpw6m := Lib.hid (Nat.le_trans HLpw5m.out hb.size)
    have HOzw6m := Lib.hid (HOzw5m.out.below (hb.mono HLzw5m.out)); have HLzw6m := Lib.hid (Nat.le_trans HLzw5m.out hb.size)
    have HBw6m := Lib.hid (HBw5m.out.trans (hb.mono HBw5m.out.size))
    have HTw6m := Lib.hid (HTB.out.below HBw6m.out HTB.out.size)
    have Hepw6m := Lib.hid (Hepw5m.out.trans (hb.mono Hepw5m.out.size))
    clear hb Hepw5m HXw5m HPw5m HOpw5m HLpw5m HOzw5m HLzw5m HBw5m HTw5m
    have HZw6m := HN; clear HN
    go_wp2_with (first
        | (refine wpList_load_midG (by kernel_rfl) 50 _ rfl w.heap.size 0 rfl PX _ HXw6m.out.range Tryd.underlying50 rfl HIX.out ?_)
        | (refine wpList_load_midG (by kernel_rfl) 24 _ rfl w3.heap.size 0 rfl p.parts _ HPw6m.out.range Tryd.underlying24 rfl (patchInfo p) ?_)
        | (refine wpList_load_midG (by kernel_rfl) 50 _ rfl w5m.heap.size 0 rfl z.parts _ HZw6m.out.range Tryd.underlying50 rfl (by rw [imgInfo, ImageD.parts_length]) ?_)
        | fail)
    have HC := Lib.hid (Same_EI z x z.parts PX rfl HPX.out HDz.out H6.out w6m (HOzw6m.out.more HLzw6m.out) HKz.out ((HXI.out.below HBw6m.out).more HBw6m.out.size) HXK.out)
    refine (HC.out).mono ?_
    rintro r w7m ⟨rfl, hb⟩
    clear HC
    have HXw7m := Lib.hid (HXw6m.out.below hb HXw6m.out.lt)
    have HPw7m := Lib.hid (HPw6m.out.below hb HPw6m.out.lt)
    have HZw7m := Lib.hid (HZw6m.out.below hb HZw6m.out.lt)
    have HOpw7m := Lib.hid (HOpw6m.out.below (hb.mono HLpw6m.out)); have HLpw7m := Lib.hid (Nat.le_trans HLpw6m.out hb.size)
    have HOzw7m := Lib.hid (HOzw6m.out.below (hb.mono HLzw6m.out)); have HLzw7m := Lib.hid (Nat.le_trans HLzw6m.out hb.size)
    have HBw7m := Lib.hid (HBw6m.out.trans (hb.mono HBw6m.out.size))
    have HTw7m := Lib.hid (HTB.out.below HBw7m.out HTB.out.size)
    have Hepw7m := Lib.hid (Hepw6m.out.trans (hb.mono Hepw6m.out.size))
    clear hb Hepw6m HXw6m HPw6m HZw6m HOpw6m HLpw6m HOzw6m HLzw6m HBw6m HTw6m
    have c5 : w7m.cell? ⟨w.heap.size, 5, none⟩ = some (.string ⟨B5.toArray⟩) := (HXw7m.out.cell 5).trans (by rw [HPX.out]; show some (Value.string ⟨x.i5.toArray⟩) = _; rw [HB5.out])
    by_cases hn0 : n < 0
    · have dn : decide (n < 0) = true := decide_eq_true hn0
      go_wp2_with (first
          | (refine wpList_load_midG (by kernel_rfl) 50 _ rfl w.heap.size 0 rfl PX _ HXw7m.out.range Tryd.underlying50 rfl HIX.out ?_)
          | (refine wpList_load_midG (by kernel_rfl) 24 _ rfl w3.heap.size 0 rfl p.parts _ HPw7m.out.range Tryd.underlying24 rfl (patchInfo p) ?_)
          | (refine wpList_load_midG (by kernel_rfl) 50 _ rfl w5m.heap.size 0 rfl z.parts _ HZw7m.out.range Tryd.underlying50 rfl (by rw [imgInfo, ImageD.parts_length]) ?_)
          | fail)
      have HC := Lib.hid (Same_EI z x z.parts PX rfl HPX.out HDz.out H6.out w7m (HOzw7m.out.more HLzw7m.out) HKz.out ((HXI.out.below HBw7m.out).more HBw7m.out.size) HXK.out)
      refine (HC.out).mono ?_
      rintro r w8x ⟨rfl, hb⟩
      clear HC
      clear c5
      have HXw8x := Lib.hid (HXw7m.out.below hb HXw7m.out.lt)
      have HPw8x := Lib.hid (HPw7m.out.below hb HPw7m.out.lt)
      have HZw8x := Lib.hid (HZw7m.out.below hb HZw7m.out.lt)
      have HOpw8x := Lib.hid (HOpw7m.out.below (hb.mono HLpw7m.out)); have HLpw8x := Lib.hid (Nat.le_trans HLpw7m.out hb.size)
      have HOzw8x := Lib.hid (HOzw7m.out.below (hb.mono HLzw7m.out)); have HLzw8x := Lib.hid (Nat.le_trans HLzw7m.out hb.size)
      have HBw8x := Lib.hid (HBw7m.out.trans (hb.mono HBw7m.out.size))
      have HTw8x := Lib.hid (HTB.out.below HBw8x.out HTB.out.size)
      have Hepw8x := Lib.hid (Hepw7m.out.trans (hb.mono Hepw7m.out.size))
      clear hb Hepw7m HXw7m HPw7m HZw7m HOpw7m HLpw7m HOzw7m HLzw7m HBw7m HTw7m
      go_wp2
      go_ret
      exact ⟨rfl, HBw8x.out⟩
    obtain ⟨k, rfl⟩ : ∃ k : Nat, n = (k : Int) := ⟨n.toNat, by omega⟩
    have dn : decide ((k : Int) < 0) = false := decide_eq_false hn0
    by_cases hk : B5.length ≤ k
    · have dk : decide ((B5.length : Int) ≤ (k : Int)) = true := decide_eq_true (by omega)
      go_wp2_with (first
          | (refine wpList_load_midG (by kernel_rfl) 50 _ rfl w.heap.size 0 rfl PX _ HXw7m.out.range Tryd.underlying50 rfl HIX.out ?_)
          | (refine wpList_load_midG (by kernel_rfl) 24 _ rfl w3.heap.size 0 rfl p.parts _ HPw7m.out.range Tryd.underlying24 rfl (patchInfo p) ?_)
          | (refine wpList_load_midG (by kernel_rfl) 50 _ rfl w5m.heap.size 0 rfl z.parts _ HZw7m.out.range Tryd.underlying50 rfl (by rw [imgInfo, ImageD.parts_length]) ?_)
          | fail)
      have HC := Lib.hid (Same_EI z x z.parts PX rfl HPX.out HDz.out H6.out w7m (HOzw7m.out.more HLzw7m.out) HKz.out ((HXI.out.below HBw7m.out).more HBw7m.out.size) HXK.out)
      refine (HC.out).mono ?_
      rintro r w8x ⟨rfl, hb⟩
      clear HC
      clear c5
      have HXw8x := Lib.hid (HXw7m.out.below hb HXw7m.out.lt)
      have HPw8x := Lib.hid (HPw7m.out.below hb HPw7m.out.lt)
      have HZw8x := Lib.hid (HZw7m.out.below hb HZw7m.out.lt)
      have HOpw8x := Lib.hid (HOpw7m.out.below (hb.mono HLpw7m.out)); have HLpw8x := Lib.hid (Nat.le_trans HLpw7m.out hb.size)
      have HOzw8x := Lib.hid (HOzw7m.out.below (hb.mono HLzw7m.out)); have HLzw8x := Lib.hid (Nat.le_trans HLzw7m.out hb.size)
      have HBw8x := Lib.hid (HBw7m.out.trans (hb.mono HBw7m.out.size))
      have HTw8x := Lib.hid (HTB.out.below HBw8x.out HTB.out.size)
      have Hepw8x := Lib.hid (Hepw7m.out.trans (hb.mono Hepw7m.out.size))
      clear hb Hepw7m HXw7m HPw7m HZw7m HOpw7m HLpw7m HOzw7m HLzw7m HBw7m HTw7m
      go_wp2
      go_ret
      exact ⟨rfl, HBw8x.out⟩
    have dk : decide ((B5.length : Int) ≤ (k : Int)) = false := decide_eq_false (by omega)
    have hk : k < B5.length := by omega
    go_wp2_with (first
        | (refine wpList_load_mid rfl 50 _ rfl w.heap.size 0 rfl PX _ HXw7m.out.range Tryd.underlying50 rfl HIX.out ?_)
        | (refine wpList_load_mid rfl 24 _ rfl w3.heap.size 0 rfl p.parts _ HPw7m.out.range Tryd.underlying24 rfl (patchInfo p) ?_)
        | (refine wpList_load_mid rfl 50 _ rfl w5m.heap.size 0 rfl z.parts _ HZw7m.out.range Tryd.underlying50 rfl (by rw [imgInfo, ImageD.parts_length]) ?_)
        | (refine wpList_new_store rfl 50 _ _ rfl PX rfl rfl (by rw [HX26.out]; rfl) HIX.out HXO.out ?_))
    intro w8m hx hb
    have HBK8 := Lib.hid hx; have HB78 := Lib.hid hb; clear hx hb c5 dn dk hn0
    have HC5 : Hid (∀ v, Below w7m.heap.size w7m v → v.cell? ⟨w.heap.size, 5, none⟩ = some (.string ⟨B5.toArray⟩)) := Lib.hid (fun v hb => ((HXw7m.out.below hb HXw7m.out.lt).cell 5).trans (by rw [HPX.out]; show some (Value.string ⟨x.i5.toArray⟩) = _; rw [HB5.out]))
    go_wp2_with fail
    have HBK9 : Hid (Blk w8m.drew w7m.heap.size 50 PX.toArray) := HBK8.out
    have HB79 : Hid (Below w7m.heap.size w7m w8m.drew) := HB78.out.drew
    refine wp_region_held_drew (S := fun w' => True ∧ w'.cell? ⟨w.heap.size, 5, none⟩ = some (.string ⟨B5.toArray⟩)) (by kernel_rfl) ⟨trivial, HC5.out _ HB79.out⟩ (fun hHeld => ?_)
    obtain ⟨y, hy⟩ : ∃ y, B5.getD k 0 = y := ⟨_, rfl⟩
    have hx1 : (ByteArray.mk B5.toArray).extract 0 k = ⟨(B5.take k).toArray⟩ := by rw [Lib.extract_eq]; rfl
    obtain ⟨q1, hq1⟩ : ∃ q1, q1 = k + 1 := ⟨_, rfl⟩
    have hx2 : (ByteArray.mk B5.toArray).extract q1 B5.length = ⟨(B5.drop q1).toArray⟩ := by rw [Lib.extract_eq, List.take_of_length_le (by rw [List.length_drop]; exact Nat.le_refl _)]
    have hyi : (ByteArray.mk B5.toArray)[k]'(byte_sz hk) = y := by rw [byte_at B5 k hk _, ← hy, List.getD_eq_getElem?_getD, List.getElem?_eq_getElem hk]; rfl
    have hxo := xor1_any y
    obtain ⟨z1, hz1⟩ : ∃ z1, y ^^^ 1 = z1 := ⟨_, rfl⟩
    rw [hz1] at hxo
    have hki : (k : Int) < (B5.length : Int) := by omega
    have hki2 : (k : Int) ≤ (B5.length : Int) := by omega
    have hkf : (B5.length < k) = False := eq_false (by omega)
    have hqf : (B5.length < q1) = False := eq_false (by omega)
    have w1 : IntKind.i64.wrap ((k : Int) + 1) = (q1 : Int) := by rw [hq1]; push_cast; exact IntWalk.i64_in _ (by omega)
    have HZ1 : Hid (flipL B5 k = B5.take k ++ [z1] ++ B5.drop q1) := Lib.hid (by unfold flipL; rw [hy, hz1, hq1])
    have hq1l : q1 ≤ B5.length := by omega
    clear hy hz1 hq1
    refine wpAnyH_pure (i := 0) (some 87) (.pointer (some ⟨w.heap.size, 5, none⟩)) (by kernel_rfl) (by kernel_rfl) (by kernel_rfl) (by kernel_rfl) (fun _ _ _ h => h) (by kernel_rfl) (by intro w; kernel_rfl) (by assumption) ?_
    (try simp only [Act.put, List.setIfInBounds_toArray, List.set_cons_zero, List.set_cons_succ])
    refine wpAnyH_read (i := 1) (some 88) (.string ⟨B5.toArray⟩) (by kernel_rfl) (by kernel_rfl) (by kernel_rfl) (by kernel_rfl) (fun _ _ _ h => h) (by kernel_rfl) (by intro o ho w hSw; cases ho; (try dsimp only at hSw); go_simp) (by assumption) ?_
    (try simp only [Act.put, List.setIfInBounds_toArray, List.set_cons_zero, List.set_cons_succ])
    refine wpAnyH_pure (i := 2) (some 89) (.int .i64 (k : Int)) (by kernel_rfl) (by kernel_rfl) (by kernel_rfl) (by kernel_rfl) (fun _ _ _ h => h) (by kernel_rfl) (by intro w; kernel_rfl) (by assumption) ?_
    (try simp only [Act.put, List.setIfInBounds_toArray, List.set_cons_zero, List.set_cons_succ])
    refine wpAnyH_read (i := 3) (some 90) (.string ⟨(B5.take k).toArray⟩) (by kernel_rfl) (by kernel_rfl) (by kernel_rfl) (by kernel_rfl) (fun _ _ _ h => h) (by kernel_rfl) (by intro o ho w hSw; cases ho; (try dsimp only at hSw); go_simp) (by assumption) ?_
    (try simp only [Act.put, List.setIfInBounds_toArray, List.set_cons_zero, List.set_cons_succ])
    refine wpAnyH_pure (i := 4) (some 91) (.pointer (some ⟨w.heap.size, 5, none⟩)) (by kernel_rfl) (by kernel_rfl) (by kernel_rfl) (by kernel_rfl) (fun _ _ _ h => h) (by kernel_rfl) (by intro w; kernel_rfl) (by assumption) ?_
    (try simp only [Act.put, List.setIfInBounds_toArray, List.set_cons_zero, List.set_cons_succ])
    refine wpAnyH_read (i := 5) (some 92) (.string ⟨B5.toArray⟩) (by kernel_rfl) (by kernel_rfl) (by kernel_rfl) (by kernel_rfl) (fun _ _ _ h => h) (by kernel_rfl) (by intro o ho w hSw; cases ho; (try dsimp only at hSw); go_simp) (by assumption) ?_
    (try simp only [Act.put, List.setIfInBounds_toArray, List.set_cons_zero, List.set_cons_succ])
    refine wpAnyH_pure (i := 6) (some 93) (.int .i64 (k : Int)) (by kernel_rfl) (by kernel_rfl) (by kernel_rfl) (by kernel_rfl) (fun _ _ _ h => h) (by kernel_rfl) (by intro w; kernel_rfl) (by assumption) ?_
    (try simp only [Act.put, List.setIfInBounds_toArray, List.set_cons_zero, List.set_cons_succ])
    refine wpAnyH_read (i := 7) (some 94) (.int .u8 (y.toNat : Int)) (by kernel_rfl) (by kernel_rfl) (by kernel_rfl) (by kernel_rfl) (fun _ _ _ h => h) (by kernel_rfl) (by intro o ho w hSw; cases ho; (try dsimp only at hSw); go_simp) (by assumption) ?_
    (try simp only [Act.put, List.setIfInBounds_toArray, List.set_cons_zero, List.set_cons_succ])
    (try simp only [Act.put, List.setIfInBounds_toArray, List.set_cons_zero, List.set_cons_succ])
    refine wpAnyH_read (i := 8) (some 95) (.int .u8 (z1.toNat : Int)) (by kernel_rfl) (by kernel_rfl) (by kernel_rfl) (by kernel_rfl) (fun _ _ _ h => h) (by kernel_rfl) (by intro o ho w hSw; cases ho; (try dsimp only at hSw); go_simp) (by assumption) ?_
    (try simp only [Act.put, List.setIfInBounds_toArray, List.set_cons_zero, List.set_cons_succ])
    refine wpAnyH_pure (i := 12) (some 99) (.pointer (some ⟨w.heap.size, 5, none⟩)) (by kernel_rfl) (by kernel_rfl) (by kernel_rfl) (by kernel_rfl) (fun _ _ _ h => h) (by kernel_rfl) (by intro w; kernel_rfl) (by assumption) ?_
    (try simp only [Act.put, List.setIfInBounds_toArray, List.set_cons_zero, List.set_cons_succ])
    refine wpAnyH_read (i := 13) (some 100) (.string ⟨B5.toArray⟩) (by kernel_rfl) (by kernel_rfl) (by kernel_rfl) (by kernel_rfl) (fun _ _ _ h => h) (by kernel_rfl) (by intro o ho w hSw; cases ho; (try dsimp only at hSw); go_simp) (by assumption) ?_
    (try simp only [Act.put, List.setIfInBounds_toArray, List.set_cons_zero, List.set_cons_succ])
    refine wpAnyH_pure (i := 14) (some 101) (.int .i64 (k : Int)) (by kernel_rfl) (by kernel_rfl) (by kernel_rfl) (by kernel_rfl) (fun _ _ _ h => h) (by kernel_rfl) (by intro w; kernel_rfl) (by assumption) ?_
    (try simp only [Act.put, List.setIfInBounds_toArray, List.set_cons_zero, List.set_cons_succ])
    refine wpAnyH_read (i := 15) (some 102) (.int .i64 (q1 : Int)) (by kernel_rfl) (by kernel_rfl) (by kernel_rfl) (by kernel_rfl) (fun _ _ _ h => h) (by kernel_rfl) (by intro o ho w hSw; cases ho; (try dsimp only at hSw); go_simp) (by assumption) ?_
    (try simp only [Act.put, List.setIfInBounds_toArray, List.set_cons_zero, List.set_cons_succ])
    (try simp only [Act.put, List.setIfInBounds_toArray, List.set_cons_zero, List.set_cons_succ])
    refine wpAnyH_read (i := 16) (some 103) (.string ⟨(B5.drop q1).toArray⟩) (by kernel_rfl) (by kernel_rfl) (by kernel_rfl) (by kernel_rfl) (fun _ _ _ h => h) (by kernel_rfl) (by intro o ho w hSw; cases ho; (try dsimp only at hSw); go_simp) (by assumption) ?_
    (try simp only [Act.put, List.setIfInBounds_toArray, List.set_cons_zero, List.set_cons_succ])
    (try simp only [Act.put, List.setIfInBounds_toArray, List.set_cons_zero, List.set_cons_succ])
    clear hx1 hx2 hyi hxo hkf hqf w1
    refine wpAnyH_ready (rs := [9]) (by kernel_rfl) (by simp) ?_
    refine AllReadyH.cons rfl (fun K hK => ?_) AllReadyH.nil
    go_simp
    have HNZ : Hid (Blk (w8m.alloc (.cells #[.int .u8 (z1.toNat : Int)] 5)).drew w8m.heap.size 5 #[.int .u8 (z1.toNat : Int)]) := Lib.hid (Blk.new w8m 5 _)
    have HBZ : Hid (Below w8m.heap.size w8m.drew (w8m.alloc (.cells #[.int .u8 (z1.toNat : Int)] 5)).drew) := Lib.hid ((Below.refl w8m.heap.size w8m.drew).alloc (Nat.le_refl _) (.cells #[.int .u8 (z1.toNat : Int)] 5))
    generalize (w8m.alloc (.cells #[.int .u8 (z1.toNat : Int)] 5)).drew = wz at HNZ HBZ ⊢
    have HBKz := Lib.hid (HBK9.out.below HBZ.out HBK9.out.lt)
    have HB7z := Lib.hid (HB79.out.trans (HBZ.out.mono HB79.out.size))
    refine hK.out _ _ ⟨trivial, HC5.out _ HB7z.out⟩ (fun hHeld => ?_)
    clear hK K
    have hcv := conv_own (w := wz) (B := w8m.heap.size) (n := 1) (v := .slice (some ⟨w8m.heap.size, 0, none⟩) 1 1) (l := [z1]) ⟨rfl, .inr ⟨_, 1, _, rfl, Nat.le_refl _, HNZ.out, Nat.le_refl _, by unfold maxLen; decide, rfl, rfl⟩⟩
    refine wpAnyH_run (i := 10) (some 97) (.string ⟨([z1] : List UInt8).toArray⟩) wz (by kernel_rfl) (by kernel_rfl) (by kernel_rfl) (by intro o ho; cases ho; go_simp) ⟨trivial, HC5.out _ HB7z.out⟩ (fun hHeld => ?_)
    clear hcv
    have had := fun w' => str_add (B5.take k) [z1] (w := w') (by simp; omega)
    refine wpAnyH_run (i := 11) (some 98) (.string ⟨(B5.take k ++ [z1]).toArray⟩) wz (by kernel_rfl) (by kernel_rfl) (by kernel_rfl) (by intro o ho; cases ho; go_simp) ⟨trivial, HC5.out _ HB7z.out⟩ (fun hHeld => ?_)
    clear had
    have had := fun w' => str_add (B5.take k ++ [z1]) (B5.drop q1) (w := w') (by simp; omega)
    refine wpAnyH_run (i := 17) (some 104) (.string ⟨(B5.take k ++ [z1] ++ B5.drop q1).toArray⟩) wz (by kernel_rfl) (by kernel_rfl) (by kernel_rfl) (by intro o ho; cases ho; go_simp) ⟨trivial, HC5.out _ HB7z.out⟩ (fun hHeld => ?_)
    clear had
    refine wpAnyH_pure (i := 18) (some 105) (.pointer (some ⟨w7m.heap.size, 5, none⟩)) (by kernel_rfl) (by kernel_rfl) (by kernel_rfl) (by kernel_rfl) (fun _ _ _ h => h) (by kernel_rfl) (by intro w; kernel_rfl) (by assumption) ?_
    rw [← HZ1.out]
    obtain ⟨F5, hF5⟩ : ∃ l, flipL B5 k = l := ⟨_, rfl⟩
    rw [hF5]
    have HF5 := Lib.hid hF5
    clear hF5
    (try simp only [Act.put, List.setIfInBounds_toArray, List.set_cons_zero, List.set_cons_succ])
    have cb5 : wz.cell? ⟨w7m.heap.size, 5, none⟩ = some (.string ⟨B5.toArray⟩) := (HBKz.out.cell 5).trans (by rw [HPX.out]; show some (Value.string ⟨x.i5.toArray⟩) = _; rw [HB5.out])
    have fb5 := HBKz.out.frozen 5
    refine wpAnyH_ready (rs := [19]) (by kernel_rfl) (by simp) ?_
    refine AllReadyH.cons rfl (fun K hK => ?_) AllReadyH.nil
    go_simp
    obtain ⟨yb, hyb⟩ : ∃ yb, flipI x k = yb := ⟨_, rfl⟩
    obtain ⟨PB, hPB⟩ : ∃ PB, PB = yb.parts := ⟨_, rfl⟩
    have hk5 : k < x.i5.length := by rw [HB5.out]; exact hk
    have HYI : Hid (yb.In w w.heap.size) := Lib.hid (by rw [← hyb]; exact flipI_in HXI.out)
    have HYK : Hid yb.Ok := Lib.hid (by rw [← hyb]; exact flipI_ok hk5 HXK.out)
    have HY6 : Hid ((wImage yb).length ≤ 6000) := Lib.hid (by rw [← hyb, flipI_len hk5]; exact H6.out)
    have HBKy : Hid (Blk (wz.setCell ⟨w7m.heap.size, 5, none⟩ (.string ⟨F5.toArray⟩)) w7m.heap.size 50 PB.toArray) := Lib.hid (by
      have h := HBKz.out.set_ 5 (.string ⟨F5.toArray⟩)
      rw [← HF5.out, ← HB5.out, HPX.out] at h
      rw [hPB, ← hyb, ← HF5.out, ← HB5.out]
      exact h)
    have HPB := Lib.hid hPB
    have HIB : Hid ((Tryd.prog.info? 50).map (·.size) = some PB.length) := Lib.hid (by rw [imgInfo, hPB]; rfl)
    have hb : Below w7m.heap.size w7m (wz.setCell ⟨w7m.heap.size, 5, none⟩ (.string ⟨F5.toArray⟩)) := HB7z.out.setCell (p := ⟨w7m.heap.size, 5, none⟩) (Nat.le_refl _) _
    generalize wz.setCell ⟨w7m.heap.size, 5, none⟩ (.string ⟨F5.toArray⟩) = wy at HBKy hb ⊢
    refine hK.out _ _ ⟨trivial, HC5.out _ hb⟩ (fun hHeld => ?_)
    clear hK K hyb hPB cb5 fb5 hk5 HC5 HBKz HB7z HBK8 HB78 HBK9 HB79 HNZ HBZ
    refine wpAnyH_done (by kernel_rfl) ?_ _
    have HXwy := Lib.hid (HXw7m.out.below hb HXw7m.out.lt)
    have HPwy := Lib.hid (HPw7m.out.below hb HPw7m.out.lt)
    have HZwy := Lib.hid (HZw7m.out.below hb HZw7m.out.lt)
    have HOpwy := Lib.hid (HOpw7m.out.below (hb.mono HLpw7m.out)); have HLpwy := Lib.hid (Nat.le_trans HLpw7m.out hb.size)
    have HOzwy := Lib.hid (HOzw7m.out.below (hb.mono HLzw7m.out)); have HLzwy := Lib.hid (Nat.le_trans HLzw7m.out hb.size)
    have HBwy := Lib.hid (HBw7m.out.trans (hb.mono HBw7m.out.size))
    have HTwy := Lib.hid (HTB.out.below HBwy.out HTB.out.size)
    have Hepwy := Lib.hid (Hepw7m.out.trans (hb.mono Hepw7m.out.size))
    clear hb Hepw7m HXw7m HPw7m HZw7m HOpw7m HLpw7m HOzw7m HLzw7m HBw7m HTw7m
    have HBkwy := HBKy; clear HBKy
    go_wp2_with (first
        | (refine wpList_load_mid rfl 50 _ rfl w.heap.size 0 rfl PX _ HXwy.out.range Tryd.underlying50 rfl HIX.out ?_)
        | (refine wpList_load_mid rfl 24 _ rfl w3.heap.size 0 rfl p.parts _ HPwy.out.range Tryd.underlying24 rfl (patchInfo p) ?_)
        | (refine wpList_load_mid rfl 50 _ rfl w5m.heap.size 0 rfl z.parts _ HZwy.out.range Tryd.underlying50 rfl (by rw [imgInfo, ImageD.parts_length]) ?_)
        | (refine wpList_load_mid rfl 50 _ rfl w7m.heap.size 0 rfl PB _ HBkwy.out.range Tryd.underlying50 rfl HIB.out ?_)
        | fail)
    have HC := Lib.hid (Diff_E x yb PX PB HPX.out HPB.out wy ((HXI.out.below HBwy.out).more HBwy.out.size) HXK.out ((HYI.out.below HBwy.out).more HBwy.out.size) HYK.out HTwy.out H6.out HY6.out)
    refine (HC.out).mono ?_
    rintro r w9m ⟨q, Q, rfl, hEq, hq, hkq, hb⟩
    clear HC
    have HEq := Lib.hid hEq; have HDq := Lib.hid hq; clear hEq hq
    have HXw9m := Lib.hid (HXwy.out.below hb HXwy.out.lt)
    have HPw9m := Lib.hid (HPwy.out.below hb HPwy.out.lt)
    have HZw9m := Lib.hid (HZwy.out.below hb HZwy.out.lt)
    have HBkw9m := Lib.hid (HBkwy.out.below hb HBkwy.out.lt)
    have HOpw9m := Lib.hid (HOpwy.out.below (hb.mono HLpwy.out)); have HLpw9m := Lib.hid (Nat.le_trans HLpwy.out hb.size)
    have HOzw9m := Lib.hid (HOzwy.out.below (hb.mono HLzwy.out)); have HLzw9m := Lib.hid (Nat.le_trans HLzwy.out hb.size)
    have HBw9m := Lib.hid (HBwy.out.trans (hb.mono HBwy.out.size))
    have HTw9m := Lib.hid (HTB.out.below HBw9m.out HTB.out.size)
    have Hepw9m := Lib.hid (Hepwy.out.trans (hb.mono Hepwy.out.size))
    clear hb Hepwy HXwy HPwy HZwy HBkwy HOpwy HLpwy HOzwy HLzwy HBwy HTwy
    have HOqw9m := Lib.hid hkq; have HLqw9m : Hid (w9m.heap.size ≤ w9m.heap.size) := Lib.hid (Nat.le_refl _); clear hkq
    go_wp2_with (first
        | (refine wpList_load_mid rfl 50 _ rfl w.heap.size 0 rfl PX _ HXw9m.out.range Tryd.underlying50 rfl HIX.out ?_)
        | (refine wpList_load_mid rfl 24 _ rfl w3.heap.size 0 rfl p.parts _ HPw9m.out.range Tryd.underlying24 rfl (patchInfo p) ?_)
        | (refine wpList_load_mid rfl 50 _ rfl w5m.heap.size 0 rfl z.parts _ HZw9m.out.range Tryd.underlying50 rfl (by rw [imgInfo, ImageD.parts_length]) ?_)
        | (refine wpList_load_mid rfl 50 _ rfl w7m.heap.size 0 rfl PB _ HBkw9m.out.range Tryd.underlying50 rfl HIB.out ?_)
        | (refine wpList_new_store rfl 24 _ _ rfl q.parts rfl rfl rfl (patchInfo q) (PatchD.one q) ?_))
    intro w10m hx hb
    have HN := Lib.hid hx; clear hx
    have HXw10m := Lib.hid (HXw9m.out.below hb HXw9m.out.lt)
    have HPw10m := Lib.hid (HPw9m.out.below hb HPw9m.out.lt)
    have HZw10m := Lib.hid (HZw9m.out.below hb HZw9m.out.lt)
    have HBkw10m := Lib.hid (HBkw9m.out.below hb HBkw9m.out.lt)
    have HOpw10m := Lib.hid (HOpw9m.out.below (hb.mono HLpw9m.out)); have HLpw10m := Lib.hid (Nat.le_trans HLpw9m.out hb.size)
    have HOzw10m := Lib.hid (HOzw9m.out.below (hb.mono HLzw9m.out)); have HLzw10m := Lib.hid (Nat.le_trans HLzw9m.out hb.size)
    have HOqw10m := Lib.hid (HOqw9m.out.below (hb.mono HLqw9m.out)); have HLqw10m := Lib.hid (Nat.le_trans HLqw9m.out hb.size)
    have HBw10m := Lib.hid (HBw9m.out.trans (hb.mono HBw9m.out.size))
    have HTw10m := Lib.hid (HTB.out.below HBw10m.out HTB.out.size)
    have Hepw10m := Lib.hid (Hepw9m.out.trans (hb.mono Hepw9m.out.size))
    clear hb Hepw9m HXw9m HPw9m HZw9m HBkw9m HOpw9m HLpw9m HOzw9m HLzw9m HOqw9m HLqw9m HBw9m HTw9m
    have HQw10m := HN; clear HN
    go_wp2_with (first
        | (refine wpList_load_mid rfl 50 _ rfl w.heap.size 0 rfl PX _ HXw10m.out.range Tryd.underlying50 rfl HIX.out ?_)
        | (refine wpList_load_mid rfl 24 _ rfl w3.heap.size 0 rfl p.parts _ HPw10m.out.range Tryd.underlying24 rfl (patchInfo p) ?_)
        | (refine wpList_load_mid rfl 50 _ rfl w5m.heap.size 0 rfl z.parts _ HZw10m.out.range Tryd.underlying50 rfl (by rw [imgInfo, ImageD.parts_length]) ?_)
        | (refine wpList_load_mid rfl 50 _ rfl w7m.heap.size 0 rfl PB _ HBkw10m.out.range Tryd.underlying50 rfl HIB.out ?_)
        | (refine wpList_load_mid rfl 24 _ rfl w9m.heap.size 0 rfl q.parts _ HQw10m.out.range Tryd.underlying24 rfl (patchInfo q) ?_)
        | fail)
    have HC := Lib.hid (Apply_E x yb PX q Q HPX.out HDq.out HEq.out.val HEq.out.inside H6.out HY6.out HYK.out HYI.out.lens w10m ((HXI.out.below HBw10m.out).more HBw10m.out.size) HXK.out (HOqw10m.out.more HLqw10m.out) HTw10m.out)
    refine (HC.out).mono ?_
    rintro r w11m ⟨z2, rfl, hz2, hiz2, hkz2, hb⟩
    clear HC
    have HDz2 := Lib.hid hz2; have HKz2 := Lib.hid hkz2; clear hz2 hkz2
    have HXw11m := Lib.hid (HXw10m.out.below hb HXw10m.out.lt)
    have HPw11m := Lib.hid (HPw10m.out.below hb HPw10m.out.lt)
    have HZw11m := Lib.hid (HZw10m.out.below hb HZw10m.out.lt)
    have HBkw11m := Lib.hid (HBkw10m.out.below hb HBkw10m.out.lt)
    have HQw11m := Lib.hid (HQw10m.out.below hb HQw10m.out.lt)
    have HOpw11m := Lib.hid (HOpw10m.out.below (hb.mono HLpw10m.out)); have HLpw11m := Lib.hid (Nat.le_trans HLpw10m.out hb.size)
    have HOzw11m := Lib.hid (HOzw10m.out.below (hb.mono HLzw10m.out)); have HLzw11m := Lib.hid (Nat.le_trans HLzw10m.out hb.size)
    have HOqw11m := Lib.hid (HOqw10m.out.below (hb.mono HLqw10m.out)); have HLqw11m := Lib.hid (Nat.le_trans HLqw10m.out hb.size)
    have HBw11m := Lib.hid (HBw10m.out.trans (hb.mono HBw10m.out.size))
    have HTw11m := Lib.hid (HTB.out.below HBw11m.out HTB.out.size)
    have Hepw11m := Lib.hid (Hepw10m.out.trans (hb.mono Hepw10m.out.size))
    clear hb Hepw10m HXw10m HPw10m HZw10m HBkw10m HQw10m HOpw10m HLpw10m HOzw10m HLzw10m HOqw10m HLqw10m HBw10m HTw10m
    have HOz2w11m := Lib.hid hiz2; have HLz2w11m : Hid (w11m.heap.size ≤ w11m.heap.size) := Lib.hid (Nat.le_refl _); clear hiz2
    go_wp2_with (first
        | (refine wpList_load_mid rfl 50 _ rfl w.heap.size 0 rfl PX _ HXw11m.out.range Tryd.underlying50 rfl HIX.out ?_)
        | (refine wpList_load_mid rfl 24 _ rfl w3.heap.size 0 rfl p.parts _ HPw11m.out.range Tryd.underlying24 rfl (patchInfo p) ?_)
        | (refine wpList_load_mid rfl 50 _ rfl w5m.heap.size 0 rfl z.parts _ HZw11m.out.range Tryd.underlying50 rfl (by rw [imgInfo, ImageD.parts_length]) ?_)
        | (refine wpList_load_mid rfl 50 _ rfl w7m.heap.size 0 rfl PB _ HBkw11m.out.range Tryd.underlying50 rfl HIB.out ?_)
        | (refine wpList_load_mid rfl 24 _ rfl w9m.heap.size 0 rfl q.parts _ HQw11m.out.range Tryd.underlying24 rfl (patchInfo q) ?_)
        | (refine wpList_new_store rfl 50 _ _ rfl z2.parts rfl rfl rfl (by rw [imgInfo, ImageD.parts_length]) (ImageD.one z2) ?_))
    intro w12m hx hb
    have HN := Lib.hid hx; clear hx
    have HXw12m := Lib.hid (HXw11m.out.below hb HXw11m.out.lt)
    have HPw12m := Lib.hid (HPw11m.out.below hb HPw11m.out.lt)
    have HZw12m := Lib.hid (HZw11m.out.below hb HZw11m.out.lt)
    have HBkw12m := Lib.hid (HBkw11m.out.below hb HBkw11m.out.lt)
    have HQw12m := Lib.hid (HQw11m.out.below hb HQw11m.out.lt)
    have HOpw12m := Lib.hid (HOpw11m.out.below (hb.mono HLpw11m.out)); have HLpw12m := Lib.hid (Nat.le_trans HLpw11m.out hb.size)
    have HOzw12m := Lib.hid (HOzw11m.out.below (hb.mono HLzw11m.out)); have HLzw12m := Lib.hid (Nat.le_trans HLzw11m.out hb.size)
    have HOqw12m := Lib.hid (HOqw11m.out.below (hb.mono HLqw11m.out)); have HLqw12m := Lib.hid (Nat.le_trans HLqw11m.out hb.size)
    have HOz2w12m := Lib.hid (HOz2w11m.out.below (hb.mono HLz2w11m.out)); have HLz2w12m := Lib.hid (Nat.le_trans HLz2w11m.out hb.size)
    have HBw12m := Lib.hid (HBw11m.out.trans (hb.mono HBw11m.out.size))
    have HTw12m := Lib.hid (HTB.out.below HBw12m.out HTB.out.size)
    have Hepw12m := Lib.hid (Hepw11m.out.trans (hb.mono Hepw11m.out.size))
    clear hb Hepw11m HXw11m HPw11m HZw11m HBkw11m HQw11m HOpw11m HLpw11m HOzw11m HLzw11m HOqw11m HLqw11m HOz2w11m HLz2w11m HBw11m HTw11m
    have HZ2w12m := HN; clear HN
    go_wp2_with (first
        | (refine wpList_load_mid rfl 50 _ rfl w.heap.size 0 rfl PX _ HXw12m.out.range Tryd.underlying50 rfl HIX.out ?_)
        | (refine wpList_load_mid rfl 24 _ rfl w3.heap.size 0 rfl p.parts _ HPw12m.out.range Tryd.underlying24 rfl (patchInfo p) ?_)
        | (refine wpList_load_mid rfl 50 _ rfl w5m.heap.size 0 rfl z.parts _ HZw12m.out.range Tryd.underlying50 rfl (by rw [imgInfo, ImageD.parts_length]) ?_)
        | (refine wpList_load_mid rfl 50 _ rfl w7m.heap.size 0 rfl PB _ HBkw12m.out.range Tryd.underlying50 rfl HIB.out ?_)
        | (refine wpList_load_mid rfl 24 _ rfl w9m.heap.size 0 rfl q.parts _ HQw12m.out.range Tryd.underlying24 rfl (patchInfo q) ?_)
        | (refine wpList_load_mid rfl 50 _ rfl w11m.heap.size 0 rfl z2.parts _ HZ2w12m.out.range Tryd.underlying50 rfl (by rw [imgInfo, ImageD.parts_length]) ?_)
        | fail)
    have HC := Lib.hid (Diff_E yb x PB PX HPB.out HPX.out w12m ((HYI.out.below HBw12m.out).more HBw12m.out.size) HYK.out ((HXI.out.below HBw12m.out).more HBw12m.out.size) HXK.out HTw12m.out HY6.out H6.out)
    refine (HC.out).mono ?_
    rintro r w13m ⟨bc, R, rfl, hEbc, hbc, hkbc, hb⟩
    clear HC
    have HEbc := Lib.hid hEbc; have HDbc := Lib.hid hbc; clear hEbc hbc
    have HXw13m := Lib.hid (HXw12m.out.below hb HXw12m.out.lt)
    have HPw13m := Lib.hid (HPw12m.out.below hb HPw12m.out.lt)
    have HZw13m := Lib.hid (HZw12m.out.below hb HZw12m.out.lt)
    have HBkw13m := Lib.hid (HBkw12m.out.below hb HBkw12m.out.lt)
    have HQw13m := Lib.hid (HQw12m.out.below hb HQw12m.out.lt)
    have HZ2w13m := Lib.hid (HZ2w12m.out.below hb HZ2w12m.out.lt)
    have HOpw13m := Lib.hid (HOpw12m.out.below (hb.mono HLpw12m.out)); have HLpw13m := Lib.hid (Nat.le_trans HLpw12m.out hb.size)
    have HOzw13m := Lib.hid (HOzw12m.out.below (hb.mono HLzw12m.out)); have HLzw13m := Lib.hid (Nat.le_trans HLzw12m.out hb.size)
    have HOqw13m := Lib.hid (HOqw12m.out.below (hb.mono HLqw12m.out)); have HLqw13m := Lib.hid (Nat.le_trans HLqw12m.out hb.size)
    have HOz2w13m := Lib.hid (HOz2w12m.out.below (hb.mono HLz2w12m.out)); have HLz2w13m := Lib.hid (Nat.le_trans HLz2w12m.out hb.size)
    have HBw13m := Lib.hid (HBw12m.out.trans (hb.mono HBw12m.out.size))
    have HTw13m := Lib.hid (HTB.out.below HBw13m.out HTB.out.size)
    have Hepw13m := Lib.hid (Hepw12m.out.trans (hb.mono Hepw12m.out.size))
    clear hb Hepw12m HXw12m HPw12m HZw12m HBkw12m HQw12m HZ2w12m HOpw12m HLpw12m HOzw12m HLzw12m HOqw12m HLqw12m HOz2w12m HLz2w12m HBw12m HTw12m
    have HObcw13m := Lib.hid hkbc; have HLbcw13m : Hid (w13m.heap.size ≤ w13m.heap.size) := Lib.hid (Nat.le_refl _); clear hkbc
    go_wp2_with (first
        | (refine wpList_load_mid rfl 50 _ rfl w.heap.size 0 rfl PX _ HXw13m.out.range Tryd.underlying50 rfl HIX.out ?_)
        | (refine wpList_load_mid rfl 24 _ rfl w3.heap.size 0 rfl p.parts _ HPw13m.out.range Tryd.underlying24 rfl (patchInfo p) ?_)
        | (refine wpList_load_mid rfl 50 _ rfl w5m.heap.size 0 rfl z.parts _ HZw13m.out.range Tryd.underlying50 rfl (by rw [imgInfo, ImageD.parts_length]) ?_)
        | (refine wpList_load_mid rfl 50 _ rfl w7m.heap.size 0 rfl PB _ HBkw13m.out.range Tryd.underlying50 rfl HIB.out ?_)
        | (refine wpList_load_mid rfl 24 _ rfl w9m.heap.size 0 rfl q.parts _ HQw13m.out.range Tryd.underlying24 rfl (patchInfo q) ?_)
        | (refine wpList_load_mid rfl 50 _ rfl w11m.heap.size 0 rfl z2.parts _ HZ2w13m.out.range Tryd.underlying50 rfl (by rw [imgInfo, ImageD.parts_length]) ?_)
        | (refine wpList_new_store rfl 24 _ _ rfl bc.parts rfl rfl rfl (patchInfo bc) (PatchD.one bc) ?_))
    intro w14m hx hb
    have HN := Lib.hid hx; clear hx
    have HXw14m := Lib.hid (HXw13m.out.below hb HXw13m.out.lt)
    have HPw14m := Lib.hid (HPw13m.out.below hb HPw13m.out.lt)
    have HZw14m := Lib.hid (HZw13m.out.below hb HZw13m.out.lt)
    have HBkw14m := Lib.hid (HBkw13m.out.below hb HBkw13m.out.lt)
    have HQw14m := Lib.hid (HQw13m.out.below hb HQw13m.out.lt)
    have HZ2w14m := Lib.hid (HZ2w13m.out.below hb HZ2w13m.out.lt)
    have HOpw14m := Lib.hid (HOpw13m.out.below (hb.mono HLpw13m.out)); have HLpw14m := Lib.hid (Nat.le_trans HLpw13m.out hb.size)
    have HOzw14m := Lib.hid (HOzw13m.out.below (hb.mono HLzw13m.out)); have HLzw14m := Lib.hid (Nat.le_trans HLzw13m.out hb.size)
    have HOqw14m := Lib.hid (HOqw13m.out.below (hb.mono HLqw13m.out)); have HLqw14m := Lib.hid (Nat.le_trans HLqw13m.out hb.size)
    have HOz2w14m := Lib.hid (HOz2w13m.out.below (hb.mono HLz2w13m.out)); have HLz2w14m := Lib.hid (Nat.le_trans HLz2w13m.out hb.size)
    have HObcw14m := Lib.hid (HObcw13m.out.below (hb.mono HLbcw13m.out)); have HLbcw14m := Lib.hid (Nat.le_trans HLbcw13m.out hb.size)
    have HBw14m := Lib.hid (HBw13m.out.trans (hb.mono HBw13m.out.size))
    have HTw14m := Lib.hid (HTB.out.below HBw14m.out HTB.out.size)
    have Hepw14m := Lib.hid (Hepw13m.out.trans (hb.mono Hepw13m.out.size))
    clear hb Hepw13m HXw13m HPw13m HZw13m HBkw13m HQw13m HZ2w13m HOpw13m HLpw13m HOzw13m HLzw13m HOqw13m HLqw13m HOz2w13m HLz2w13m HObcw13m HLbcw13m HBw13m HTw13m
    have HRw14m := HN; clear HN
    have HJS := Lib.hid (join_self (sumI_length (wImage x)) (sumI_length (wImage yb)) HEq.out HEbc.out H6.out HY6.out)
    have HJQ : Hid (joinR q.pd bc.pd = (⟨sumImg x, sumImg x, makeA (R.map (subA Q))⟩, 0)) := Lib.hid (by rw [HDq.out, HDbc.out]; exact HJS.out.1)
    go_wp2_with (first
        | (refine wpList_load_mid rfl 50 _ rfl w.heap.size 0 rfl PX _ HXw14m.out.range Tryd.underlying50 rfl HIX.out ?_)
        | (refine wpList_load_mid rfl 24 _ rfl w3.heap.size 0 rfl p.parts _ HPw14m.out.range Tryd.underlying24 rfl (patchInfo p) ?_)
        | (refine wpList_load_mid rfl 50 _ rfl w5m.heap.size 0 rfl z.parts _ HZw14m.out.range Tryd.underlying50 rfl (by rw [imgInfo, ImageD.parts_length]) ?_)
        | (refine wpList_load_mid rfl 50 _ rfl w7m.heap.size 0 rfl PB _ HBkw14m.out.range Tryd.underlying50 rfl HIB.out ?_)
        | (refine wpList_load_mid rfl 24 _ rfl w9m.heap.size 0 rfl q.parts _ HQw14m.out.range Tryd.underlying24 rfl (patchInfo q) ?_)
        | (refine wpList_load_mid rfl 50 _ rfl w11m.heap.size 0 rfl z2.parts _ HZ2w14m.out.range Tryd.underlying50 rfl (by rw [imgInfo, ImageD.parts_length]) ?_)
        | (refine wpList_load_mid rfl 24 _ rfl w13m.heap.size 0 rfl bc.parts _ HRw14m.out.range Tryd.underlying24 rfl (patchInfo bc) ?_)
        | fail)
    have HC := Lib.hid (Join_E2 q bc _ 0 HJQ.out w14m (HOqw14m.out.more HLqw14m.out) (HObcw14m.out.more HLbcw14m.out))
    refine (HC.out).mono ?_
    rintro r w15m ⟨v, rfl, hv, hkv, hb⟩
    clear HC
    have HDv := Lib.hid hv; clear hv
    have HXw15m := Lib.hid (HXw14m.out.below hb HXw14m.out.lt)
    have HPw15m := Lib.hid (HPw14m.out.below hb HPw14m.out.lt)
    have HZw15m := Lib.hid (HZw14m.out.below hb HZw14m.out.lt)
    have HBkw15m := Lib.hid (HBkw14m.out.below hb HBkw14m.out.lt)
    have HQw15m := Lib.hid (HQw14m.out.below hb HQw14m.out.lt)
    have HZ2w15m := Lib.hid (HZ2w14m.out.below hb HZ2w14m.out.lt)
    have HRw15m := Lib.hid (HRw14m.out.below hb HRw14m.out.lt)
    have HOpw15m := Lib.hid (HOpw14m.out.below (hb.mono HLpw14m.out)); have HLpw15m := Lib.hid (Nat.le_trans HLpw14m.out hb.size)
    have HOzw15m := Lib.hid (HOzw14m.out.below (hb.mono HLzw14m.out)); have HLzw15m := Lib.hid (Nat.le_trans HLzw14m.out hb.size)
    have HOqw15m := Lib.hid (HOqw14m.out.below (hb.mono HLqw14m.out)); have HLqw15m := Lib.hid (Nat.le_trans HLqw14m.out hb.size)
    have HOz2w15m := Lib.hid (HOz2w14m.out.below (hb.mono HLz2w14m.out)); have HLz2w15m := Lib.hid (Nat.le_trans HLz2w14m.out hb.size)
    have HObcw15m := Lib.hid (HObcw14m.out.below (hb.mono HLbcw14m.out)); have HLbcw15m := Lib.hid (Nat.le_trans HLbcw14m.out hb.size)
    have HBw15m := Lib.hid (HBw14m.out.trans (hb.mono HBw14m.out.size))
    have HTw15m := Lib.hid (HTB.out.below HBw15m.out HTB.out.size)
    have Hepw15m := Lib.hid (Hepw14m.out.trans (hb.mono Hepw14m.out.size))
    clear hb Hepw14m HXw14m HPw14m HZw14m HBkw14m HQw14m HZ2w14m HRw14m HOpw14m HLpw14m HOzw14m HLzw14m HOqw14m HLqw14m HOz2w14m HLz2w14m HObcw14m HLbcw14m HBw14m HTw14m
    have HOvw15m := Lib.hid hkv; have HLvw15m : Hid (w15m.heap.size ≤ w15m.heap.size) := Lib.hid (Nat.le_refl _); clear hkv
    go_wp2_with (first
        | (refine wpList_load_mid rfl 50 _ rfl w.heap.size 0 rfl PX _ HXw15m.out.range Tryd.underlying50 rfl HIX.out ?_)
        | (refine wpList_load_mid rfl 24 _ rfl w3.heap.size 0 rfl p.parts _ HPw15m.out.range Tryd.underlying24 rfl (patchInfo p) ?_)
        | (refine wpList_load_mid rfl 50 _ rfl w5m.heap.size 0 rfl z.parts _ HZw15m.out.range Tryd.underlying50 rfl (by rw [imgInfo, ImageD.parts_length]) ?_)
        | (refine wpList_load_mid rfl 50 _ rfl w7m.heap.size 0 rfl PB _ HBkw15m.out.range Tryd.underlying50 rfl HIB.out ?_)
        | (refine wpList_load_mid rfl 24 _ rfl w9m.heap.size 0 rfl q.parts _ HQw15m.out.range Tryd.underlying24 rfl (patchInfo q) ?_)
        | (refine wpList_load_mid rfl 50 _ rfl w11m.heap.size 0 rfl z2.parts _ HZ2w15m.out.range Tryd.underlying50 rfl (by rw [imgInfo, ImageD.parts_length]) ?_)
        | (refine wpList_load_mid rfl 24 _ rfl w13m.heap.size 0 rfl bc.parts _ HRw15m.out.range Tryd.underlying24 rfl (patchInfo bc) ?_)
        | (refine wpList_new_store rfl 24 _ _ rfl v.parts rfl rfl rfl (patchInfo v) (PatchD.one v) ?_))
    intro w16m hx hb
    have HN := Lib.hid hx; clear hx
    have HXw16m := Lib.hid (HXw15m.out.below hb HXw15m.out.lt)
    have HPw16m := Lib.hid (HPw15m.out.below hb HPw15m.out.lt)
    have HZw16m := Lib.hid (HZw15m.out.below hb HZw15m.out.lt)
    have HBkw16m := Lib.hid (HBkw15m.out.below hb HBkw15m.out.lt)
    have HQw16m := Lib.hid (HQw15m.out.below hb HQw15m.out.lt)
    have HZ2w16m := Lib.hid (HZ2w15m.out.below hb HZ2w15m.out.lt)
    have HRw16m := Lib.hid (HRw15m.out.below hb HRw15m.out.lt)
    have HOpw16m := Lib.hid (HOpw15m.out.below (hb.mono HLpw15m.out)); have HLpw16m := Lib.hid (Nat.le_trans HLpw15m.out hb.size)
    have HOzw16m := Lib.hid (HOzw15m.out.below (hb.mono HLzw15m.out)); have HLzw16m := Lib.hid (Nat.le_trans HLzw15m.out hb.size)
    have HOqw16m := Lib.hid (HOqw15m.out.below (hb.mono HLqw15m.out)); have HLqw16m := Lib.hid (Nat.le_trans HLqw15m.out hb.size)
    have HOz2w16m := Lib.hid (HOz2w15m.out.below (hb.mono HLz2w15m.out)); have HLz2w16m := Lib.hid (Nat.le_trans HLz2w15m.out hb.size)
    have HObcw16m := Lib.hid (HObcw15m.out.below (hb.mono HLbcw15m.out)); have HLbcw16m := Lib.hid (Nat.le_trans HLbcw15m.out hb.size)
    have HOvw16m := Lib.hid (HOvw15m.out.below (hb.mono HLvw15m.out)); have HLvw16m := Lib.hid (Nat.le_trans HLvw15m.out hb.size)
    have HBw16m := Lib.hid (HBw15m.out.trans (hb.mono HBw15m.out.size))
    have HTw16m := Lib.hid (HTB.out.below HBw16m.out HTB.out.size)
    have Hepw16m := Lib.hid (Hepw15m.out.trans (hb.mono Hepw15m.out.size))
    clear hb Hepw15m HXw15m HPw15m HZw15m HBkw15m HQw15m HZ2w15m HRw15m HOpw15m HLpw15m HOzw15m HLzw15m HOqw15m HLqw15m HOz2w15m HLz2w15m HObcw15m HLbcw15m HOvw15m HLvw15m HBw15m HTw15m
    have HVw16m := HN; clear HN
    go_wp2_with (first
        | (refine wpList_load_mid rfl 50 _ rfl w.heap.size 0 rfl PX _ HXw16m.out.range Tryd.underlying50 rfl HIX.out ?_)
        | (refine wpList_load_mid rfl 24 _ rfl w3.heap.size 0 rfl p.parts _ HPw16m.out.range Tryd.underlying24 rfl (patchInfo p) ?_)
        | (refine wpList_load_mid rfl 50 _ rfl w5m.heap.size 0 rfl z.parts _ HZw16m.out.range Tryd.underlying50 rfl (by rw [imgInfo, ImageD.parts_length]) ?_)
        | (refine wpList_load_mid rfl 50 _ rfl w7m.heap.size 0 rfl PB _ HBkw16m.out.range Tryd.underlying50 rfl HIB.out ?_)
        | (refine wpList_load_mid rfl 24 _ rfl w9m.heap.size 0 rfl q.parts _ HQw16m.out.range Tryd.underlying24 rfl (patchInfo q) ?_)
        | (refine wpList_load_mid rfl 50 _ rfl w11m.heap.size 0 rfl z2.parts _ HZ2w16m.out.range Tryd.underlying50 rfl (by rw [imgInfo, ImageD.parts_length]) ?_)
        | (refine wpList_load_mid rfl 24 _ rfl w13m.heap.size 0 rfl bc.parts _ HRw16m.out.range Tryd.underlying24 rfl (patchInfo bc) ?_)
        | (refine wpList_load_mid rfl 24 _ rfl w15m.heap.size 0 rfl v.parts _ HVw16m.out.range Tryd.underlying24 rfl (patchInfo v) ?_)
        | fail)
    have HC := Lib.hid (Apply_E x x PX v (R.map (subA Q)) HPX.out HDv.out HJS.out.2.1 HJS.out.2.2 H6.out H6.out HXK.out HXI.out.lens w16m ((HXI.out.below HBw16m.out).more HBw16m.out.size) HXK.out (HOvw16m.out.more HLvw16m.out) HTw16m.out)
    refine (HC.out).mono ?_
    rintro r w17m ⟨z3, rfl, hz3, hiz3, hkz3, hb⟩
    clear HC
    have HDz3 := Lib.hid hz3; have HKz3 := Lib.hid hkz3; clear hz3 hkz3
    have HXw17m := Lib.hid (HXw16m.out.below hb HXw16m.out.lt)
    have HPw17m := Lib.hid (HPw16m.out.below hb HPw16m.out.lt)
    have HZw17m := Lib.hid (HZw16m.out.below hb HZw16m.out.lt)
    have HBkw17m := Lib.hid (HBkw16m.out.below hb HBkw16m.out.lt)
    have HQw17m := Lib.hid (HQw16m.out.below hb HQw16m.out.lt)
    have HZ2w17m := Lib.hid (HZ2w16m.out.below hb HZ2w16m.out.lt)
    have HRw17m := Lib.hid (HRw16m.out.below hb HRw16m.out.lt)
    have HVw17m := Lib.hid (HVw16m.out.below hb HVw16m.out.lt)
    have HOpw17m := Lib.hid (HOpw16m.out.below (hb.mono HLpw16m.out)); have HLpw17m := Lib.hid (Nat.le_trans HLpw16m.out hb.size)
    have HOzw17m := Lib.hid (HOzw16m.out.below (hb.mono HLzw16m.out)); have HLzw17m := Lib.hid (Nat.le_trans HLzw16m.out hb.size)
    have HOqw17m := Lib.hid (HOqw16m.out.below (hb.mono HLqw16m.out)); have HLqw17m := Lib.hid (Nat.le_trans HLqw16m.out hb.size)
    have HOz2w17m := Lib.hid (HOz2w16m.out.below (hb.mono HLz2w16m.out)); have HLz2w17m := Lib.hid (Nat.le_trans HLz2w16m.out hb.size)
    have HObcw17m := Lib.hid (HObcw16m.out.below (hb.mono HLbcw16m.out)); have HLbcw17m := Lib.hid (Nat.le_trans HLbcw16m.out hb.size)
    have HOvw17m := Lib.hid (HOvw16m.out.below (hb.mono HLvw16m.out)); have HLvw17m := Lib.hid (Nat.le_trans HLvw16m.out hb.size)
    have HBw17m := Lib.hid (HBw16m.out.trans (hb.mono HBw16m.out.size))
    have HTw17m := Lib.hid (HTB.out.below HBw17m.out HTB.out.size)
    have Hepw17m := Lib.hid (Hepw16m.out.trans (hb.mono Hepw16m.out.size))
    clear hb Hepw16m HXw16m HPw16m HZw16m HBkw16m HQw16m HZ2w16m HRw16m HVw16m HOpw16m HLpw16m HOzw16m HLzw16m HOqw16m HLqw16m HOz2w16m HLz2w16m HObcw16m HLbcw16m HOvw16m HLvw16m HBw16m HTw16m
    have HOz3w17m := Lib.hid hiz3; have HLz3w17m : Hid (w17m.heap.size ≤ w17m.heap.size) := Lib.hid (Nat.le_refl _); clear hiz3
    go_wp2_with (first
        | (refine wpList_load_mid rfl 50 _ rfl w.heap.size 0 rfl PX _ HXw17m.out.range Tryd.underlying50 rfl HIX.out ?_)
        | (refine wpList_load_mid rfl 24 _ rfl w3.heap.size 0 rfl p.parts _ HPw17m.out.range Tryd.underlying24 rfl (patchInfo p) ?_)
        | (refine wpList_load_mid rfl 50 _ rfl w5m.heap.size 0 rfl z.parts _ HZw17m.out.range Tryd.underlying50 rfl (by rw [imgInfo, ImageD.parts_length]) ?_)
        | (refine wpList_load_mid rfl 50 _ rfl w7m.heap.size 0 rfl PB _ HBkw17m.out.range Tryd.underlying50 rfl HIB.out ?_)
        | (refine wpList_load_mid rfl 24 _ rfl w9m.heap.size 0 rfl q.parts _ HQw17m.out.range Tryd.underlying24 rfl (patchInfo q) ?_)
        | (refine wpList_load_mid rfl 50 _ rfl w11m.heap.size 0 rfl z2.parts _ HZ2w17m.out.range Tryd.underlying50 rfl (by rw [imgInfo, ImageD.parts_length]) ?_)
        | (refine wpList_load_mid rfl 24 _ rfl w13m.heap.size 0 rfl bc.parts _ HRw17m.out.range Tryd.underlying24 rfl (patchInfo bc) ?_)
        | (refine wpList_load_mid rfl 24 _ rfl w15m.heap.size 0 rfl v.parts _ HVw17m.out.range Tryd.underlying24 rfl (patchInfo v) ?_)
        | (refine wpList_new_store rfl 50 _ _ rfl z3.parts rfl rfl rfl (by rw [imgInfo, ImageD.parts_length]) (ImageD.one z3) ?_))
    intro w18m hx hb
    have HN := Lib.hid hx; clear hx
    have HXw18m := Lib.hid (HXw17m.out.below hb HXw17m.out.lt)
    have HPw18m := Lib.hid (HPw17m.out.below hb HPw17m.out.lt)
    have HZw18m := Lib.hid (HZw17m.out.below hb HZw17m.out.lt)
    have HBkw18m := Lib.hid (HBkw17m.out.below hb HBkw17m.out.lt)
    have HQw18m := Lib.hid (HQw17m.out.below hb HQw17m.out.lt)
    have HZ2w18m := Lib.hid (HZ2w17m.out.below hb HZ2w17m.out.lt)
    have HRw18m := Lib.hid (HRw17m.out.below hb HRw17m.out.lt)
    have HVw18m := Lib.hid (HVw17m.out.below hb HVw17m.out.lt)
    have HOpw18m := Lib.hid (HOpw17m.out.below (hb.mono HLpw17m.out)); have HLpw18m := Lib.hid (Nat.le_trans HLpw17m.out hb.size)
    have HOzw18m := Lib.hid (HOzw17m.out.below (hb.mono HLzw17m.out)); have HLzw18m := Lib.hid (Nat.le_trans HLzw17m.out hb.size)
    have HOqw18m := Lib.hid (HOqw17m.out.below (hb.mono HLqw17m.out)); have HLqw18m := Lib.hid (Nat.le_trans HLqw17m.out hb.size)
    have HOz2w18m := Lib.hid (HOz2w17m.out.below (hb.mono HLz2w17m.out)); have HLz2w18m := Lib.hid (Nat.le_trans HLz2w17m.out hb.size)
    have HObcw18m := Lib.hid (HObcw17m.out.below (hb.mono HLbcw17m.out)); have HLbcw18m := Lib.hid (Nat.le_trans HLbcw17m.out hb.size)
    have HOvw18m := Lib.hid (HOvw17m.out.below (hb.mono HLvw17m.out)); have HLvw18m := Lib.hid (Nat.le_trans HLvw17m.out hb.size)
    have HOz3w18m := Lib.hid (HOz3w17m.out.below (hb.mono HLz3w17m.out)); have HLz3w18m := Lib.hid (Nat.le_trans HLz3w17m.out hb.size)
    have HBw18m := Lib.hid (HBw17m.out.trans (hb.mono HBw17m.out.size))
    have HTw18m := Lib.hid (HTB.out.below HBw18m.out HTB.out.size)
    have Hepw18m := Lib.hid (Hepw17m.out.trans (hb.mono Hepw17m.out.size))
    clear hb Hepw17m HXw17m HPw17m HZw17m HBkw17m HQw17m HZ2w17m HRw17m HVw17m HOpw17m HLpw17m HOzw17m HLzw17m HOqw17m HLqw17m HOz2w17m HLz2w17m HObcw17m HLbcw17m HOvw17m HLvw17m HOz3w17m HLz3w17m HBw17m HTw17m
    have HZ3w18m := HN; clear HN
    go_wp2_with (first
        | (refine wpList_load_midG (by kernel_rfl) 50 _ rfl w.heap.size 0 rfl PX _ HXw18m.out.range Tryd.underlying50 rfl HIX.out ?_)
        | (refine wpList_load_midG (by kernel_rfl) 24 _ rfl w3.heap.size 0 rfl p.parts _ HPw18m.out.range Tryd.underlying24 rfl (patchInfo p) ?_)
        | (refine wpList_load_midG (by kernel_rfl) 50 _ rfl w5m.heap.size 0 rfl z.parts _ HZw18m.out.range Tryd.underlying50 rfl (by rw [imgInfo, ImageD.parts_length]) ?_)
        | (refine wpList_load_midG (by kernel_rfl) 50 _ rfl w7m.heap.size 0 rfl PB _ HBkw18m.out.range Tryd.underlying50 rfl HIB.out ?_)
        | (refine wpList_load_midG (by kernel_rfl) 24 _ rfl w9m.heap.size 0 rfl q.parts _ HQw18m.out.range Tryd.underlying24 rfl (patchInfo q) ?_)
        | (refine wpList_load_midG (by kernel_rfl) 50 _ rfl w11m.heap.size 0 rfl z2.parts _ HZ2w18m.out.range Tryd.underlying50 rfl (by rw [imgInfo, ImageD.parts_length]) ?_)
        | (refine wpList_load_midG (by kernel_rfl) 24 _ rfl w13m.heap.size 0 rfl bc.parts _ HRw18m.out.range Tryd.underlying24 rfl (patchInfo bc) ?_)
        | (refine wpList_load_midG (by kernel_rfl) 24 _ rfl w15m.heap.size 0 rfl v.parts _ HVw18m.out.range Tryd.underlying24 rfl (patchInfo v) ?_)
        | (refine wpList_load_midG (by kernel_rfl) 50 _ rfl w17m.heap.size 0 rfl z3.parts _ HZ3w18m.out.range Tryd.underlying50 rfl (by rw [imgInfo, ImageD.parts_length]) ?_)
        | fail)
    have HC := Lib.hid (Same_EI z2 yb z2.parts PB rfl HPB.out HDz2.out HY6.out w18m (HOz2w18m.out.more HLz2w18m.out) HKz2.out ((HYI.out.below HBw18m.out).more HBw18m.out.size) HYK.out)
    refine (HC.out).mono ?_
    rintro r w19m ⟨rfl, hb⟩
    clear HC
    have HXw19m := Lib.hid (HXw18m.out.below hb HXw18m.out.lt)
    have HPw19m := Lib.hid (HPw18m.out.below hb HPw18m.out.lt)
    have HZw19m := Lib.hid (HZw18m.out.below hb HZw18m.out.lt)
    have HBkw19m := Lib.hid (HBkw18m.out.below hb HBkw18m.out.lt)
    have HQw19m := Lib.hid (HQw18m.out.below hb HQw18m.out.lt)
    have HZ2w19m := Lib.hid (HZ2w18m.out.below hb HZ2w18m.out.lt)
    have HRw19m := Lib.hid (HRw18m.out.below hb HRw18m.out.lt)
    have HVw19m := Lib.hid (HVw18m.out.below hb HVw18m.out.lt)
    have HZ3w19m := Lib.hid (HZ3w18m.out.below hb HZ3w18m.out.lt)
    have HOpw19m := Lib.hid (HOpw18m.out.below (hb.mono HLpw18m.out)); have HLpw19m := Lib.hid (Nat.le_trans HLpw18m.out hb.size)
    have HOzw19m := Lib.hid (HOzw18m.out.below (hb.mono HLzw18m.out)); have HLzw19m := Lib.hid (Nat.le_trans HLzw18m.out hb.size)
    have HOqw19m := Lib.hid (HOqw18m.out.below (hb.mono HLqw18m.out)); have HLqw19m := Lib.hid (Nat.le_trans HLqw18m.out hb.size)
    have HOz2w19m := Lib.hid (HOz2w18m.out.below (hb.mono HLz2w18m.out)); have HLz2w19m := Lib.hid (Nat.le_trans HLz2w18m.out hb.size)
    have HObcw19m := Lib.hid (HObcw18m.out.below (hb.mono HLbcw18m.out)); have HLbcw19m := Lib.hid (Nat.le_trans HLbcw18m.out hb.size)
    have HOvw19m := Lib.hid (HOvw18m.out.below (hb.mono HLvw18m.out)); have HLvw19m := Lib.hid (Nat.le_trans HLvw18m.out hb.size)
    have HOz3w19m := Lib.hid (HOz3w18m.out.below (hb.mono HLz3w18m.out)); have HLz3w19m := Lib.hid (Nat.le_trans HLz3w18m.out hb.size)
    have HBw19m := Lib.hid (HBw18m.out.trans (hb.mono HBw18m.out.size))
    have HTw19m := Lib.hid (HTB.out.below HBw19m.out HTB.out.size)
    have Hepw19m := Lib.hid (Hepw18m.out.trans (hb.mono Hepw18m.out.size))
    clear hb Hepw18m HXw18m HPw18m HZw18m HBkw18m HQw18m HZ2w18m HRw18m HVw18m HZ3w18m HOpw18m HLpw18m HOzw18m HLzw18m HOqw18m HLqw18m HOz2w18m HLz2w18m HObcw18m HLbcw18m HOvw18m HLvw18m HOz3w18m HLz3w18m HBw18m HTw18m
    go_wp2_with (first
        | (refine wpList_load_midG (by kernel_rfl) 50 _ rfl w.heap.size 0 rfl PX _ HXw19m.out.range Tryd.underlying50 rfl HIX.out ?_)
        | (refine wpList_load_midG (by kernel_rfl) 24 _ rfl w3.heap.size 0 rfl p.parts _ HPw19m.out.range Tryd.underlying24 rfl (patchInfo p) ?_)
        | (refine wpList_load_midG (by kernel_rfl) 50 _ rfl w5m.heap.size 0 rfl z.parts _ HZw19m.out.range Tryd.underlying50 rfl (by rw [imgInfo, ImageD.parts_length]) ?_)
        | (refine wpList_load_midG (by kernel_rfl) 50 _ rfl w7m.heap.size 0 rfl PB _ HBkw19m.out.range Tryd.underlying50 rfl HIB.out ?_)
        | (refine wpList_load_midG (by kernel_rfl) 24 _ rfl w9m.heap.size 0 rfl q.parts _ HQw19m.out.range Tryd.underlying24 rfl (patchInfo q) ?_)
        | (refine wpList_load_midG (by kernel_rfl) 50 _ rfl w11m.heap.size 0 rfl z2.parts _ HZ2w19m.out.range Tryd.underlying50 rfl (by rw [imgInfo, ImageD.parts_length]) ?_)
        | (refine wpList_load_midG (by kernel_rfl) 24 _ rfl w13m.heap.size 0 rfl bc.parts _ HRw19m.out.range Tryd.underlying24 rfl (patchInfo bc) ?_)
        | (refine wpList_load_midG (by kernel_rfl) 24 _ rfl w15m.heap.size 0 rfl v.parts _ HVw19m.out.range Tryd.underlying24 rfl (patchInfo v) ?_)
        | (refine wpList_load_midG (by kernel_rfl) 50 _ rfl w17m.heap.size 0 rfl z3.parts _ HZ3w19m.out.range Tryd.underlying50 rfl (by rw [imgInfo, ImageD.parts_length]) ?_)
        | fail)
    have HC := Lib.hid (Same_EI z3 x z3.parts PX rfl HPX.out HDz3.out H6.out w19m (HOz3w19m.out.more HLz3w19m.out) HKz3.out ((HXI.out.below HBw19m.out).more HBw19m.out.size) HXK.out)
    refine (HC.out).mono ?_
    rintro r w20m ⟨rfl, hb⟩
    clear HC
    have HXw20m := Lib.hid (HXw19m.out.below hb HXw19m.out.lt)
    have HPw20m := Lib.hid (HPw19m.out.below hb HPw19m.out.lt)
    have HZw20m := Lib.hid (HZw19m.out.below hb HZw19m.out.lt)
    have HBkw20m := Lib.hid (HBkw19m.out.below hb HBkw19m.out.lt)
    have HQw20m := Lib.hid (HQw19m.out.below hb HQw19m.out.lt)
    have HZ2w20m := Lib.hid (HZ2w19m.out.below hb HZ2w19m.out.lt)
    have HRw20m := Lib.hid (HRw19m.out.below hb HRw19m.out.lt)
    have HVw20m := Lib.hid (HVw19m.out.below hb HVw19m.out.lt)
    have HZ3w20m := Lib.hid (HZ3w19m.out.below hb HZ3w19m.out.lt)
    have HOpw20m := Lib.hid (HOpw19m.out.below (hb.mono HLpw19m.out)); have HLpw20m := Lib.hid (Nat.le_trans HLpw19m.out hb.size)
    have HOzw20m := Lib.hid (HOzw19m.out.below (hb.mono HLzw19m.out)); have HLzw20m := Lib.hid (Nat.le_trans HLzw19m.out hb.size)
    have HOqw20m := Lib.hid (HOqw19m.out.below (hb.mono HLqw19m.out)); have HLqw20m := Lib.hid (Nat.le_trans HLqw19m.out hb.size)
    have HOz2w20m := Lib.hid (HOz2w19m.out.below (hb.mono HLz2w19m.out)); have HLz2w20m := Lib.hid (Nat.le_trans HLz2w19m.out hb.size)
    have HObcw20m := Lib.hid (HObcw19m.out.below (hb.mono HLbcw19m.out)); have HLbcw20m := Lib.hid (Nat.le_trans HLbcw19m.out hb.size)
    have HOvw20m := Lib.hid (HOvw19m.out.below (hb.mono HLvw19m.out)); have HLvw20m := Lib.hid (Nat.le_trans HLvw19m.out hb.size)
    have HOz3w20m := Lib.hid (HOz3w19m.out.below (hb.mono HLz3w19m.out)); have HLz3w20m := Lib.hid (Nat.le_trans HLz3w19m.out hb.size)
    have HBw20m := Lib.hid (HBw19m.out.trans (hb.mono HBw19m.out.size))
    have HTw20m := Lib.hid (HTB.out.below HBw20m.out HTB.out.size)
    have Hepw20m := Lib.hid (Hepw19m.out.trans (hb.mono Hepw19m.out.size))
    clear hb Hepw19m HXw19m HPw19m HZw19m HBkw19m HQw19m HZ2w19m HRw19m HVw19m HZ3w19m HOpw19m HLpw19m HOzw19m HLzw19m HOqw19m HLqw19m HOz2w19m HLz2w19m HObcw19m HLbcw19m HOvw19m HLvw19m HOz3w19m HLz3w19m HBw19m HTw19m
    go_wp2
    go_ret
    exact ⟨rfl, HBw20m.out⟩

theorem bulk_of {H : Type} {d : DataW H} {l : List (DataW H)} (hk : Rows.uptoSmall H (d :: l) = true) : Rows.uptoBulk d ≤ 1048576 := by
  have h := of_decide_eq_true hk
  rw [bulk_cons] at h
  omega
theorem walkV (v0 : Value) (n : Int) (w : World) {B : Nat} (hp : ∃ u : ImageD, v0 = .agg u.parts.toArray ∧ u.In w w.heap.size ∧ u.Ok ∧ (wImage u).length ≤ 11 * B) (_wf : (Lit.int .i64 n).wf = true) (ht : Tabs w) (hB : B ≤ 1048576) :
    Calls Tryd.prog 4 #[v0, .int .i64 n] w fun r w' => r = .returned (.bool true) ∧ Below w.heap.size w w' := by
  obtain ⟨x, rfl, hin, hok, hl⟩ := hp
  cases hf : fewB x with
  | false => exact self_big x x.parts rfl n w hin hok (by omega) ht hf
  | true => exact self_few x x.parts rfl n w hin hok (by omega) ht hf

theorem own : ownKnob Tryd.prog.godebug = none := by kernel_rfl
theorem laidOut : laidOutB Tryd.prog = true := by kernel_rfl

set_option maxRecDepth 100000 in
/-- What the walk gives, for every argument and every world that holds the tables. -/
theorem contract (H : Type) (enc : TypeId × Value → H) (W : World) (base : Nat) (args : Array Value) (ds gs : List (DataW H)) (before : List MemPlace)
    (hval : ∀ (j : Nat) t v, Tryd.f4.params[j]? = some t → args[j]? = some v → Value.okWide Tryd.prog W .any base t v)
    (hW : DataW.Whole enc Tryd.prog Tryd.f4.params.toList Rows.patchSelfSpec.vars false W args.toList ds gs before) (hL : laidMetH Tryd.prog Rows.patchReadsRow.laid W) (hk : Rows.uptoSmall H (ds ++ gs) = true) :
    Calls Tryd.prog 4 args W fun e W' => ∃ v, e = .returned v ∧ Rows.patchSelfSpec.post enc Tryd.prog Tryd.f4 false true false false W args v W' := by
  have hW' := hW
  obtain ⟨p, q, hA0, hV, rfl, hfz, hnd⟩ := hW
  have hA : DataW.TrodAll enc Tryd.prog W 0 (fun _ => true) true Tryd.f4.params.toList args.toList ds p := hA0
  rw [Tryd.params4] at hA hval
  obtain ⟨v0, vs0, d0, ds0, p0, q0, hargs, rfl, rfl, h0, r0⟩ := trodAll_cons hA
  obtain ⟨v1, vs1, d1, ds1, p1, q1, rfl, rfl, rfl, h1, r1⟩ := trodAll_cons r0
  obtain ⟨rfl, rfl, rfl⟩ := trodAll_nil r1
  obtain rfl : args = #[v0, v1] := by cases args; simp_all
  obtain ⟨rfl, rfl⟩ := trodVars_none hV
  have k0 := h0
  have lt0 : ∀ x ∈ p0, x.block < W.heap.size := by obtain ⟨m, hm⟩ := k0; exact DataW.trod_lt m _ _ _ hm
  have o0 := openImage (hval 0 50 v0 rfl rfl) h0
  obtain ⟨a1, rfl, rfl, rfl, wf1⟩ := open_int Tryd.underlying3 (hval 1 3 v1 rfl rfl) h1
  clear hA0
  refine (walkV v0 a1 W o0 wf1 (tables hL) (bulk_of hk)).mono fun e W' ⟨he, bel⟩ => ?_
  subst he
  exact ⟨_, rfl, _, _, _, [], _, [], hW', trodAll_mk1 (shut_bool Tryd.underlying4 _), (trodAll_cons_mk (Below.trod laidOut (by kernel_rfl) (of_decide_eq_true (by kernel_rfl)) k0 bel lt0) (trodAll_cons_mk (shut_int Tryd.underlying3 wf1) trodAll_mk0)), rfl, bel.frame _, fun h => by cases h⟩

/-- A world for the witness: the settled one, the tables holding what their initialisers lay. -/
def layCons : Obj → Obj
  | .cells _ t frozen => .cells (constsL.map (Value.int .u64)).toArray t frozen
  | o => o
def layTurns : Obj → Obj
  | .cells _ t frozen => .cells (turnsL.map (fun (n : Nat) => Value.int .i64 n)).toArray t frozen
  | o => o
noncomputable def laidWorld (os : Os) : World :=
  { World.holding Tryd.prog os ⟨#[], #[], []⟩ with heap := ((World.holding Tryd.prog os ⟨#[], #[], []⟩).heap.modify 0 layCons).modify 1 layTurns }
theorem laid_met (os : Os) : laidMet Tryd.prog Rows.patchSelfUptoRow.laid ((laidWorld os).forCall (fun _ _ => 0) ⟨#[], #[.agg #[.string ByteArray.empty, .bool false, .int .i64 0, .int .i64 0, .int .i64 0, .string ByteArray.empty, .string ByteArray.empty, .int .i64 0, .slice none 0 0, .slice none 0 0, .slice none 0 0, .slice none 0 0, .slice none 0 0, .slice none 0 0, .slice none 0 0, .slice none 0 0, .int .i64 0, .slice none 0 0, .slice none 0 0, .slice none 0 0, .slice none 0 0, .slice none 0 0, .slice none 0 0, .slice none 0 0, .slice none 0 0, .slice none 0 0], .int .i64 0], []⟩).memory :=
  laidMet_of_run' 8 (by kernel_rfl) (by kernel_rfl)
theorem reads (os : Os) {H : Type} (enc : TypeId × Value → H) : ∃ places, DataW.whole enc Tryd.prog ((laidWorld os).forCall (fun _ _ => 0) ⟨#[], #[.agg #[.string ByteArray.empty, .bool false, .int .i64 0, .int .i64 0, .int .i64 0, .string ByteArray.empty, .string ByteArray.empty, .int .i64 0, .slice none 0 0, .slice none 0 0, .slice none 0 0, .slice none 0 0, .slice none 0 0, .slice none 0 0, .slice none 0 0, .slice none 0 0, .int .i64 0, .slice none 0 0, .slice none 0 0, .slice none 0 0, .slice none 0 0, .slice none 0 0, .slice none 0 0, .slice none 0 0, .slice none 0 0, .slice none 0 0], .int .i64 0], []⟩).memory Tryd.f4.params.toList Rows.patchSelfSpec.vars false (#[.agg #[.string ByteArray.empty, .bool false, .int .i64 0, .int .i64 0, .int .i64 0, .string ByteArray.empty, .string ByteArray.empty, .int .i64 0, .slice none 0 0, .slice none 0 0, .slice none 0 0, .slice none 0 0, .slice none 0 0, .slice none 0 0, .slice none 0 0, .slice none 0 0, .int .i64 0, .slice none 0 0, .slice none 0 0, .slice none 0 0, .slice none 0 0, .slice none 0 0, .slice none 0 0, .slice none 0 0, .slice none 0 0, .slice none 0 0], .int .i64 0] : Array Value).toList 8 = some ([.agg [.lit (.string []), .lit (.bool false), .lit (.int .i64 0), .lit (.int .i64 0), .lit (.int .i64 0), .lit (.string []), .lit (.string []), .lit (.int .i64 0), .nil, .nil, .nil, .nil, .nil, .nil, .nil, .nil, .lit (.int .i64 0), .nil, .nil, .agg [.nil, .nil, .nil, .nil, .nil, .nil], .nil], .lit (.int .i64 0)], [], places) :=
  ⟨[], by kernel_rfl⟩

set_option maxRecDepth 100000 in
theorem lifted (os : Os) (started : os.Started) (H : Type) (enc : TypeId × Value → H) (F : Stop.Interp) :
    ReturnsInHanded {} Tryd.checked os 4 .any ((Rows.OpenSpec.upto Rows.patchSelfSpec).preRow enc Tryd.prog Tryd.f4 Rows.patchSelfUptoRow.domain false Rows.patchSelfUptoRow.laid) (((Rows.OpenSpec.upto Rows.patchSelfSpec).at F).post enc Tryd.prog Tryd.f4 false true false false) := by
  obtain ⟨places, hx⟩ := reads os enc
  refine returnsInHanded_of_row (C := Tryd.checked) (s := Rows.OpenSpec.upto Rows.patchSelfSpec) own started (by kernel_rfl) Tryd.func4
    (witness_row_at (enc := enc) (C := Tryd.checked) false (laidWorld os) #[.agg #[.string ByteArray.empty, .bool false, .int .i64 0, .int .i64 0, .int .i64 0, .string ByteArray.empty, .string ByteArray.empty, .int .i64 0, .slice none 0 0, .slice none 0 0, .slice none 0 0, .slice none 0 0, .slice none 0 0, .slice none 0 0, .slice none 0 0, .slice none 0 0, .int .i64 0, .slice none 0 0, .slice none 0 0, .slice none 0 0, .slice none 0 0, .slice none 0 0, .slice none 0 0, .slice none 0 0, .slice none 0 0, .slice none 0 0], .int .i64 0] rfl (by kernel_rfl) (by kernel_rfl) (by kernel_rfl)
      (OpenSpec.preRow_of_cond 8 hx (by kernel_rfl) (fun k hk => by cases hk; kernel_rfl) (by kernel_rfl) (laid_met os))) ?_
  intro W base args ds gs before hval hW c1 c2 c3 hL c4 c5
  exact contract H enc W base args ds gs before hval hW hL (c2 _ rfl)

set_option maxRecDepth 100000 in
theorem said : Rows.PatchSelfUptoSaid :=
  OpenClaim.holds_of_cond 4 Tryd.f4 rfl rfl rfl rfl rfl rfl rfl ⟨rfl, rfl, rfl, rfl, rfl⟩ rfl rfl rfl rfl rfl (by kernel_rfl) Tryd.func4 (by kernel_rfl)
    (of_decide_eq_true (by kernel_rfl)) (by unfold Func.isWrapper; first | (rw [if_pos (by decide +kernel)]; kernel_rfl) | (rw [if_neg (by decide +kernel)]; exact ⟨rfl, rfl⟩))
    (fun os started H enc _ F => by rw [OpenClaim.pre_eq_preRow]; exact lifted os started H enc F)

set_option maxRecDepth 100000 in
theorem plain (f : FuncId) (fn : Func) (hf : Tryd.pinned.checked.prog.funcNamed "linchpin/linchpinlaw27.PatchSelf" = some f) (hfn : Tryd.pinned.checked.prog.funcs[f]? = some fn) :
    false = Tryd.pinned.checked.prog.looks [] ∧ ∀ (j : Nat) t, fn.params[j]? = some t → Tryd.pinned.checked.prog.wantsStandIn t = false := by
  obtain rfl : f = 4 := Option.some.inj ((show Tryd.prog.funcNamed "linchpin/linchpinlaw27.PatchSelf" = some 4 by kernel_rfl).symm.trans hf) |>.symm
  obtain rfl : fn = Tryd.f4 := (Option.some.inj (Tryd.func4.symm.trans hfn)).symm
  refine ⟨by kernel_rfl, fun j t ht => ?_⟩
  rw [Tryd.params4] at ht
  have hm := Array.mem_of_getElem? ht
  simp only [List.mem_toArray, List.mem_cons, List.not_mem_nil, or_false] at hm
  rcases hm with rfl | rfl
  all_goals first
    | exact (show Tryd.prog.wantsStandIn 3 = false by kernel_rfl)
    | exact (show Tryd.prog.wantsStandIn 50 = false by kernel_rfl)

/-- The tied card. -/
theorem card : Rows.PatchSelfUptoCardSaid :=
  Claim7.holds_tied_plain_at .later [] _ _ _ _ said (fun _ h => by cases h) (by kernel_rfl) (fun _ h => by cases h) patchSelfUpto_row_tie rfl ⟨rfl, rfl⟩ (by kernel_rfl) rfl plain (by kernel_rfl)
#print axioms card

end patchSelf
end Go.Proofs.YtefgajipakjpeaaDoor
