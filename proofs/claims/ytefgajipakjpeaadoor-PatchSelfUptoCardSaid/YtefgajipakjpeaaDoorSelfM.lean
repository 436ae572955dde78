/-
  The contracts that PatchSelf calls: Diff over edits in general, Apply, Same and Join at images of at most 6000 bytes, few. Conditions: those in each theorem's own statement.
-/
import Derived.Test.YtefgajipakjpeaaDoorEditsM
import Derived.Test.YtefgajipakjpeaaDoorSmall
namespace Go.Proofs.YtefgajipakjpeaaDoor
open Go.RowKit

set_option maxHeartbeats 8000000 in
set_option maxRecDepth 100000 in
theorem Diff_gen (x y : ImageD) (PX PY : List Value) (G : List Atom → Prop) (hPX : PX = x.parts) (hPY : PY = y.parts) (bb : Nat) (w : World) (hin : x.In w bb) (hok : x.Ok) (hin' : y.In w bb) (hok' : y.Ok) (hbb : bb ≤ w.heap.size) (ht : Tabs w)
    (hlen : (wImage x).length ≤ 70368744177664) (hlen' : (wImage y).length ≤ 70368744177664) (hed : ∀ w' : World, Calls Tryd.prog 34 #[str (wImage x), str (wImage y)] w' (fun r w2 => ∃ A, G A ∧ EditsPost (makeA A) w' r w2)) (hgo : ∀ A, G A → (∀ e ∈ makeA A, e.Ok) ∧ (makeA A).length ≤ 1000000) :
    Calls Tryd.prog 13 #[.agg PX.toArray, .agg PY.toArray] w (fun r w' => ∃ A, G A ∧ PatchPost (fitR ⟨sumImg x, sumImg y, makeA A⟩) w r w') := by
  have hb0 : Below w.heap.size w (((w.alloc (.cells PX.toArray 50)).alloc (.cells PY.toArray 50)).alloc (.cells #[.string ⟨#[]⟩, .string ⟨#[]⟩, .slice none 0 0] 24)) := (((Below.refl _ _).alloc (Nat.le_refl _) _).alloc (by simp) _).alloc (by simp; omega) _
  have HDX := Lib.hid (fun (w' : World) (hb : Below w.heap.size w w') => ImgId_any x PX hPX bb w' (hin.below (hb.mono hbb)) hok (Nat.le_trans hbb hb.size) hlen (ht.below hb ht.size))
  have HDY := Lib.hid (fun (w' : World) (hb : Below w.heap.size w w') => ImgId_any y PY hPY bb w' (hin'.below (hb.mono hbb)) hok' (Nat.le_trans hbb hb.size) hlen' (ht.below hb ht.size))
  have HBX := Lib.hid (fun (w' : World) (hb : Below w.heap.size w w') => ImgBytes_any x PX hPX bb w' (hin.below (hb.mono hbb)) hok (Nat.le_trans hbb hb.size) hlen)
  have HBY := Lib.hid (fun (w' : World) (hb : Below w.heap.size w w') => ImgBytes_any y PY hPY bb w' (hin'.below (hb.mono hbb)) hok' (Nat.le_trans hbb hb.size) hlen')
  have HED := Lib.hid hed
  have HX0 : Hid (Blk (((w.alloc (.cells PX.toArray 50)).alloc (.cells PY.toArray 50)).alloc (.cells #[.string ⟨#[]⟩, .string ⟨#[]⟩, .slice none 0 0] 24)) w.heap.size 50 PX.toArray) := ((Blk.new w 50 _).alloc _).alloc _
  have HY0 : Hid (Blk (((w.alloc (.cells PX.toArray 50)).alloc (.cells PY.toArray 50)).alloc (.cells #[.string ⟨#[]⟩, .string ⟨#[]⟩, .slice none 0 0] 24)) (w.heap.size + 1) 50 PY.toArray) := (Blk.newAt (by simp)).alloc _
  have HR0 : Hid (Blk (((w.alloc (.cells PX.toArray 50)).alloc (.cells PY.toArray 50)).alloc (.cells #[.string ⟨#[]⟩, .string ⟨#[]⟩, .slice none 0 0] 24)) (w.heap.size + 2) 24 #[.string ⟨#[]⟩, .string ⟨#[]⟩, .slice none 0 0]) := Blk.newAt (by simp)
  have HIX : Hid ((Tryd.prog.info? 50).map (·.size) = some PX.length) := Lib.hid (by rw [imgInfo, hPX]; rfl)
  have HIY : Hid ((Tryd.prog.info? 50).map (·.size) = some PY.length) := Lib.hid (by rw [imgInfo, hPY]; rfl)
  have HIP : Hid ((Tryd.prog.info? 24).map (·.size) = some 3) := Lib.hid (by kernel_rfl)
  have HB0 := Lib.hid hb0
  have hsx : (sumImg x).length = 32 := sumI_length _
  have hsy : (sumImg y).length = 32 := sumI_length _
  have HGO := Lib.hid hgo
  unfold str at HBX HBY HDX HDY HED
  generalize wImage x = RX at HBX HED
  generalize wImage y = RY at HBY HED
  generalize sumImg x = SX at HDX hsx ⊢
  generalize sumImg y = SY at HDY hsy ⊢
  clear hb0 hPX hPY hlen hlen' hin hok hin' hok' hed hgo ht
  unfold PatchPost
  go_enter Tryd.func13, Tryd.ntmps13
  go_wp2_with fail
  generalize (((w.alloc (.cells PX.toArray 50)).alloc (.cells PY.toArray 50)).alloc (.cells #[.string ⟨#[]⟩, .string ⟨#[]⟩, .slice none 0 0] 24)) = w0 at HX0 HY0 HR0 HB0 ⊢
  have HX1 : Hid (Blk w0.drew w.heap.size 50 PX.toArray) := HX0.out
  have HY1 : Hid (Blk w0.drew (w.heap.size + 1) 50 PY.toArray) := HY0.out
  have HR1 : Hid (Blk w0.drew (w.heap.size + 2) 24 #[.string ⟨#[]⟩, .string ⟨#[]⟩, .slice none 0 0]) := HR0.out
  have HB1 : Hid (Below w.heap.size w w0.drew) := HB0.out.drew
  refine wp_region_held_drew (S := (fun w' => w'.rangeAt w.heap.size 0 PX ∧ w'.rangeAt (w.heap.size + 1) 0 PY)) (by kernel_rfl) ⟨HX1.out.range, HY1.out.range⟩ (fun hHeld => ?_)
  refine wpAnyH_take (i := 0) (v := .agg (PX).toArray) rfl (by kernel_rfl) (by kernel_rfl) (by kernel_rfl) (fun _ _ _ h => h) (yieldsIf_load_mid (by rfl) 50 _ rfl w.heap.size 0 rfl PX _ (fun w h => h.1) Tryd.underlying50 rfl HIX.out) (by assumption) ?_
  (try simp only [List.getElem_toArray, List.getElem_cons_succ, List.getElem_cons_zero, Act.put, List.setIfInBounds_toArray, List.set_cons_zero, List.set_cons_succ])
  refine wpAnyH_take (i := 2) (v := .agg (PY).toArray) rfl (by kernel_rfl) (by kernel_rfl) (by kernel_rfl) (fun _ _ _ h => h) (yieldsIf_load_mid (by rfl) 50 _ rfl (w.heap.size + 1) 0 rfl PY _ (fun w h => h.2) Tryd.underlying50 rfl HIY.out) (by assumption) ?_
  (try simp only [List.getElem_toArray, List.getElem_cons_succ, List.getElem_cons_zero, Act.put, List.setIfInBounds_toArray, List.set_cons_zero, List.set_cons_succ])
  refine wpAnyH_take (i := 4) (v := .agg (PX).toArray) rfl (by kernel_rfl) (by kernel_rfl) (by kernel_rfl) (fun _ _ _ h => h) (yieldsIf_load_mid (by rfl) 50 _ rfl w.heap.size 0 rfl PX _ (fun w h => h.1) Tryd.underlying50 rfl HIX.out) (by assumption) ?_
  (try simp only [List.getElem_toArray, List.getElem_cons_succ, List.getElem_cons_zero, Act.put, List.setIfInBounds_toArray, List.set_cons_zero, List.set_cons_succ])
  refine wpAnyH_take (i := 6) (v := .agg (PY).toArray) rfl (by kernel_rfl) (by kernel_rfl) (by kernel_rfl) (fun _ _ _ h => h) (yieldsIf_load_mid (by rfl) 50 _ rfl (w.heap.size + 1) 0 rfl PY _ (fun w h => h.2) Tryd.underlying50 rfl HIY.out) (by assumption) ?_
  (try simp only [List.getElem_toArray, List.getElem_cons_succ, List.getElem_cons_zero, Act.put, List.setIfInBounds_toArray, List.set_cons_zero, List.set_cons_succ])
  refine wpAnyH_ready (rs := [1]) (by kernel_rfl) (by simp) ?_
  refine AllReadyH.cons rfl (fun K hK => ?_) ?_
  · refine step_call (by rfl) 33 _ _ (by rfl) Tryd.call33 _ (by first | (simp [Act.eval]; done) | simp [Act.eval, Act.put]) (HDX.out _ HB1.out) ?_
    rintro r w2 ⟨rfl, hb2⟩
    refine ⟨_, rfl, ?_⟩
    have HX2 := Lib.hid (HX1.out.below hb2 HX1.out.lt)
    have HY2 := Lib.hid (HY1.out.below hb2 HY1.out.lt)
    have HR2 := Lib.hid (HR1.out.below hb2 HR1.out.lt)
    have HB2 := Lib.hid (HB1.out.trans (hb2.mono HB1.out.size))
    clear hb2
    refine hK.out _ _ ⟨HX2.out.range, HY2.out.range⟩ (fun hHeld => ?_)
    clear hK K
    (try simp only [List.getElem_toArray, List.getElem_cons_succ, List.getElem_cons_zero, Act.put, List.setIfInBounds_toArray, List.set_cons_zero, List.set_cons_succ])
    refine wpAnyH_ready (rs := [3]) (by kernel_rfl) (by simp) ?_
    refine AllReadyH.cons rfl (fun K hK => ?_) ?_
    · refine step_call (by rfl) 33 _ _ (by rfl) Tryd.call33 _ (by first | (simp [Act.eval]; done) | simp [Act.eval, Act.put]) (HDY.out _ HB2.out) ?_
      rintro r w3 ⟨rfl, hb3⟩
      refine ⟨_, rfl, ?_⟩
      have HX3 := Lib.hid (HX2.out.below hb3 HX2.out.lt)
      have HY3 := Lib.hid (HY2.out.below hb3 HY2.out.lt)
      have HR3 := Lib.hid (HR2.out.below hb3 HR2.out.lt)
      have HB3 := Lib.hid (HB2.out.trans (hb3.mono HB2.out.size))
      clear hb3
      refine hK.out _ _ ⟨HX3.out.range, HY3.out.range⟩ (fun hHeld => ?_)
      clear hK K
      (try simp only [List.getElem_toArray, List.getElem_cons_succ, List.getElem_cons_zero, Act.put, List.setIfInBounds_toArray, List.set_cons_zero, List.set_cons_succ])
      refine wpAnyH_ready (rs := [5]) (by kernel_rfl) (by simp) ?_
      refine AllReadyH.cons rfl (fun K hK => ?_) ?_
      · refine step_call (by rfl) 14 _ _ (by rfl) Tryd.call14 _ (by first | (simp [Act.eval]; done) | simp [Act.eval, Act.put]) (HBX.out _ HB3.out) ?_
        rintro r w4 ⟨rfl, hb4⟩
        refine ⟨_, rfl, ?_⟩
        have HX4 := Lib.hid (HX3.out.below hb4 HX3.out.lt)
        have HY4 := Lib.hid (HY3.out.below hb4 HY3.out.lt)
        have HR4 := Lib.hid (HR3.out.below hb4 HR3.out.lt)
        have HB4 := Lib.hid (HB3.out.trans (hb4.mono HB3.out.size))
        clear hb4
        refine hK.out _ _ ⟨HX4.out.range, HY4.out.range⟩ (fun hHeld => ?_)
        clear hK K
        (try simp only [List.getElem_toArray, List.getElem_cons_succ, List.getElem_cons_zero, Act.put, List.setIfInBounds_toArray, List.set_cons_zero, List.set_cons_succ])
        refine wpAnyH_ready (rs := [7]) (by kernel_rfl) (by simp) ?_
        refine AllReadyH.cons rfl (fun K hK => ?_) ?_
        · refine step_call (by rfl) 14 _ _ (by rfl) Tryd.call14 _ (by first | (simp [Act.eval]; done) | simp [Act.eval, Act.put]) (HBY.out _ HB4.out) ?_
          rintro r w5 ⟨rfl, hb5⟩
          refine ⟨_, rfl, ?_⟩
          have HX5 := Lib.hid (HX4.out.below hb5 HX4.out.lt)
          have HY5 := Lib.hid (HY4.out.below hb5 HY4.out.lt)
          have HR5 := Lib.hid (HR4.out.below hb5 HR4.out.lt)
          have HB5 := Lib.hid (HB4.out.trans (hb5.mono HB4.out.size))
          clear hb5
          refine hK.out _ _ ⟨HX5.out.range, HY5.out.range⟩ (fun hHeld => ?_)
          clear hK K
          (try simp only [List.getElem_toArray, List.getElem_cons_succ, List.getElem_cons_zero, Act.put, List.setIfInBounds_toArray, List.set_cons_zero, List.set_cons_succ])
          refine wpAnyH_ready (rs := [8]) (by kernel_rfl) (by simp) ?_
          refine AllReadyH.cons rfl (fun K hK => ?_) ?_
          · refine step_call (by rfl) 34 _ _ (by rfl) Tryd.call34 _ (by first | (simp [Act.eval]; done) | simp [Act.eval, Act.put]) (HED.out w5) ?_
            rintro r w6 ⟨AA, hga, A, c, rfl, ho6, hb6⟩
            obtain ⟨es, hes⟩ : ∃ es, makeA AA = es := ⟨_, rfl⟩
            have HEO := Lib.hid (HGO.out AA hga).1
            have hel := (HGO.out AA hga).2
            have HGA := Lib.hid hga
            rw [hes] at ho6 HEO hel
            rw [hes]
            obtain ⟨RR, hRR⟩ : ∃ R, fitR ⟨SX, SY, es⟩ = R := ⟨_, rfl⟩
            have HRR := Lib.hid hRR
            have HES := Lib.hid hes
            clear hga hes hRR
            refine ⟨_, rfl, ?_⟩
            have HX6 := Lib.hid (HX5.out.below hb6 HX5.out.lt)
            have HY6 := Lib.hid (HY5.out.below hb6 HY5.out.lt)
            have HR6 := Lib.hid (HR5.out.below hb6 HR5.out.lt)
            have HB6 := Lib.hid (HB5.out.trans (hb6.mono HB5.out.size))
            clear hb6
            refine hK.out _ _ ⟨HX6.out.range, HY6.out.range⟩ (fun hHeld => ?_)
            clear hK K
            (try simp only [List.getElem_toArray, List.getElem_cons_succ, List.getElem_cons_zero, Act.put, List.setIfInBounds_toArray, List.set_cons_zero, List.set_cons_succ])
            refine wpAnyH_take (i := 9) (v := .agg #[.string ⟨SX.toArray⟩, .string ⟨SY.toArray⟩, .slice A es.length c]) rfl (by kernel_rfl) (by kernel_rfl) (by kernel_rfl) (fun _ _ _ h => h) (Or.inl ⟨by rfl, by intro w hSw; (try dsimp only at hSw); go_simp⟩) (by assumption) ?_
            (try simp only [List.getElem_toArray, List.getElem_cons_succ, List.getElem_cons_zero, Act.put, List.setIfInBounds_toArray, List.set_cons_zero, List.set_cons_succ])
            have HPO : Hid (PatchD.Ok w6 w6.heap.size ⟨SX, SY, A, c, es⟩) := Lib.hid ⟨by unfold maxLen; show SX.length ≤ _; omega, by unfold maxLen; show SY.length ≤ _; omega, by show es.length ≤ _; omega, Reads.of_own ho6, HEO.out⟩
            have HO6 := Lib.hid ho6
            obtain ⟨FP, hFP⟩ : ∃ p, fitP ⟨SX, SY, A, c, es⟩ = p := ⟨_, rfl⟩
            obtain ⟨FE, hFE⟩ : ∃ p, fitE ⟨SX, SY, A, c, es⟩ = p := ⟨_, rfl⟩
            have HFPD : Hid ((FP.pd, FE) = RR) := Lib.hid (by rw [← HRR.out, ← hFP, ← hFE]; exact fitP_pd _)
            have HFI := Lib.hid (fitting_any ⟨SX, SY, A, c, es⟩ w6.heap.size w6 HPO.out (Nat.le_refl _))
            rw [hFP, hFE] at HFI
            have HFP : Hid (FP = ⟨SX, SY, A, c, es⟩ ∨ FP = PatchD.nil) := Lib.hid (by rw [← hFP]; unfold fitP; split; exact .inl rfl; exact .inr rfl)
            clear hFP hFE
            obtain ⟨ff, ft, fA, fc, fl⟩ := FP
            simp only [PatchD.parts] at HFI
            refine wpAnyH_ready (rs := [10]) (by kernel_rfl) (by simp) ?_
            refine AllReadyH.cons rfl (fun K hK => ?_) ?_
            · refine step_call (by rfl) 32 _ _ (by rfl) Tryd.call32 _ (by first | (simp [Act.eval]; done) | simp [Act.eval, Act.put]) HFI.out ?_
              rintro r w7 ⟨rfl, hb7⟩
              refine ⟨_, rfl, ?_⟩
              have HX7 := Lib.hid (HX6.out.below hb7 HX6.out.lt)
              have HY7 := Lib.hid (HY6.out.below hb7 HY6.out.lt)
              have HR7 := Lib.hid (HR6.out.below hb7 HR6.out.lt)
              have HB7 := Lib.hid (HB6.out.trans (hb7.mono HB6.out.size))
              have HO7 := Lib.hid (own_below HO6.out hb7 (Nat.le_refl _))
              clear hb7
              refine hK.out _ _ ⟨HX7.out.range, HY7.out.range⟩ (fun hHeld => ?_)
              clear hK K
              (try simp only [List.getElem_toArray, List.getElem_cons_succ, List.getElem_cons_zero, Act.put, List.setIfInBounds_toArray, List.set_cons_zero, List.set_cons_succ])
              refine wpAnyH_take (i := 11) (v := .agg #[.string ⟨ff.toArray⟩, .string ⟨ft.toArray⟩, .slice fA fl.length fc]) rfl (by kernel_rfl) (by kernel_rfl) (by kernel_rfl) (fun _ _ _ h => h) (Or.inl ⟨by rfl, by intro w hSw; (try dsimp only at hSw); go_simp⟩) (by assumption) ?_
              (try simp only [List.getElem_toArray, List.getElem_cons_succ, List.getElem_cons_zero, Act.put, List.setIfInBounds_toArray, List.set_cons_zero, List.set_cons_succ])
              refine wpAnyH_take (i := 12) (v := .int .i64 FE) rfl (by kernel_rfl) (by kernel_rfl) (by kernel_rfl) (fun _ _ _ h => h) (Or.inl ⟨by rfl, by intro w hSw; (try dsimp only at hSw); go_simp⟩) (by assumption) ?_
              (try simp only [List.getElem_toArray, List.getElem_cons_succ, List.getElem_cons_zero, Act.put, List.setIfInBounds_toArray, List.set_cons_zero, List.set_cons_succ])
              refine wpAnyH_ready (rs := [13]) (by kernel_rfl) (by simp) ?_
              refine AllReadyH.cons rfl (fun K hK => ?_) ?_
              · rw [if_pos (by rfl)]
                refine wp_store_mid 24 _ _ rfl (w.heap.size + 2) 0 #[.string ⟨ff.toArray⟩, .string ⟨ft.toArray⟩, .slice fA fl.length fc] rfl rfl (HR7.out.there (by show 3 ≤ 3; decide)) HIP.out (all_one (l := [.string ⟨ff.toArray⟩, .string ⟨ft.toArray⟩, .slice fA fl.length fc]) (by intro v hv; simp only [List.mem_cons, List.not_mem_nil, or_false] at hv; rcases hv with rfl | rfl | rfl <;> rfl)) ?_
                refine hK.out _ _ ⟨(Blk.setCells_far _ 0 w7 HX7.out (by omega)).range, (Blk.setCells_far _ 0 w7 HY7.out (by omega)).range⟩ (fun hHeld => ?_)
                clear hK K
                (try simp only [List.getElem_toArray, List.getElem_cons_succ, List.getElem_cons_zero, Act.put, List.setIfInBounds_toArray, List.set_cons_zero, List.set_cons_succ])
                refine wpAnyH_take (i := 14) (v := .int .i64 FE) rfl (by kernel_rfl) (by kernel_rfl) (by kernel_rfl) (fun _ _ _ h => h) (Or.inl ⟨by rfl, by intro w hSw; (try dsimp only at hSw); go_simp⟩) (by assumption) ?_
                (try simp only [List.getElem_toArray, List.getElem_cons_succ, List.getElem_cons_zero, Act.put, List.setIfInBounds_toArray, List.set_cons_zero, List.set_cons_succ])
                refine wpAnyH_done (by kernel_rfl) ?_ _
                have hbz := HR7.out.setCells (vs := [.string ⟨ff.toArray⟩, .string ⟨ft.toArray⟩, .slice fA fl.length fc]) rfl
                have HBZ := Lib.hid hbz
                have HOZ := Lib.hid (own_setCells [Value.string ⟨ff.toArray⟩, .string ⟨ft.toArray⟩, .slice fA fl.length fc] 0 w7 _ HO7.out HR7.out (by decide))
                have HBE := Lib.hid (Below.setCells (B := w.heap.size) (b := w.heap.size + 2) (a := w) [Value.string ⟨ff.toArray⟩, .string ⟨ft.toArray⟩, .slice fA fl.length fc] 0 w7 HB7.out (by omega))
                clear hbz
                show Exit.then _ _ _ _ (w7.setCells (w.heap.size + 2) 0 [Value.string ⟨ff.toArray⟩, .string ⟨ft.toArray⟩, .slice fA fl.length fc])
                generalize w7.setCells (w.heap.size + 2) 0 [Value.string ⟨ff.toArray⟩, .string ⟨ft.toArray⟩, .slice fA fl.length fc] = wz at HBZ HOZ HBE ⊢
                have y0 : wz.cell? ⟨w.heap.size + 2, 0, none⟩ = some (.string ⟨ff.toArray⟩) := HBZ.out.cell 0
                have y1 : wz.cell? ⟨w.heap.size + 2, 1, none⟩ = some (.string ⟨ft.toArray⟩) := HBZ.out.cell 1
                have y2 : wz.cell? ⟨w.heap.size + 2, 2, none⟩ = some (.slice fA fl.length fc) := HBZ.out.cell 2
                go_wp2
                refine bodyPost_ret (v := .tuple #[.agg #[.string ⟨ff.toArray⟩, .string ⟨ft.toArray⟩, .slice fA fl.length fc], .int .i64 FE]) (by simp [results, Tryd.results13, go_sem, y0, y1, y2]) rfl ?_
                refine ⟨AA, HGA.out, ⟨ff, ft, fA, fc, fl⟩, by rw [HES.out, HRR.out, ← HFPD.out]; rfl, by rw [HES.out, HRR.out, ← HFPD.out], ?_, HBE.out⟩
                rcases HFP.out with h | h
                · rw [h]
                  exact ⟨HPO.out.from_, HPO.out.to_, HPO.out.len, Reads.of_own HOZ.out, HPO.out.edits⟩
                · rw [h]
                  exact PatchD.nil_ok _ _
              · exact AllReadyH.nil
            · exact AllReadyH.nil
          · exact AllReadyH.nil
        · exact AllReadyH.nil
      · exact AllReadyH.nil
    · exact AllReadyH.nil
  · exact AllReadyH.nil

end Go.Proofs.YtefgajipakjpeaaDoor

namespace Go.Proofs.YtefgajipakjpeaaDoor
open Go.RowKit

theorem edits_len {o n : List UInt8} {A : List Atom} (h : EditsOf o n A) : A.length = n.length := by
  have := congrArg List.length h.val
  rwa [List.length_map] at this
theorem Diff_E (x y : ImageD) (PX PY : List Value) (hPX : PX = x.parts) (hPY : PY = y.parts) (w : World) (hin : x.In w w.heap.size) (hok : x.Ok) (hin' : y.In w w.heap.size) (hok' : y.Ok) (ht : Tabs w) (hx : (wImage x).length ≤ 6000) (hy : (wImage y).length ≤ 6000) :
    Calls Tryd.prog 13 #[.agg PX.toArray, .agg PY.toArray] w fun r w' => ∃ (p : PatchD) (A : List Atom), r = .returned (.tuple #[.agg p.parts.toArray, .int .i64 0]) ∧ EditsOf (wImage x) (wImage y) A ∧ p.pd = ⟨sumImg x, sumImg y, makeA A⟩ ∧ p.Ok w' w'.heap.size ∧ Below w.heap.size w w' := by
  have h := Diff_gen x y PX PY (EditsOf (wImage x) (wImage y)) hPX hPY w.heap.size w hin hok hin' hok' (Nat.le_refl _) ht (by omega) (by omega) (fun w' => edits_any (wImage x) (wImage y) w' (by omega) (by omega)) (fun A hA => by
    have hl := edits_len hA
    have h1 := make_in (n := (wImage x).length) (by omega) (by omega) hA.inside
    have h2 := EOk.length_le (make_eok (insideA_mono hA.inside (by omega))).1
    rw [(make_eok (insideA_mono hA.inside (by omega))).2] at h2
    exact ⟨fun e he => (h1 e he).ok (by omega) (by omega), by omega⟩)
  refine h.mono ?_
  rintro r w' ⟨A, hA, p, hr, hp, hk, hb⟩
  have hl := edits_len hA
  have hf : fitR ⟨sumImg x, sumImg y, makeA A⟩ = (⟨sumImg x, sumImg y, makeA A⟩, 0) := by
    unfold fitR
    rw [if_pos (small_fits (sumImg x) (sumImg y) (sumI_length _) (sumI_length _) (by omega) (by omega : ((wImage x).length : Int) ≤ 6000) hA.inside (by omega))]
  rw [hf] at hr hp
  exact ⟨p, A, hr, hA, hp, hk, hb⟩

set_option maxRecDepth 100000 in
theorem readOk_w (y : ImageD) (h : y.Ok) (hL : y.Lens) : readOk (wImage y) = true ∧ (rImage ⟨wImage y, false⟩).1 = y.pl := by
  have h1 := rImage_w y h hL []
  rw [List.append_nil] at h1
  unfold readOk readDone
  rw [h1]
  refine ⟨?_, rfl⟩
  rw [← wImage_pl]
  simp
set_option maxRecDepth 100000 in
theorem Apply_E (x y : ImageD) (PX : List Value) (p : PatchD) (A : List Atom) (hPX : PX = x.parts) (hpd : p.pd = ⟨sumImg x, sumImg y, makeA A⟩) (hv : A.map (valA (wImage x)) = wImage y) (hi : insideA (wImage x).length A) (hx : (wImage x).length ≤ 6000) (hy : (wImage y).length ≤ 6000) (hoky : y.Ok) (hly : y.Lens)
    (w : World) (hin : x.In w w.heap.size) (hok : x.Ok) (hp : p.Ok w w.heap.size) (ht : Tabs w) :
    Calls Tryd.prog 15 #[.agg PX.toArray, .agg p.parts.toArray] w fun r w' => ∃ z : ImageD, r = .returned (.tuple #[.agg z.parts.toArray, .int .i64 0]) ∧ wImage z = wImage y ∧ z.In w' w'.heap.size ∧ z.Ok ∧ Below w.heap.size w w' := by
  have e1 : p.edits = makeA A := by rw [show p.edits = p.pd.edits from rfl, hpd]
  have e2 : p.from_ = sumImg x := by rw [show p.from_ = p.pd.from_ from rfl, hpd]
  have e3 : p.to_ = sumImg y := by rw [show p.to_ = p.pd.to_ from rfl, hpd]
  have hAl : A.length = (wImage y).length := by
    have := congrArg List.length hv
    rwa [List.length_map] at this
  have hr : rightPB p = true := by
    rw [rightPB_pd, hpd]
    exact (rightPD_iff _).2 (make_right (n := (wImage x).length) _ _ (sumI_length _) (sumI_length _) (by omega) (by omega) hi (by omega))
  obtain ⟨r1, r2⟩ := res_make hi (by omega)
  rw [hv] at r1
  have hne : p.edits ≠ [] := by
    rw [e1]
    intro h
    have h2 := make_atoms A
    rw [h] at h2
    have h3 : A = [] := h2.symm
    rw [h3] at hv
    exact wImage_ne y hv.symm
  obtain ⟨q1, q2⟩ := readOk_w y hoky hly
  have h := Apply_ok x PX p hPX w.heap.size w hin hok (Nat.le_refl _) hp ht (by omega) hr hne e2.symm (by rw [e1]; exact r2) (by rw [e1, r1]; omega) (by rw [e1, r1]; exact q1) (by rw [e1, r1, e3]; rfl)
  rw [e1, r1, q2] at h
  refine h.mono ?_
  rintro r w' ⟨z, hz, hp, hrw, hk, hb⟩
  exact ⟨z, hz, by rw [wImage_pl, wImage_pl, hp], hrw.in_, hk, hb⟩
theorem Same_EI (z y : ImageD) (PZ PY : List Value) (hPZ : PZ = z.parts) (hPY : PY = y.parts) (e : wImage z = wImage y) (hy : (wImage y).length ≤ 6000) (w : World) (hin : z.In w w.heap.size) (hok : z.Ok) (hin' : y.In w w.heap.size) (hok' : y.Ok) :
    Calls Tryd.prog 16 #[.agg PZ.toArray, .agg PY.toArray] w fun r w' => r = .returned (.bool true) ∧ Below w.heap.size w w' := by
  have h := ImgSame_any z y PZ PY hPZ hPY w.heap.size w hin hok hin' hok' (Nat.le_refl _) (by rw [e]; omega) (by omega)
  rw [e, beq_self_eq_true] at h
  exact h
theorem join_self {X Y : List UInt8} {sx sy : List UInt8} {Q R : List Atom} (hsx : sx.length = 32) (hsy : sy.length = 32) (hQ : EditsOf X Y Q) (hR : EditsOf Y X R) (hx : X.length ≤ 6000) (hy : Y.length ≤ 6000) :
    joinR ⟨sx, sy, makeA Q⟩ ⟨sy, sx, makeA R⟩ = (⟨sx, sx, makeA (R.map (subA Q))⟩, 0) ∧ (R.map (subA Q)).map (valA X) = X ∧ insideA X.length (R.map (subA Q)) := by
  have lQ := edits_len hQ
  have lR := edits_len hR
  have rq : rightPD ⟨sx, sy, makeA Q⟩ = true := (rightPD_iff _).2 (make_right (n := X.length) _ _ hsx hsy (by omega) (by omega) hQ.inside (by omega))
  have rr : rightPD ⟨sy, sx, makeA R⟩ = true := (rightPD_iff _).2 (make_right (n := Y.length) _ _ hsy hsx (by omega) (by omega) hR.inside (by omega))
  have tq : totalI (makeA Q) = Q.length := (make_eok (insideA_mono hQ.inside (by omega))).2
  have hi : insideA Q.length R := by rw [lQ]; exact hR.inside
  have hi2 : insideA X.length (R.map (subA Q)) := sub_inside hQ.inside hi
  refine ⟨?_, by rw [val_sub hi, hQ.val, hR.val], hi2⟩
  obtain ⟨h1, _⟩ := joinR_run ⟨sx, sy, makeA Q⟩ ⟨sy, sx, makeA R⟩ rq rr rfl
  rw [h1 (by show insideA (totalI (makeA Q)) (atomsL (makeA R)); rw [tq, make_atoms]; exact hi)]
  show fitR ⟨sx, sx, makeA ((atomsL (makeA R)).map (subA (atomsL (makeA Q))))⟩ = _
  rw [make_atoms, make_atoms]
  unfold fitR
  rw [if_pos (small_fits _ _ hsx hsx (by omega) (by omega : (X.length : Int) ≤ 6000) hi2 (by rw [List.length_map]; omega))]
/-- The patch from an image to itself. -/
theorem self_edits {X : List UInt8} {A : List Atom} (h : EditsOf X X A) (hne : X ≠ []) (hl : X.length ≤ 6000) : ∃ e : EditD, makeA A = [e] ∧ (32 ≤ X.length → e.text = []) ∧ (X.length < 32 → e.text = X) := by
  by_cases h32 : 32 ≤ X.length
  · have hA := h.self rfl h32
    obtain ⟨n, hn⟩ : ∃ n : Nat, X.length = n + 1 := ⟨X.length - 1, by omega⟩
    refine ⟨⟨0, X.length, []⟩, ?_, fun _ => rfl, fun h => by omega⟩
    rw [hA]
    unfold makeA
    have e := runA_copy [] [] 0 (X.length : Int) (by omega)
    have et : ((X.length : Int)).toNat = X.length := by omega
    rw [et] at e
    rw [e]
    rfl
  · have hA := h.short (by omega)
    refine ⟨⟨0, 0, X⟩, ?_, fun h => absurd h h32, fun _ => rfl⟩
    rw [hA]
    unfold makeA
    rw [runA_lits]
    show flushL [] ([] ++ X) = _
    rw [List.nil_append]
    unfold flushL
    rw [if_neg (by simpa using hne)]
    rfl

/-- One byte of the contents turned. -/
def flipL (l : List UInt8) (k : Nat) : List UInt8 := l.take k ++ [l.getD k 0 ^^^ 1] ++ l.drop (k + 1)
theorem flipL_length {l : List UInt8} {k : Nat} (h : k < l.length) : (flipL l k).length = l.length := by
  unfold flipL
  simp only [List.length_append, List.length_take, List.length_drop, List.length_cons, List.length_nil]
  omega
def flipI (x : ImageD) (k : Nat) : ImageD := { x with i5 := flipL x.i5 k }
theorem flipI_ok {x : ImageD} {k : Nat} (hk : k < x.i5.length) (h : x.Ok) : (flipI x k).Ok := { h with i5 := by show (flipL x.i5 k).length ≤ maxLen; rw [flipL_length hk]; exact h.i5 }
theorem flipI_in {x : ImageD} {k : Nat} {w : World} {B : Nat} (h : x.In w B) : (flipI x k).In w B := { h with }
set_option maxRecDepth 100000 in
theorem flipI_len {x : ImageD} {k : Nat} (hk : k < x.i5.length) : (wImage (flipI x k)).length = (wImage x).length := by
  have h1 : (wText (flipL x.i5 k)).length = (wText x.i5).length := by
    unfold wText
    rw [List.length_append, List.length_append, flipL_length hk]
  unfold wImage
  simp only [List.length_append]
  show _ + (wText (flipL x.i5 k)).length + _ + _ + _ + _ + _ + _ + _ + _ + _ + _ + _ + _ + _ + _ + _ = _
  rw [h1]
  rfl

end Go.Proofs.YtefgajipakjpeaaDoor

namespace Go.Proofs.YtefgajipakjpeaaDoor
open Go.RowKit

def fewB (x : ImageD) : Bool := decide (x.i5.length ≤ 4096) && decide ((wImage x).length ≤ 6000)
set_option maxHeartbeats 4000000 in
set_option maxRecDepth 100000 in
theorem few_any (x : ImageD) (PX : List Value) (hPX : PX = x.parts) (b : Bool) (hb : fewB x = b) (w : World) (hin : x.In w w.heap.size) (hok : x.Ok) (hlen : (wImage x).length ≤ 70368744177664) :
    Calls Tryd.prog 12 #[.agg PX.toArray] w fun r w' => r = .returned (.bool b) ∧ Below w.heap.size w w' := by
  have HB0 : Hid (Below w.heap.size w (w.alloc (.cells PX.toArray 50))) := Lib.hid ((Below.refl _ _).alloc (Nat.le_refl _) _)
  have HX0 : Hid (Blk (w.alloc (.cells PX.toArray 50)) w.heap.size 50 PX.toArray) := Lib.hid (Blk.new w 50 _)
  have HC5 : Hid ((w.alloc (.cells PX.toArray 50)).cell? ⟨w.heap.size, 5, none⟩ = some (.string ⟨x.i5.toArray⟩)) := Lib.hid ((HX0.out.cell 5).trans (by rw [hPX]; rfl))
  have HI : Hid ((Tryd.prog.info? 50).map (·.size) = some PX.length) := Lib.hid (by rw [imgInfo, hPX]; rfl)
  have HBY := Lib.hid (fun (w' : World) (hb : Below w.heap.size w w') => ImgBytes_any x PX hPX w.heap.size w' (hin.below hb) hok hb.size hlen)
  have HLN := Lib.hid hlen
  have hl5 := hok.i5
  unfold maxLen at hl5
  unfold str at HBY
  unfold fewB at hb
  generalize wImage x = X at HBY hb HLN
  clear hPX hin hok hlen
  by_cases h1 : x.i5.length ≤ 4096
  · have d1 : decide ((x.i5.length : Int) ≤ 4096) = true := decide_eq_true (by omega)
    have HV : Hid (decide ((X.length : Int) ≤ 6000) = b) := Lib.hid (by
      rw [← hb, decide_eq_true h1, Bool.true_and]
      exact decide_eq_decide.2 (by omega))
    have hXl := HLN.out
    clear hb h1
    have c5 := HC5.out
    go_enter Tryd.func12, Tryd.ntmps12
    go_wp2_with (refine wpList_load_midG (by kernel_rfl) 50 _ rfl w.heap.size 0 rfl PX _ HX0.out.range Tryd.underlying50 rfl HI.out ?_)
    refine (HBY.out _ HB0.out).mono ?_
    rintro r w1 ⟨rfl, hb1⟩
    have HB1 := Lib.hid (HB0.out.trans (hb1.mono HB0.out.size))
    clear hb1 c5
    go_wp2
    go_ret
    exact ⟨by rw [← HV.out]; rfl, HB1.out⟩
  · have d1 : decide ((x.i5.length : Int) ≤ 4096) = false := decide_eq_false (by omega)
    have HV : Hid (b = false) := Lib.hid (by rw [← hb, decide_eq_false h1, Bool.false_and])
    clear hb h1
    have c5 := HC5.out
    go_enter Tryd.func12, Tryd.ntmps12
    go_wp2
    go_ret
    exact ⟨by rw [HV.out]; rfl, HB0.out⟩

end Go.Proofs.YtefgajipakjpeaaDoor
