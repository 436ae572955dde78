/-
  Contract of patch.Diff, what edits does being a premise. Conditions: those in its own statement.
-/
import Derived.Test.YtefgajipakjpeaaDoorEditsS
namespace Go.Proofs.YtefgajipakjpeaaDoor
open Go.RowKit

set_option maxHeartbeats 8000000 in
set_option maxRecDepth 100000 in
theorem Diff_any (x y : ImageD) (PX PY : List Value) (es : List EditD) (hPX : PX = x.parts) (hPY : PY = y.parts) (bb : Nat) (w : World) (hin : x.In w bb) (hok : x.Ok) (hin' : y.In w bb) (hok' : y.Ok) (hbb : bb ≤ w.heap.size) (ht : Tabs w)
    (hlen : (wImage x).length ≤ 70368744177664) (hlen' : (wImage y).length ≤ 70368744177664) (hed : ∀ w' : World, Calls Tryd.prog 34 #[str (wImage x), str (wImage y)] w' (EditsPost es w')) (heo : ∀ e ∈ es, e.Ok) (hel : es.length ≤ 1000000) :
    Calls Tryd.prog 13 #[.agg PX.toArray, .agg PY.toArray] w (PatchPost (fitR ⟨sumImg x, sumImg y, es⟩) w) := by
  have hb0 : Below w.heap.size w (((w.alloc (.cells PX.toArray 50)).alloc (.cells PY.toArray 50)).alloc (.cells #[.string ⟨#[]⟩, .string ⟨#[]⟩, .slice none 0 0] 24)) := (((Below.refl _ _).alloc (Nat.le_refl _) _).alloc (by simp) _).alloc (by simp; omega) _
  have HDX := Lib.hid (fun (w' : World) (hb : Below w.heap.size w w') => ImgId_any x PX hPX bb w' (hin.below (hb.mono hbb)) hok (Nat.le_trans hbb hb.size) hlen (ht.below hb ht.size))
  have HDY := Lib.hid (fun (w' : World) (hb : Below w.heap.size w w') => ImgId_any y PY hPY bb w' (hin'.below (hb.mono hbb)) hok' (Nat.le_trans hbb hb.size) hlen' (ht.below hb ht.size))
  have HBX := Lib.hid (fun (w' : World) (hb : Below w.heap.size w w') => ImgBytes_any x PX hPX bb w' (hin.below (hb.mono hbb)) hok (Nat.le_trans hbb hb.size) hlen)
  have HBY := Lib.hid (fun (w' : World) (hb : Below w.heap.size w w') => ImgBytes_any y PY hPY bb w' (hin'.below (hb.mono hbb)) hok' (Nat.le_trans hbb hb.size) hlen')
  have HED := Lib.hid hed
  have HX0 : Hid (Blk (((w.alloc (.cells PX.toArray 50)).alloc (.cells PY.toArray 50)).alloc (.cells #[.string ⟨#[]⟩, .string ⟨#[]⟩, .slice none 0 0] 24)) w.heap.size 50 PX.toArray) := ((Blk.new w 50 _).alloc _).alloc _
  have HY0 : Hid (Blk (((w.alloc (.cells PX.toArray 50)).alloc (.cells PY.toArray 50)).alloc (.cells #[.string ⟨#[]⟩, .string ⟨#[]⟩, .slice none 0 0] 24)) (w.heap.size + 1) 50 PY.toArray) := (Blk.newAt (by simp)).alloc _
  have HR0 : Hid (Blk (((w.alloc (.cells PX.toArray 50)).alloc (.cells PY.toArray 50)).alloc (.cells #[.string ⟨#[]⟩, .string ⟨#[]⟩, .slice none 0 0] 24)) (w.heap.size + 2) 24 #[.string ⟨#[]⟩, .string ⟨#[]⟩, .slice none 0 0]) := Blk.newAt (by simp)
  have HIX : Hid ((Tryd.prog.info? 50).map (·.size) = some PX.length) := Lib.hid (by rw [imgInfo, hPX]; rfl)
  have HIY : Hid ((Tryd.prog.info? 50).map (·.size) = some PY.length) := Lib.hid (by rw [imgInfo, hPY]; rfl)
  have HIP : Hid ((Tryd.prog.info? 24).map (·.size) = some 3) := Lib.hid (by kernel_rfl)
  have HB0 := Lib.hid hb0
  have hsx : (sumImg x).length = 32 := sumI_length _
  have hsy : (sumImg y).length = 32 := sumI_length _
  have HEO := Lib.hid heo
  unfold str at HBX HBY HDX HDY HED
  generalize wImage x = RX at HBX HED
  generalize wImage y = RY at HBY HED
  generalize sumImg x = SX at HDX hsx ⊢
  generalize sumImg y = SY at HDY hsy ⊢
  obtain ⟨RR, hRR⟩ : ∃ R, fitR ⟨SX, SY, es⟩ = R := ⟨_, rfl⟩
  rw [hRR]
  have HRR := Lib.hid hRR
  clear hb0 hPX hPY hlen hlen' hin hok hin' hok' hed heo ht hRR
  unfold PatchPost
  go_enter Tryd.func13, Tryd.ntmps13
  go_wp2_with fail
  generalize (((w.alloc (.cells PX.toArray 50)).alloc (.cells PY.toArray 50)).alloc (.cells #[.string ⟨#[]⟩, .string ⟨#[]⟩, .slice none 0 0] 24)) = w0 at HX0 HY0 HR0 HB0 ⊢
  have HX1 : Hid (Blk w0.drew w.heap.size 50 PX.toArray) := HX0.out
  have HY1 : Hid (Blk w0.drew (w.heap.size + 1) 50 PY.toArray) := HY0.out
  have HR1 : Hid (Blk w0.drew (w.heap.size + 2) 24 #[.string ⟨#[]⟩, .string ⟨#[]⟩, .slice none 0 0]) := HR0.out
  have HB1 : Hid (Below w.heap.size w w0.drew) := HB0.out.drew
  refine wp_region_held_drew (S := (fun w' => w'.rangeAt w.heap.size 0 PX ∧ w'.rangeAt (w.heap.size + 1) 0 PY)) (by kernel_rfl) ⟨HX1.out.range, HY1.out.range⟩ (fun hHeld => ?_)
  refine wpAnyH_take (i := 0) (v := .agg (PX).toArray) rfl (by kernel_rfl) (by kernel_rfl) (by kernel_rfl) (fun _ _ _ h => h) (yieldsIf_load_mid (by rfl) 50 _ rfl w.heap.size 0 rfl PX _ (fun w h => h.1) Tryd.underlying50 rfl HIX.out) (by assumption) ?_
  (try simp only [List.getElem_toArray, List.getElem_cons_succ, List.getElem_cons_zero, Act.put, List.setIfInBounds_toArray, List.set_cons_zero, List.set_cons_succ])
  refine wpAnyH_take (i := 2) (v := .agg (PY).toArray) rfl (by kernel_rfl) (by kernel_rfl) (by kernel_rfl) (fun _ _ _ h => h) (yieldsIf_load_mid (by rfl) 50 _ rfl (w.heap.size + 1) 0 rfl PY _ (fun w h => h.2) Tryd.underlying50 rfl HIY.out) (by assumption) ?_
  (try simp only [List.getElem_toArray, List.getElem_cons_succ, List.getElem_cons_zero, Act.put, List.setIfInBounds_toArray, List.set_cons_zero, List.set_cons_succ])
  refine wpAnyH_take (i := 4) (v := .agg (PX).toArray) rfl (by kernel_rfl) (by kernel_rfl) (by kernel_rfl) (fun _ _ _ h => h) (yieldsIf_load_mid (by rfl) 50 _ rfl w.heap.size 0 rfl PX _ (fun w h => h.1) Tryd.underlying50 rfl HIX.out) (by assumption) ?_
  (try simp only [List.getElem_toArray, List.getElem_cons_succ, List.getElem_cons_zero, Act.put, List.setIfInBounds_toArray, List.set_cons_zero, List.set_cons_succ])
  refine wpAnyH_take (i := 6) (v := .agg (PY).toArray) rfl (by kernel_rfl) (by kernel_rfl) (by kernel_rfl) (fun _ _ _ h => h) (yieldsIf_load_mid (by rfl) 50 _ rfl (w.heap.size + 1) 0 rfl PY _ (fun w h => h.2) Tryd.underlying50 rfl HIY.out) (by assumption) ?_
  (try simp only [List.getElem_toArray, List.getElem_cons_succ, List.getElem_cons_zero, Act.put, List.setIfInBounds_toArray, List.set_cons_zero, List.set_cons_succ])
  refine wpAnyH_ready (rs := [1]) (by kernel_rfl) (by simp) ?_
  refine AllReadyH.cons rfl (fun K hK => ?_) ?_
  · refine step_call (by rfl) 33 _ _ (by rfl) Tryd.call33 _ (by first | (simp [Act.eval]; done) | simp [Act.eval, Act.put]) (HDX.out _ HB1.out) ?_
    rintro r w2 ⟨rfl, hb2⟩
    refine ⟨_, rfl, ?_⟩
    have HX2 := Lib.hid (HX1.out.below hb2 HX1.out.lt)
    have HY2 := Lib.hid (HY1.out.below hb2 HY1.out.lt)
    have HR2 := Lib.hid (HR1.out.below hb2 HR1.out.lt)
    have HB2 := Lib.hid (HB1.out.trans (hb2.mono HB1.out.size))
    clear hb2
    refine hK.out _ _ ⟨HX2.out.range, HY2.out.range⟩ (fun hHeld => ?_)
    clear hK K
    (try simp only [List.getElem_toArray, List.getElem_cons_succ, List.getElem_cons_zero, Act.put, List.setIfInBounds_toArray, List.set_cons_zero, List.set_cons_succ])
    refine wpAnyH_ready (rs := [3]) (by kernel_rfl) (by simp) ?_
    refine AllReadyH.cons rfl (fun K hK => ?_) ?_
    · refine step_call (by rfl) 33 _ _ (by rfl) Tryd.call33 _ (by first | (simp [Act.eval]; done) | simp [Act.eval, Act.put]) (HDY.out _ HB2.out) ?_
      rintro r w3 ⟨rfl, hb3⟩
      refine ⟨_, rfl, ?_⟩
      have HX3 := Lib.hid (HX2.out.below hb3 HX2.out.lt)
      have HY3 := Lib.hid (HY2.out.below hb3 HY2.out.lt)
      have HR3 := Lib.hid (HR2.out.below hb3 HR2.out.lt)
      have HB3 := Lib.hid (HB2.out.trans (hb3.mono HB2.out.size))
      clear hb3
      refine hK.out _ _ ⟨HX3.out.range, HY3.out.range⟩ (fun hHeld => ?_)
      clear hK K
      (try simp only [List.getElem_toArray, List.getElem_cons_succ, List.getElem_cons_zero, Act.put, List.setIfInBounds_toArray, List.set_cons_zero, List.set_cons_succ])
      refine wpAnyH_ready (rs := [5]) (by kernel_rfl) (by simp) ?_
      refine AllReadyH.cons rfl (fun K hK => ?_) ?_
      · refine step_call (by rfl) 14 _ _ (by rfl) Tryd.call14 _ (by first | (simp [Act.eval]; done) | simp [Act.eval, Act.put]) (HBX.out _ HB3.out) ?_
        rintro r w4 ⟨rfl, hb4⟩
        refine ⟨_, rfl, ?_⟩
        have HX4 := Lib.hid (HX3.out.below hb4 HX3.out.lt)
        have HY4 := Lib.hid (HY3.out.below hb4 HY3.out.lt)
        have HR4 := Lib.hid (HR3.out.below hb4 HR3.out.lt)
        have HB4 := Lib.hid (HB3.out.trans (hb4.mono HB3.out.size))
        clear hb4
        refine hK.out _ _ ⟨HX4.out.range, HY4.out.range⟩ (fun hHeld => ?_)
        clear hK K
        (try simp only [List.getElem_toArray, List.getElem_cons_succ, List.getElem_cons_zero, Act.put, List.setIfInBounds_toArray, List.set_cons_zero, List.set_cons_succ])
        refine wpAnyH_ready (rs := [7]) (by kernel_rfl) (by simp) ?_
        refine AllReadyH.cons rfl (fun K hK => ?_) ?_
        · refine step_call (by rfl) 14 _ _ (by rfl) Tryd.call14 _ (by first | (simp [Act.eval]; done) | simp [Act.eval, Act.put]) (HBY.out _ HB4.out) ?_
          rintro r w5 ⟨rfl, hb5⟩
          refine ⟨_, rfl, ?_⟩
          have HX5 := Lib.hid (HX4.out.below hb5 HX4.out.lt)
          have HY5 := Lib.hid (HY4.out.below hb5 HY4.out.lt)
          have HR5 := Lib.hid (HR4.out.below hb5 HR4.out.lt)
          have HB5 := Lib.hid (HB4.out.trans (hb5.mono HB4.out.size))
          clear hb5
          refine hK.out _ _ ⟨HX5.out.range, HY5.out.range⟩ (fun hHeld => ?_)
          clear hK K
          (try simp only [List.getElem_toArray, List.getElem_cons_succ, List.getElem_cons_zero, Act.put, List.setIfInBounds_toArray, List.set_cons_zero, List.set_cons_succ])
          refine wpAnyH_ready (rs := [8]) (by kernel_rfl) (by simp) ?_
          refine AllReadyH.cons rfl (fun K hK => ?_) ?_
          · refine step_call (by rfl) 34 _ _ (by rfl) Tryd.call34 _ (by first | (simp [Act.eval]; done) | simp [Act.eval, Act.put]) (HED.out w5) ?_
            rintro r w6 ⟨A, c, rfl, ho6, hb6⟩
            refine ⟨_, rfl, ?_⟩
            have HX6 := Lib.hid (HX5.out.below hb6 HX5.out.lt)
            have HY6 := Lib.hid (HY5.out.below hb6 HY5.out.lt)
            have HR6 := Lib.hid (HR5.out.below hb6 HR5.out.lt)
            have HB6 := Lib.hid (HB5.out.trans (hb6.mono HB5.out.size))
            clear hb6
            refine hK.out _ _ ⟨HX6.out.range, HY6.out.range⟩ (fun hHeld => ?_)
            clear hK K
            (try simp only [List.getElem_toArray, List.getElem_cons_succ, List.getElem_cons_zero, Act.put, List.setIfInBounds_toArray, List.set_cons_zero, List.set_cons_succ])
            refine wpAnyH_take (i := 9) (v := .agg #[.string ⟨SX.toArray⟩, .string ⟨SY.toArray⟩, .slice A es.length c]) rfl (by kernel_rfl) (by kernel_rfl) (by kernel_rfl) (fun _ _ _ h => h) (Or.inl ⟨by rfl, by intro w hSw; (try dsimp only at hSw); go_simp⟩) (by assumption) ?_
            (try simp only [List.getElem_toArray, List.getElem_cons_succ, List.getElem_cons_zero, Act.put, List.setIfInBounds_toArray, List.set_cons_zero, List.set_cons_succ])
            have HPO : Hid (PatchD.Ok w6 w6.heap.size ⟨SX, SY, A, c, es⟩) := Lib.hid ⟨by unfold maxLen; show SX.length ≤ _; omega, by unfold maxLen; show SY.length ≤ _; omega, by show es.length ≤ _; omega, Reads.of_own ho6, HEO.out⟩
            have HO6 := Lib.hid ho6
            obtain ⟨FP, hFP⟩ : ∃ p, fitP ⟨SX, SY, A, c, es⟩ = p := ⟨_, rfl⟩
            obtain ⟨FE, hFE⟩ : ∃ p, fitE ⟨SX, SY, A, c, es⟩ = p := ⟨_, rfl⟩
            have HFPD : Hid ((FP.pd, FE) = RR) := Lib.hid (by rw [← HRR.out, ← hFP, ← hFE]; exact fitP_pd _)
            have HFI := Lib.hid (fitting_any ⟨SX, SY, A, c, es⟩ w6.heap.size w6 HPO.out (Nat.le_refl _))
            rw [hFP, hFE] at HFI
            have HFP : Hid (FP = ⟨SX, SY, A, c, es⟩ ∨ FP = PatchD.nil) := Lib.hid (by rw [← hFP]; unfold fitP; split; exact .inl rfl; exact .inr rfl)
            clear hFP hFE
            obtain ⟨ff, ft, fA, fc, fl⟩ := FP
            simp only [PatchD.parts] at HFI
            refine wpAnyH_ready (rs := [10]) (by kernel_rfl) (by simp) ?_
            refine AllReadyH.cons rfl (fun K hK => ?_) ?_
            · refine step_call (by rfl) 32 _ _ (by rfl) Tryd.call32 _ (by first | (simp [Act.eval]; done) | simp [Act.eval, Act.put]) HFI.out ?_
              rintro r w7 ⟨rfl, hb7⟩
              refine ⟨_, rfl, ?_⟩
              have HX7 := Lib.hid (HX6.out.below hb7 HX6.out.lt)
              have HY7 := Lib.hid (HY6.out.below hb7 HY6.out.lt)
              have HR7 := Lib.hid (HR6.out.below hb7 HR6.out.lt)
              have HB7 := Lib.hid (HB6.out.trans (hb7.mono HB6.out.size))
              have HO7 := Lib.hid (own_below HO6.out hb7 (Nat.le_refl _))
              clear hb7
              refine hK.out _ _ ⟨HX7.out.range, HY7.out.range⟩ (fun hHeld => ?_)
              clear hK K
              (try simp only [List.getElem_toArray, List.getElem_cons_succ, List.getElem_cons_zero, Act.put, List.setIfInBounds_toArray, List.set_cons_zero, List.set_cons_succ])
              refine wpAnyH_take (i := 11) (v := .agg #[.string ⟨ff.toArray⟩, .string ⟨ft.toArray⟩, .slice fA fl.length fc]) rfl (by kernel_rfl) (by kernel_rfl) (by kernel_rfl) (fun _ _ _ h => h) (Or.inl ⟨by rfl, by intro w hSw; (try dsimp only at hSw); go_simp⟩) (by assumption) ?_
              (try simp only [List.getElem_toArray, List.getElem_cons_succ, List.getElem_cons_zero, Act.put, List.setIfInBounds_toArray, List.set_cons_zero, List.set_cons_succ])
              refine wpAnyH_take (i := 12) (v := .int .i64 FE) rfl (by kernel_rfl) (by kernel_rfl) (by kernel_rfl) (fun _ _ _ h => h) (Or.inl ⟨by rfl, by intro w hSw; (try dsimp only at hSw); go_simp⟩) (by assumption) ?_
              (try simp only [List.getElem_toArray, List.getElem_cons_succ, List.getElem_cons_zero, Act.put, List.setIfInBounds_toArray, List.set_cons_zero, List.set_cons_succ])
              refine wpAnyH_ready (rs := [13]) (by kernel_rfl) (by simp) ?_
              refine AllReadyH.cons rfl (fun K hK => ?_) ?_
              · rw [if_pos (by rfl)]
                refine wp_store_mid 24 _ _ rfl (w.heap.size + 2) 0 #[.string ⟨ff.toArray⟩, .string ⟨ft.toArray⟩, .slice fA fl.length fc] rfl rfl (HR7.out.there (by show 3 ≤ 3; decide)) HIP.out (all_one (l := [.string ⟨ff.toArray⟩, .string ⟨ft.toArray⟩, .slice fA fl.length fc]) (by intro v hv; simp only [List.mem_cons, List.not_mem_nil, or_false] at hv; rcases hv with rfl | rfl | rfl <;> rfl)) ?_
                refine hK.out _ _ ⟨(Blk.setCells_far _ 0 w7 HX7.out (by omega)).range, (Blk.setCells_far _ 0 w7 HY7.out (by omega)).range⟩ (fun hHeld => ?_)
                clear hK K
                (try simp only [List.getElem_toArray, List.getElem_cons_succ, List.getElem_cons_zero, Act.put, List.setIfInBounds_toArray, List.set_cons_zero, List.set_cons_succ])
                refine wpAnyH_take (i := 14) (v := .int .i64 FE) rfl (by kernel_rfl) (by kernel_rfl) (by kernel_rfl) (fun _ _ _ h => h) (Or.inl ⟨by rfl, by intro w hSw; (try dsimp only at hSw); go_simp⟩) (by assumption) ?_
                (try simp only [List.getElem_toArray, List.getElem_cons_succ, List.getElem_cons_zero, Act.put, List.setIfInBounds_toArray, List.set_cons_zero, List.set_cons_succ])
                refine wpAnyH_done (by kernel_rfl) ?_ _
                have hbz := HR7.out.setCells (vs := [.string ⟨ff.toArray⟩, .string ⟨ft.toArray⟩, .slice fA fl.length fc]) rfl
                have HBZ := Lib.hid hbz
                have HOZ := Lib.hid (own_setCells [Value.string ⟨ff.toArray⟩, .string ⟨ft.toArray⟩, .slice fA fl.length fc] 0 w7 _ HO7.out HR7.out (by decide))
                have HBE := Lib.hid (Below.setCells (B := w.heap.size) (b := w.heap.size + 2) (a := w) [Value.string ⟨ff.toArray⟩, .string ⟨ft.toArray⟩, .slice fA fl.length fc] 0 w7 HB7.out (by omega))
                clear hbz
                show Exit.then _ _ _ _ (w7.setCells (w.heap.size + 2) 0 [Value.string ⟨ff.toArray⟩, .string ⟨ft.toArray⟩, .slice fA fl.length fc])
                generalize w7.setCells (w.heap.size + 2) 0 [Value.string ⟨ff.toArray⟩, .string ⟨ft.toArray⟩, .slice fA fl.length fc] = wz at HBZ HOZ HBE ⊢
                have y0 : wz.cell? ⟨w.heap.size + 2, 0, none⟩ = some (.string ⟨ff.toArray⟩) := HBZ.out.cell 0
                have y1 : wz.cell? ⟨w.heap.size + 2, 1, none⟩ = some (.string ⟨ft.toArray⟩) := HBZ.out.cell 1
                have y2 : wz.cell? ⟨w.heap.size + 2, 2, none⟩ = some (.slice fA fl.length fc) := HBZ.out.cell 2
                go_wp2
                refine bodyPost_ret (v := .tuple #[.agg #[.string ⟨ff.toArray⟩, .string ⟨ft.toArray⟩, .slice fA fl.length fc], .int .i64 FE]) (by simp [results, Tryd.results13, go_sem, y0, y1, y2]) rfl ?_
                refine ⟨⟨ff, ft, fA, fc, fl⟩, by rw [← HFPD.out]; rfl, by rw [← HFPD.out], ?_, HBE.out⟩
                rcases HFP.out with h | h
                · rw [h]
                  exact ⟨HPO.out.from_, HPO.out.to_, HPO.out.len, Reads.of_own HOZ.out, HPO.out.edits⟩
                · rw [h]
                  exact PatchD.nil_ok _ _
              · exact AllReadyH.nil
            · exact AllReadyH.nil
          · exact AllReadyH.nil
        · exact AllReadyH.nil
      · exact AllReadyH.nil
    · exact AllReadyH.nil
  · exact AllReadyH.nil

end Go.Proofs.YtefgajipakjpeaaDoor
