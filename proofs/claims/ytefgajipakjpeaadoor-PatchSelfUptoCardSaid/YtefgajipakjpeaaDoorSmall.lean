/-
  Contract of the layer's small: it returns true. Condition: the two tables stand as the program lays them.
-/
import Derived.Test.YtefgajipakjpeaaDoorSmallC
import Derived.Test.YtefgajipakjpeaaDoorPut
namespace Go.Proofs.YtefgajipakjpeaaDoor
open Go.RowKit

theorem Bytes_S (WP : List UInt8) (hWP : WP = wPD smallP) (p : PatchD) (hp : p.pd = smallP) (B : Nat) (w : World) (hk : p.Ok w B) (hB : B ≤ w.heap.size) :
    Calls Tryd.prog 8 #[.agg p.parts.toArray] w fun r w' => r = .returned (.string ⟨WP.toArray⟩) ∧ Below w.heap.size w w' := by
  have e : wPatch p = WP := by rw [wPatch_pd, hp, hWP]
  have hl : (wPatch p).length ≤ 70368744177664 := by rw [e, hWP]; have := smallP_len; omega
  have h := Bytes_any p B w hk hB hl
  rw [e] at h
  exact h
theorem Size_S (WP : List UInt8) (hWP : WP = wPD smallP) (p : PatchD) (hp : p.pd = smallP) (w : World) (hk : p.Ok w w.heap.size) :
    Calls Tryd.prog 11 #[.agg p.parts.toArray] w fun r w' => r = .returned (.int .i64 (WP.length : Int)) ∧ Below w.heap.size w w' := by
  have e : wPatch p = WP := by rw [wPatch_pd, hp, hWP]
  have hl : (wPatch p).length ≤ 70368744177664 := by rw [e, hWP]; have := smallP_len; omega
  have h := Size_any p w.heap.size w hk (Nat.le_refl _) hl
  rw [e] at h
  exact h
theorem Read_S (WP : List UInt8) (hWP : WP = wPD smallP) (w : World) : Calls Tryd.prog 9 #[.string ⟨WP.toArray⟩] w (fun r w' => ∃ p : PatchD, r = .returned (.tuple #[.agg p.parts.toArray, .bool true]) ∧ p.pd = smallP ∧ p.Ok w' w'.heap.size ∧ Below w.heap.size w w') := by
  subst hWP
  exact Read_P w
theorem Right_S (p : PatchD) (hp : p.pd = smallP) (w : World) (hk : p.Ok w w.heap.size) :
    Calls Tryd.prog 18 #[.agg p.parts.toArray] w fun r w' => r = .returned (.bool true) ∧ Below w.heap.size w w' := by
  have h := Right_any p w.heap.size w hk (Nat.le_refl _)
  rw [rightPB_pd, hp, smallP_right] at h
  exact h
theorem Right_N (w : World) : Calls Tryd.prog 18 #[.agg #[.string ⟨#[]⟩, .string ⟨#[]⟩, .slice none 0 0]] w fun r w' => r = .returned (.bool false) ∧ Below w.heap.size w w' := by
  have h := Right_any PatchD.nil w.heap.size w (PatchD.nil_ok _ _) (Nat.le_refl _)
  have e : rightPB PatchD.nil = false := nil_right
  rw [e] at h
  exact h
theorem samePB_pd (p q : PatchD) (h : p.pd = q.pd) : samePB p q = true := by
  exact (samePB_iff p q).2 h
theorem Same_S (p q : PatchD) (hp : p.pd = smallP) (hq : q.pd = smallP) (w : World) (hk : p.Ok w w.heap.size) (hk' : q.Ok w w.heap.size) :
    Calls Tryd.prog 10 #[.agg p.parts.toArray, .agg q.parts.toArray] w fun r w' => r = .returned (.bool true) ∧ Below w.heap.size w w' := by
  have h := Same_any p q w.heap.size w hk hk' (Nat.le_refl _)
  rw [samePB_pd p q (hp.trans hq.symm)] at h
  exact h
theorem Img_S (y : ImageD) (hy : y.pl = imgB.pl) (hk : y.Ok) (PB : List Value) (hPB : PB = imgB.parts) (w : World) (hi : y.In w w.heap.size) :
    Calls Tryd.prog 16 #[.agg y.parts.toArray, .agg PB.toArray] w fun r w' => r = .returned (.bool true) ∧ Below w.heap.size w w' := by
  have e : wImage y = wImage imgB := by rw [wImage_pl, wImage_pl, hy]
  have h := ImgSame_any y imgB y.parts PB rfl hPB w.heap.size w hi hk (imgS_in 98 _ _) (imgS_ok 98) (Nat.le_refl _) (by rw [e]; exact lenB) lenB
  rw [e, beq_self_eq_true] at h
  exact h

set_option maxHeartbeats 8000000 in
set_option maxRecDepth 100000 in
theorem Small_any (w : World) (ht : Tabs w) : Calls Tryd.prog 6 #[] w (fun r w' => r = .returned (.bool true) ∧ Below w.heap.size w w') := by
  have HTB := Lib.hid ht
  clear ht
  obtain ⟨PA, hPA⟩ : ∃ PA : List Value, PA = imgA.parts := ⟨_, rfl⟩
  have HIPA : Hid ((Tryd.prog.info? 50).map (·.size) = some PA.length) := Lib.hid (by rw [imgInfo, hPA]; rfl)
  have HOPA : Hid (∀ v ∈ PA, v.oneCell' = true) := Lib.hid (by rw [hPA]; exact ImageD.one imgA)
  have HLPA : Hid (PA.length = 26) := Lib.hid (by rw [hPA]; rfl)
  have HPA := Lib.hid hPA
  clear hPA
  obtain ⟨PB, hPB⟩ : ∃ PB : List Value, PB = imgB.parts := ⟨_, rfl⟩
  have HIPB : Hid ((Tryd.prog.info? 50).map (·.size) = some PB.length) := Lib.hid (by rw [imgInfo, hPB]; rfl)
  have HOPB : Hid (∀ v ∈ PB, v.oneCell' = true) := Lib.hid (by rw [hPB]; exact ImageD.one imgB)
  have HLPB : Hid (PB.length = 26) := Lib.hid (by rw [hPB]; rfl)
  have HPB := Lib.hid hPB
  clear hPB
  obtain ⟨WP, hWP⟩ : ∃ l, l = wPD smallP := ⟨_, rfl⟩
  have HWP := Lib.hid hWP
  clear hWP
  go_enter Tryd.func6, Tryd.ntmps6
  go_wp2_with (first | (refine wpList_new_store rfl 50 _ _ rfl PA rfl (by rw [HPA.out]; rfl) (by rw [HLPA.out]; rfl) HIPA.out HOPA.out ?_))
  intro w1 hx hb
  have HN := Lib.hid hx; clear hx
  have HBw1 := Lib.hid hb
  have HTw1 := Lib.hid (HTB.out.below HBw1.out HTB.out.size)
  clear hb
  have HAw1 := HN; clear HN
  go_wp2_with (first
      | (refine wpList_load_mid rfl 50 _ rfl w.heap.size 0 rfl PA _ HAw1.out.range Tryd.underlying50 rfl HIPA.out ?_) | (refine wpList_new_store rfl 50 _ _ rfl PB rfl (by rw [HPB.out]; rfl) (by rw [HLPB.out]; rfl) HIPB.out HOPB.out ?_))
  intro w2 hx hb
  have HN := Lib.hid hx; clear hx
  have HAw2 := Lib.hid (HAw1.out.below hb HAw1.out.lt)
  have HBw2 := Lib.hid (HBw1.out.trans (hb.mono HBw1.out.size))
  have HTw2 := Lib.hid (HTB.out.below HBw2.out HTB.out.size)
  clear hb HAw1 HBw1 HTw1
  have HCw2 := HN; clear HN
  go_wp2_with (first
      | (refine wpList_load_mid rfl 50 _ rfl w.heap.size 0 rfl PA _ HAw2.out.range Tryd.underlying50 rfl HIPA.out ?_)
      | (refine wpList_load_mid rfl 50 _ rfl w1.heap.size 0 rfl PB _ HCw2.out.range Tryd.underlying50 rfl HIPB.out ?_) | fail)
  have HC := Lib.hid (Diff_AB PA PB HPA.out HPB.out w2 HTw2.out)
  refine (HC.out).mono ?_
  rintro r w3 ⟨p, rfl, hp, hok, hb⟩
  clear HC
  have HDp := Lib.hid hp; have HKp := Lib.hid hok; clear hp hok
  have HAw3 := Lib.hid (HAw2.out.below hb HAw2.out.lt)
  have HCw3 := Lib.hid (HCw2.out.below hb HCw2.out.lt)
  have HBw3 := Lib.hid (HBw2.out.trans (hb.mono HBw2.out.size))
  have HTw3 := Lib.hid (HTB.out.below HBw3.out HTB.out.size)
  clear hb HAw2 HCw2 HBw2 HTw2
  have HOpw3 := HKp; have HLpw3 : Hid (w3.heap.size ≤ w3.heap.size) := Lib.hid (Nat.le_refl _); clear HKp
  go_wp2_with (first
      | (refine wpList_load_mid rfl 50 _ rfl w.heap.size 0 rfl PA _ HAw3.out.range Tryd.underlying50 rfl HIPA.out ?_)
      | (refine wpList_load_mid rfl 50 _ rfl w1.heap.size 0 rfl PB _ HCw3.out.range Tryd.underlying50 rfl HIPB.out ?_) | (refine wpList_new_store rfl 24 _ _ rfl p.parts rfl rfl rfl (patchInfo p) (PatchD.one p) ?_))
  intro w4 hx hb
  have HN := Lib.hid hx; clear hx
  have HAw4 := Lib.hid (HAw3.out.below hb HAw3.out.lt)
  have HCw4 := Lib.hid (HCw3.out.below hb HCw3.out.lt)
  have HOpw4 := Lib.hid (HOpw3.out.below (hb.mono HLpw3.out)); have HLpw4 := Lib.hid (Nat.le_trans HLpw3.out hb.size)
  have HBw4 := Lib.hid (HBw3.out.trans (hb.mono HBw3.out.size))
  have HTw4 := Lib.hid (HTB.out.below HBw4.out HTB.out.size)
  clear hb HAw3 HCw3 HOpw3 HLpw3 HBw3 HTw3
  have HPw4 := HN; clear HN
  go_wp2_with (first
      | (refine wpList_load_mid rfl 50 _ rfl w.heap.size 0 rfl PA _ HAw4.out.range Tryd.underlying50 rfl HIPA.out ?_)
      | (refine wpList_load_mid rfl 50 _ rfl w1.heap.size 0 rfl PB _ HCw4.out.range Tryd.underlying50 rfl HIPB.out ?_)
      | (refine wpList_load_mid rfl 24 _ rfl w3.heap.size 0 rfl p.parts _ HPw4.out.range Tryd.underlying24 rfl (patchInfo p) ?_) | fail)
  have HC := Lib.hid (Apply_A PA HPA.out p HDp.out w3.heap.size w4 HOpw4.out HLpw4.out HTw4.out)
  refine (HC.out).mono ?_
  rintro r w5 ⟨y, rfl, hy, hr, hk, hb⟩
  clear HC
  have HPY := Lib.hid hy; have HYK := Lib.hid hk; have HYI := Lib.hid hr.in_; clear hy hr hk
  have HAw5 := Lib.hid (HAw4.out.below hb HAw4.out.lt)
  have HCw5 := Lib.hid (HCw4.out.below hb HCw4.out.lt)
  have HPw5 := Lib.hid (HPw4.out.below hb HPw4.out.lt)
  have HOpw5 := Lib.hid (HOpw4.out.below (hb.mono HLpw4.out)); have HLpw5 := Lib.hid (Nat.le_trans HLpw4.out hb.size)
  have HBw5 := Lib.hid (HBw4.out.trans (hb.mono HBw4.out.size))
  have HTw5 := Lib.hid (HTB.out.below HBw5.out HTB.out.size)
  clear hb HAw4 HCw4 HPw4 HOpw4 HLpw4 HBw4 HTw4
  have HOyw5 := HYI; have HLyw5 : Hid (w5.heap.size ≤ w5.heap.size) := Lib.hid (Nat.le_refl _); clear HYI
  go_wp2_with (first
      | (refine wpList_load_mid rfl 50 _ rfl w.heap.size 0 rfl PA _ HAw5.out.range Tryd.underlying50 rfl HIPA.out ?_)
      | (refine wpList_load_mid rfl 50 _ rfl w1.heap.size 0 rfl PB _ HCw5.out.range Tryd.underlying50 rfl HIPB.out ?_)
      | (refine wpList_load_mid rfl 24 _ rfl w3.heap.size 0 rfl p.parts _ HPw5.out.range Tryd.underlying24 rfl (patchInfo p) ?_) | (refine wpList_new_store rfl 50 _ _ rfl y.parts rfl rfl rfl (by rw [imgInfo, ImageD.parts_length]) (ImageD.one y) ?_))
  intro w6 hx hb
  have HN := Lib.hid hx; clear hx
  have HAw6 := Lib.hid (HAw5.out.below hb HAw5.out.lt)
  have HCw6 := Lib.hid (HCw5.out.below hb HCw5.out.lt)
  have HPw6 := Lib.hid (HPw5.out.below hb HPw5.out.lt)
  have HOpw6 := Lib.hid (HOpw5.out.below (hb.mono HLpw5.out)); have HLpw6 := Lib.hid (Nat.le_trans HLpw5.out hb.size)
  have HOyw6 := Lib.hid (HOyw5.out.below (hb.mono HLyw5.out)); have HLyw6 := Lib.hid (Nat.le_trans HLyw5.out hb.size)
  have HBw6 := Lib.hid (HBw5.out.trans (hb.mono HBw5.out.size))
  have HTw6 := Lib.hid (HTB.out.below HBw6.out HTB.out.size)
  clear hb HAw5 HCw5 HPw5 HOpw5 HLpw5 HOyw5 HLyw5 HBw5 HTw5
  have HYw6 := HN; clear HN
  go_wp2_with (first
      | (refine wpList_load_mid rfl 50 _ rfl w.heap.size 0 rfl PA _ HAw6.out.range Tryd.underlying50 rfl HIPA.out ?_)
      | (refine wpList_load_mid rfl 50 _ rfl w1.heap.size 0 rfl PB _ HCw6.out.range Tryd.underlying50 rfl HIPB.out ?_)
      | (refine wpList_load_mid rfl 24 _ rfl w3.heap.size 0 rfl p.parts _ HPw6.out.range Tryd.underlying24 rfl (patchInfo p) ?_)
      | (refine wpList_load_mid rfl 50 _ rfl w5.heap.size 0 rfl y.parts _ HYw6.out.range Tryd.underlying50 rfl (by rw [imgInfo, ImageD.parts_length]) ?_) | fail)
  have HC := Lib.hid (Apply_B PB HPB.out p HDp.out w3.heap.size w6 HOpw6.out HLpw6.out HTw6.out)
  refine (HC.out).mono ?_
  rintro r w7 ⟨rfl, hb⟩
  clear HC
  have HAw7 := Lib.hid (HAw6.out.below hb HAw6.out.lt)
  have HCw7 := Lib.hid (HCw6.out.below hb HCw6.out.lt)
  have HPw7 := Lib.hid (HPw6.out.below hb HPw6.out.lt)
  have HYw7 := Lib.hid (HYw6.out.below hb HYw6.out.lt)
  have HOpw7 := Lib.hid (HOpw6.out.below (hb.mono HLpw6.out)); have HLpw7 := Lib.hid (Nat.le_trans HLpw6.out hb.size)
  have HOyw7 := Lib.hid (HOyw6.out.below (hb.mono HLyw6.out)); have HLyw7 := Lib.hid (Nat.le_trans HLyw6.out hb.size)
  have HBw7 := Lib.hid (HBw6.out.trans (hb.mono HBw6.out.size))
  have HTw7 := Lib.hid (HTB.out.below HBw7.out HTB.out.size)
  clear hb HAw6 HCw6 HPw6 HYw6 HOpw6 HLpw6 HOyw6 HLyw6 HBw6 HTw6
  go_wp2_with (first
      | (refine wpList_load_mid rfl 50 _ rfl w.heap.size 0 rfl PA _ HAw7.out.range Tryd.underlying50 rfl HIPA.out ?_)
      | (refine wpList_load_mid rfl 50 _ rfl w1.heap.size 0 rfl PB _ HCw7.out.range Tryd.underlying50 rfl HIPB.out ?_)
      | (refine wpList_load_mid rfl 24 _ rfl w3.heap.size 0 rfl p.parts _ HPw7.out.range Tryd.underlying24 rfl (patchInfo p) ?_)
      | (refine wpList_load_mid rfl 50 _ rfl w5.heap.size 0 rfl y.parts _ HYw7.out.range Tryd.underlying50 rfl (by rw [imgInfo, ImageD.parts_length]) ?_) | (refine wpList_new_store rfl 50 _ _ rfl ImageD.nil.parts rfl rfl rfl (by rw [imgInfo, ImageD.parts_length]) (ImageD.one ImageD.nil) ?_))
  intro w8 hx hb
  have HN := Lib.hid hx; clear hx
  have HAw8 := Lib.hid (HAw7.out.below hb HAw7.out.lt)
  have HCw8 := Lib.hid (HCw7.out.below hb HCw7.out.lt)
  have HPw8 := Lib.hid (HPw7.out.below hb HPw7.out.lt)
  have HYw8 := Lib.hid (HYw7.out.below hb HYw7.out.lt)
  have HOpw8 := Lib.hid (HOpw7.out.below (hb.mono HLpw7.out)); have HLpw8 := Lib.hid (Nat.le_trans HLpw7.out hb.size)
  have HOyw8 := Lib.hid (HOyw7.out.below (hb.mono HLyw7.out)); have HLyw8 := Lib.hid (Nat.le_trans HLyw7.out hb.size)
  have HBw8 := Lib.hid (HBw7.out.trans (hb.mono HBw7.out.size))
  have HTw8 := Lib.hid (HTB.out.below HBw8.out HTB.out.size)
  clear hb HAw7 HCw7 HPw7 HYw7 HOpw7 HLpw7 HOyw7 HLyw7 HBw7 HTw7
  have HZw8 := HN; clear HN
  go_wp2_with (first
      | (refine wpList_load_mid rfl 50 _ rfl w.heap.size 0 rfl PA _ HAw8.out.range Tryd.underlying50 rfl HIPA.out ?_)
      | (refine wpList_load_mid rfl 50 _ rfl w1.heap.size 0 rfl PB _ HCw8.out.range Tryd.underlying50 rfl HIPB.out ?_)
      | (refine wpList_load_mid rfl 24 _ rfl w3.heap.size 0 rfl p.parts _ HPw8.out.range Tryd.underlying24 rfl (patchInfo p) ?_)
      | (refine wpList_load_mid rfl 50 _ rfl w5.heap.size 0 rfl y.parts _ HYw8.out.range Tryd.underlying50 rfl (by rw [imgInfo, ImageD.parts_length]) ?_)
      | (refine wpList_load_mid rfl 50 _ rfl w7.heap.size 0 rfl ImageD.nil.parts _ HZw8.out.range Tryd.underlying50 rfl (by rw [imgInfo, ImageD.parts_length]) ?_) | fail)
  have HC := Lib.hid (Diff_AA PA HPA.out w8 HTw8.out)
  refine (HC.out).mono ?_
  rintro r w9 ⟨q, rfl, hq, hok, hb⟩
  clear HC
  have HDq := Lib.hid hq; have HKq := Lib.hid hok; clear hq hok
  have HAw9 := Lib.hid (HAw8.out.below hb HAw8.out.lt)
  have HCw9 := Lib.hid (HCw8.out.below hb HCw8.out.lt)
  have HPw9 := Lib.hid (HPw8.out.below hb HPw8.out.lt)
  have HYw9 := Lib.hid (HYw8.out.below hb HYw8.out.lt)
  have HZw9 := Lib.hid (HZw8.out.below hb HZw8.out.lt)
  have HOpw9 := Lib.hid (HOpw8.out.below (hb.mono HLpw8.out)); have HLpw9 := Lib.hid (Nat.le_trans HLpw8.out hb.size)
  have HOyw9 := Lib.hid (HOyw8.out.below (hb.mono HLyw8.out)); have HLyw9 := Lib.hid (Nat.le_trans HLyw8.out hb.size)
  have HBw9 := Lib.hid (HBw8.out.trans (hb.mono HBw8.out.size))
  have HTw9 := Lib.hid (HTB.out.below HBw9.out HTB.out.size)
  clear hb HAw8 HCw8 HPw8 HYw8 HZw8 HOpw8 HLpw8 HOyw8 HLyw8 HBw8 HTw8
  have HOqw9 := HKq; have HLqw9 : Hid (w9.heap.size ≤ w9.heap.size) := Lib.hid (Nat.le_refl _); clear HKq
  go_wp2_with (first
      | (refine wpList_load_mid rfl 50 _ rfl w.heap.size 0 rfl PA _ HAw9.out.range Tryd.underlying50 rfl HIPA.out ?_)
      | (refine wpList_load_mid rfl 50 _ rfl w1.heap.size 0 rfl PB _ HCw9.out.range Tryd.underlying50 rfl HIPB.out ?_)
      | (refine wpList_load_mid rfl 24 _ rfl w3.heap.size 0 rfl p.parts _ HPw9.out.range Tryd.underlying24 rfl (patchInfo p) ?_)
      | (refine wpList_load_mid rfl 50 _ rfl w5.heap.size 0 rfl y.parts _ HYw9.out.range Tryd.underlying50 rfl (by rw [imgInfo, ImageD.parts_length]) ?_)
      | (refine wpList_load_mid rfl 50 _ rfl w7.heap.size 0 rfl ImageD.nil.parts _ HZw9.out.range Tryd.underlying50 rfl (by rw [imgInfo, ImageD.parts_length]) ?_) | (refine wpList_new_store rfl 24 _ _ rfl q.parts rfl rfl rfl (patchInfo q) (PatchD.one q) ?_))
  intro w10 hx hb
  have HN := Lib.hid hx; clear hx
  have HAw10 := Lib.hid (HAw9.out.below hb HAw9.out.lt)
  have HCw10 := Lib.hid (HCw9.out.below hb HCw9.out.lt)
  have HPw10 := Lib.hid (HPw9.out.below hb HPw9.out.lt)
  have HYw10 := Lib.hid (HYw9.out.below hb HYw9.out.lt)
  have HZw10 := Lib.hid (HZw9.out.below hb HZw9.out.lt)
  have HOpw10 := Lib.hid (HOpw9.out.below (hb.mono HLpw9.out)); have HLpw10 := Lib.hid (Nat.le_trans HLpw9.out hb.size)
  have HOqw10 := Lib.hid (HOqw9.out.below (hb.mono HLqw9.out)); have HLqw10 := Lib.hid (Nat.le_trans HLqw9.out hb.size)
  have HOyw10 := Lib.hid (HOyw9.out.below (hb.mono HLyw9.out)); have HLyw10 := Lib.hid (Nat.le_trans HLyw9.out hb.size)
  have HBw10 := Lib.hid (HBw9.out.trans (hb.mono HBw9.out.size))
  have HTw10 := Lib.hid (HTB.out.below HBw10.out HTB.out.size)
  clear hb HAw9 HCw9 HPw9 HYw9 HZw9 HOpw9 HLpw9 HOqw9 HLqw9 HOyw9 HLyw9 HBw9 HTw9
  have HQw10 := HN; clear HN
  go_wp2_with (first
      | (refine wpList_load_mid rfl 50 _ rfl w.heap.size 0 rfl PA _ HAw10.out.range Tryd.underlying50 rfl HIPA.out ?_)
      | (refine wpList_load_mid rfl 50 _ rfl w1.heap.size 0 rfl PB _ HCw10.out.range Tryd.underlying50 rfl HIPB.out ?_)
      | (refine wpList_load_mid rfl 24 _ rfl w3.heap.size 0 rfl p.parts _ HPw10.out.range Tryd.underlying24 rfl (patchInfo p) ?_)
      | (refine wpList_load_mid rfl 50 _ rfl w5.heap.size 0 rfl y.parts _ HYw10.out.range Tryd.underlying50 rfl (by rw [imgInfo, ImageD.parts_length]) ?_)
      | (refine wpList_load_mid rfl 50 _ rfl w7.heap.size 0 rfl ImageD.nil.parts _ HZw10.out.range Tryd.underlying50 rfl (by rw [imgInfo, ImageD.parts_length]) ?_)
      | (refine wpList_load_mid rfl 24 _ rfl w9.heap.size 0 rfl q.parts _ HQw10.out.range Tryd.underlying24 rfl (patchInfo q) ?_) | fail)
  have HC := Lib.hid (Join_PN p q HDp.out HDq.out w10.heap.size w10 (HOpw10.out.more HLpw10.out) (HOqw10.out.more HLqw10.out) (Nat.le_refl _))
  refine (HC.out).mono ?_
  rintro r w11 ⟨r1, rfl, hr1, hok, hb⟩
  clear HC
  have HDr1 := Lib.hid hr1; have HKr1 := Lib.hid hok; clear hr1 hok
  have HAw11 := Lib.hid (HAw10.out.below hb HAw10.out.lt)
  have HCw11 := Lib.hid (HCw10.out.below hb HCw10.out.lt)
  have HPw11 := Lib.hid (HPw10.out.below hb HPw10.out.lt)
  have HYw11 := Lib.hid (HYw10.out.below hb HYw10.out.lt)
  have HZw11 := Lib.hid (HZw10.out.below hb HZw10.out.lt)
  have HQw11 := Lib.hid (HQw10.out.below hb HQw10.out.lt)
  have HOpw11 := Lib.hid (HOpw10.out.below (hb.mono HLpw10.out)); have HLpw11 := Lib.hid (Nat.le_trans HLpw10.out hb.size)
  have HOqw11 := Lib.hid (HOqw10.out.below (hb.mono HLqw10.out)); have HLqw11 := Lib.hid (Nat.le_trans HLqw10.out hb.size)
  have HOyw11 := Lib.hid (HOyw10.out.below (hb.mono HLyw10.out)); have HLyw11 := Lib.hid (Nat.le_trans HLyw10.out hb.size)
  have HBw11 := Lib.hid (HBw10.out.trans (hb.mono HBw10.out.size))
  have HTw11 := Lib.hid (HTB.out.below HBw11.out HTB.out.size)
  clear hb HAw10 HCw10 HPw10 HYw10 HZw10 HQw10 HOpw10 HLpw10 HOqw10 HLqw10 HOyw10 HLyw10 HBw10 HTw10
  have HOr1w11 := HKr1; have HLr1w11 : Hid (w11.heap.size ≤ w11.heap.size) := Lib.hid (Nat.le_refl _); clear HKr1
  go_wp2_with (first
      | (refine wpList_load_mid rfl 50 _ rfl w.heap.size 0 rfl PA _ HAw11.out.range Tryd.underlying50 rfl HIPA.out ?_)
      | (refine wpList_load_mid rfl 50 _ rfl w1.heap.size 0 rfl PB _ HCw11.out.range Tryd.underlying50 rfl HIPB.out ?_)
      | (refine wpList_load_mid rfl 24 _ rfl w3.heap.size 0 rfl p.parts _ HPw11.out.range Tryd.underlying24 rfl (patchInfo p) ?_)
      | (refine wpList_load_mid rfl 50 _ rfl w5.heap.size 0 rfl y.parts _ HYw11.out.range Tryd.underlying50 rfl (by rw [imgInfo, ImageD.parts_length]) ?_)
      | (refine wpList_load_mid rfl 50 _ rfl w7.heap.size 0 rfl ImageD.nil.parts _ HZw11.out.range Tryd.underlying50 rfl (by rw [imgInfo, ImageD.parts_length]) ?_)
      | (refine wpList_load_mid rfl 24 _ rfl w9.heap.size 0 rfl q.parts _ HQw11.out.range Tryd.underlying24 rfl (patchInfo q) ?_) | (refine wpList_new_store rfl 24 _ _ rfl r1.parts rfl rfl rfl (patchInfo r1) (PatchD.one r1) ?_))
  intro w12 hx hb
  have HN := Lib.hid hx; clear hx
  have HAw12 := Lib.hid (HAw11.out.below hb HAw11.out.lt)
  have HCw12 := Lib.hid (HCw11.out.below hb HCw11.out.lt)
  have HPw12 := Lib.hid (HPw11.out.below hb HPw11.out.lt)
  have HYw12 := Lib.hid (HYw11.out.below hb HYw11.out.lt)
  have HZw12 := Lib.hid (HZw11.out.below hb HZw11.out.lt)
  have HQw12 := Lib.hid (HQw11.out.below hb HQw11.out.lt)
  have HOpw12 := Lib.hid (HOpw11.out.below (hb.mono HLpw11.out)); have HLpw12 := Lib.hid (Nat.le_trans HLpw11.out hb.size)
  have HOqw12 := Lib.hid (HOqw11.out.below (hb.mono HLqw11.out)); have HLqw12 := Lib.hid (Nat.le_trans HLqw11.out hb.size)
  have HOr1w12 := Lib.hid (HOr1w11.out.below (hb.mono HLr1w11.out)); have HLr1w12 := Lib.hid (Nat.le_trans HLr1w11.out hb.size)
  have HOyw12 := Lib.hid (HOyw11.out.below (hb.mono HLyw11.out)); have HLyw12 := Lib.hid (Nat.le_trans HLyw11.out hb.size)
  have HBw12 := Lib.hid (HBw11.out.trans (hb.mono HBw11.out.size))
  have HTw12 := Lib.hid (HTB.out.below HBw12.out HTB.out.size)
  clear hb HAw11 HCw11 HPw11 HYw11 HZw11 HQw11 HOpw11 HLpw11 HOqw11 HLqw11 HOr1w11 HLr1w11 HOyw11 HLyw11 HBw11 HTw11
  have HRw12 := HN; clear HN
  go_wp2_with (first
      | (refine wpList_load_mid rfl 50 _ rfl w.heap.size 0 rfl PA _ HAw12.out.range Tryd.underlying50 rfl HIPA.out ?_)
      | (refine wpList_load_mid rfl 50 _ rfl w1.heap.size 0 rfl PB _ HCw12.out.range Tryd.underlying50 rfl HIPB.out ?_)
      | (refine wpList_load_mid rfl 24 _ rfl w3.heap.size 0 rfl p.parts _ HPw12.out.range Tryd.underlying24 rfl (patchInfo p) ?_)
      | (refine wpList_load_mid rfl 50 _ rfl w5.heap.size 0 rfl y.parts _ HYw12.out.range Tryd.underlying50 rfl (by rw [imgInfo, ImageD.parts_length]) ?_)
      | (refine wpList_load_mid rfl 50 _ rfl w7.heap.size 0 rfl ImageD.nil.parts _ HZw12.out.range Tryd.underlying50 rfl (by rw [imgInfo, ImageD.parts_length]) ?_)
      | (refine wpList_load_mid rfl 24 _ rfl w9.heap.size 0 rfl q.parts _ HQw12.out.range Tryd.underlying24 rfl (patchInfo q) ?_)
      | (refine wpList_load_mid rfl 24 _ rfl w11.heap.size 0 rfl r1.parts _ HRw12.out.range Tryd.underlying24 rfl (patchInfo r1) ?_) | fail)
  have HC := Lib.hid (Join_NP q p HDq.out HDp.out w12.heap.size w12 (HOqw12.out.more HLqw12.out) (HOpw12.out.more HLpw12.out) (Nat.le_refl _))
  refine (HC.out).mono ?_
  rintro r w13 ⟨s, rfl, hs, hok, hb⟩
  clear HC
  have HDs := Lib.hid hs; have HKs := Lib.hid hok; clear hs hok
  have HAw13 := Lib.hid (HAw12.out.below hb HAw12.out.lt)
  have HCw13 := Lib.hid (HCw12.out.below hb HCw12.out.lt)
  have HPw13 := Lib.hid (HPw12.out.below hb HPw12.out.lt)
  have HYw13 := Lib.hid (HYw12.out.below hb HYw12.out.lt)
  have HZw13 := Lib.hid (HZw12.out.below hb HZw12.out.lt)
  have HQw13 := Lib.hid (HQw12.out.below hb HQw12.out.lt)
  have HRw13 := Lib.hid (HRw12.out.below hb HRw12.out.lt)
  have HOpw13 := Lib.hid (HOpw12.out.below (hb.mono HLpw12.out)); have HLpw13 := Lib.hid (Nat.le_trans HLpw12.out hb.size)
  have HOqw13 := Lib.hid (HOqw12.out.below (hb.mono HLqw12.out)); have HLqw13 := Lib.hid (Nat.le_trans HLqw12.out hb.size)
  have HOr1w13 := Lib.hid (HOr1w12.out.below (hb.mono HLr1w12.out)); have HLr1w13 := Lib.hid (Nat.le_trans HLr1w12.out hb.size)
  have HOyw13 := Lib.hid (HOyw12.out.below (hb.mono HLyw12.out)); have HLyw13 := Lib.hid (Nat.le_trans HLyw12.out hb.size)
  have HBw13 := Lib.hid (HBw12.out.trans (hb.mono HBw12.out.size))
  have HTw13 := Lib.hid (HTB.out.below HBw13.out HTB.out.size)
  clear hb HAw12 HCw12 HPw12 HYw12 HZw12 HQw12 HRw12 HOpw12 HLpw12 HOqw12 HLqw12 HOr1w12 HLr1w12 HOyw12 HLyw12 HBw12 HTw12
  have HOsw13 := HKs; have HLsw13 : Hid (w13.heap.size ≤ w13.heap.size) := Lib.hid (Nat.le_refl _); clear HKs
  go_wp2_with (first
      | (refine wpList_load_mid rfl 50 _ rfl w.heap.size 0 rfl PA _ HAw13.out.range Tryd.underlying50 rfl HIPA.out ?_)
      | (refine wpList_load_mid rfl 50 _ rfl w1.heap.size 0 rfl PB _ HCw13.out.range Tryd.underlying50 rfl HIPB.out ?_)
      | (refine wpList_load_mid rfl 24 _ rfl w3.heap.size 0 rfl p.parts _ HPw13.out.range Tryd.underlying24 rfl (patchInfo p) ?_)
      | (refine wpList_load_mid rfl 50 _ rfl w5.heap.size 0 rfl y.parts _ HYw13.out.range Tryd.underlying50 rfl (by rw [imgInfo, ImageD.parts_length]) ?_)
      | (refine wpList_load_mid rfl 50 _ rfl w7.heap.size 0 rfl ImageD.nil.parts _ HZw13.out.range Tryd.underlying50 rfl (by rw [imgInfo, ImageD.parts_length]) ?_)
      | (refine wpList_load_mid rfl 24 _ rfl w9.heap.size 0 rfl q.parts _ HQw13.out.range Tryd.underlying24 rfl (patchInfo q) ?_)
      | (refine wpList_load_mid rfl 24 _ rfl w11.heap.size 0 rfl r1.parts _ HRw13.out.range Tryd.underlying24 rfl (patchInfo r1) ?_) | (refine wpList_new_store rfl 24 _ _ rfl s.parts rfl rfl rfl (patchInfo s) (PatchD.one s) ?_))
  intro w14 hx hb
  have HN := Lib.hid hx; clear hx
  have HAw14 := Lib.hid (HAw13.out.below hb HAw13.out.lt)
  have HCw14 := Lib.hid (HCw13.out.below hb HCw13.out.lt)
  have HPw14 := Lib.hid (HPw13.out.below hb HPw13.out.lt)
  have HYw14 := Lib.hid (HYw13.out.below hb HYw13.out.lt)
  have HZw14 := Lib.hid (HZw13.out.below hb HZw13.out.lt)
  have HQw14 := Lib.hid (HQw13.out.below hb HQw13.out.lt)
  have HRw14 := Lib.hid (HRw13.out.below hb HRw13.out.lt)
  have HOpw14 := Lib.hid (HOpw13.out.below (hb.mono HLpw13.out)); have HLpw14 := Lib.hid (Nat.le_trans HLpw13.out hb.size)
  have HOqw14 := Lib.hid (HOqw13.out.below (hb.mono HLqw13.out)); have HLqw14 := Lib.hid (Nat.le_trans HLqw13.out hb.size)
  have HOr1w14 := Lib.hid (HOr1w13.out.below (hb.mono HLr1w13.out)); have HLr1w14 := Lib.hid (Nat.le_trans HLr1w13.out hb.size)
  have HOsw14 := Lib.hid (HOsw13.out.below (hb.mono HLsw13.out)); have HLsw14 := Lib.hid (Nat.le_trans HLsw13.out hb.size)
  have HOyw14 := Lib.hid (HOyw13.out.below (hb.mono HLyw13.out)); have HLyw14 := Lib.hid (Nat.le_trans HLyw13.out hb.size)
  have HBw14 := Lib.hid (HBw13.out.trans (hb.mono HBw13.out.size))
  have HTw14 := Lib.hid (HTB.out.below HBw14.out HTB.out.size)
  clear hb HAw13 HCw13 HPw13 HYw13 HZw13 HQw13 HRw13 HOpw13 HLpw13 HOqw13 HLqw13 HOr1w13 HLr1w13 HOsw13 HLsw13 HOyw13 HLyw13 HBw13 HTw13
  have HSw14 := HN; clear HN
  go_wp2_with (first
      | (refine wpList_load_mid rfl 50 _ rfl w.heap.size 0 rfl PA _ HAw14.out.range Tryd.underlying50 rfl HIPA.out ?_)
      | (refine wpList_load_mid rfl 50 _ rfl w1.heap.size 0 rfl PB _ HCw14.out.range Tryd.underlying50 rfl HIPB.out ?_)
      | (refine wpList_load_mid rfl 24 _ rfl w3.heap.size 0 rfl p.parts _ HPw14.out.range Tryd.underlying24 rfl (patchInfo p) ?_)
      | (refine wpList_load_mid rfl 50 _ rfl w5.heap.size 0 rfl y.parts _ HYw14.out.range Tryd.underlying50 rfl (by rw [imgInfo, ImageD.parts_length]) ?_)
      | (refine wpList_load_mid rfl 50 _ rfl w7.heap.size 0 rfl ImageD.nil.parts _ HZw14.out.range Tryd.underlying50 rfl (by rw [imgInfo, ImageD.parts_length]) ?_)
      | (refine wpList_load_mid rfl 24 _ rfl w9.heap.size 0 rfl q.parts _ HQw14.out.range Tryd.underlying24 rfl (patchInfo q) ?_)
      | (refine wpList_load_mid rfl 24 _ rfl w11.heap.size 0 rfl r1.parts _ HRw14.out.range Tryd.underlying24 rfl (patchInfo r1) ?_)
      | (refine wpList_load_mid rfl 24 _ rfl w13.heap.size 0 rfl s.parts _ HSw14.out.range Tryd.underlying24 rfl (patchInfo s) ?_) | fail)
  have HC := Lib.hid (Bytes_S WP HWP.out p HDp.out w3.heap.size w14 HOpw14.out HLpw14.out)
  refine (HC.out).mono ?_
  rintro r w15 ⟨rfl, hb⟩
  clear HC
  have HAw15 := Lib.hid (HAw14.out.below hb HAw14.out.lt)
  have HCw15 := Lib.hid (HCw14.out.below hb HCw14.out.lt)
  have HPw15 := Lib.hid (HPw14.out.below hb HPw14.out.lt)
  have HYw15 := Lib.hid (HYw14.out.below hb HYw14.out.lt)
  have HZw15 := Lib.hid (HZw14.out.below hb HZw14.out.lt)
  have HQw15 := Lib.hid (HQw14.out.below hb HQw14.out.lt)
  have HRw15 := Lib.hid (HRw14.out.below hb HRw14.out.lt)
  have HSw15 := Lib.hid (HSw14.out.below hb HSw14.out.lt)
  have HOpw15 := Lib.hid (HOpw14.out.below (hb.mono HLpw14.out)); have HLpw15 := Lib.hid (Nat.le_trans HLpw14.out hb.size)
  have HOqw15 := Lib.hid (HOqw14.out.below (hb.mono HLqw14.out)); have HLqw15 := Lib.hid (Nat.le_trans HLqw14.out hb.size)
  have HOr1w15 := Lib.hid (HOr1w14.out.below (hb.mono HLr1w14.out)); have HLr1w15 := Lib.hid (Nat.le_trans HLr1w14.out hb.size)
  have HOsw15 := Lib.hid (HOsw14.out.below (hb.mono HLsw14.out)); have HLsw15 := Lib.hid (Nat.le_trans HLsw14.out hb.size)
  have HOyw15 := Lib.hid (HOyw14.out.below (hb.mono HLyw14.out)); have HLyw15 := Lib.hid (Nat.le_trans HLyw14.out hb.size)
  have HBw15 := Lib.hid (HBw14.out.trans (hb.mono HBw14.out.size))
  have HTw15 := Lib.hid (HTB.out.below HBw15.out HTB.out.size)
  clear hb HAw14 HCw14 HPw14 HYw14 HZw14 HQw14 HRw14 HSw14 HOpw14 HLpw14 HOqw14 HLqw14 HOr1w14 HLr1w14 HOsw14 HLsw14 HOyw14 HLyw14 HBw14 HTw14
  go_wp2_with (first
      | (refine wpList_load_mid rfl 50 _ rfl w.heap.size 0 rfl PA _ HAw15.out.range Tryd.underlying50 rfl HIPA.out ?_)
      | (refine wpList_load_mid rfl 50 _ rfl w1.heap.size 0 rfl PB _ HCw15.out.range Tryd.underlying50 rfl HIPB.out ?_)
      | (refine wpList_load_mid rfl 24 _ rfl w3.heap.size 0 rfl p.parts _ HPw15.out.range Tryd.underlying24 rfl (patchInfo p) ?_)
      | (refine wpList_load_mid rfl 50 _ rfl w5.heap.size 0 rfl y.parts _ HYw15.out.range Tryd.underlying50 rfl (by rw [imgInfo, ImageD.parts_length]) ?_)
      | (refine wpList_load_mid rfl 50 _ rfl w7.heap.size 0 rfl ImageD.nil.parts _ HZw15.out.range Tryd.underlying50 rfl (by rw [imgInfo, ImageD.parts_length]) ?_)
      | (refine wpList_load_mid rfl 24 _ rfl w9.heap.size 0 rfl q.parts _ HQw15.out.range Tryd.underlying24 rfl (patchInfo q) ?_)
      | (refine wpList_load_mid rfl 24 _ rfl w11.heap.size 0 rfl r1.parts _ HRw15.out.range Tryd.underlying24 rfl (patchInfo r1) ?_)
      | (refine wpList_load_mid rfl 24 _ rfl w13.heap.size 0 rfl s.parts _ HSw15.out.range Tryd.underlying24 rfl (patchInfo s) ?_) | fail)
  have HC := Lib.hid (Read_S WP HWP.out w15)
  refine (HC.out).mono ?_
  rintro r w16 ⟨t, rfl, ht, hok, hb⟩
  clear HC
  have HDt := Lib.hid ht; have HKt := Lib.hid hok; clear ht hok
  have HAw16 := Lib.hid (HAw15.out.below hb HAw15.out.lt)
  have HCw16 := Lib.hid (HCw15.out.below hb HCw15.out.lt)
  have HPw16 := Lib.hid (HPw15.out.below hb HPw15.out.lt)
  have HYw16 := Lib.hid (HYw15.out.below hb HYw15.out.lt)
  have HZw16 := Lib.hid (HZw15.out.below hb HZw15.out.lt)
  have HQw16 := Lib.hid (HQw15.out.below hb HQw15.out.lt)
  have HRw16 := Lib.hid (HRw15.out.below hb HRw15.out.lt)
  have HSw16 := Lib.hid (HSw15.out.below hb HSw15.out.lt)
  have HOpw16 := Lib.hid (HOpw15.out.below (hb.mono HLpw15.out)); have HLpw16 := Lib.hid (Nat.le_trans HLpw15.out hb.size)
  have HOqw16 := Lib.hid (HOqw15.out.below (hb.mono HLqw15.out)); have HLqw16 := Lib.hid (Nat.le_trans HLqw15.out hb.size)
  have HOr1w16 := Lib.hid (HOr1w15.out.below (hb.mono HLr1w15.out)); have HLr1w16 := Lib.hid (Nat.le_trans HLr1w15.out hb.size)
  have HOsw16 := Lib.hid (HOsw15.out.below (hb.mono HLsw15.out)); have HLsw16 := Lib.hid (Nat.le_trans HLsw15.out hb.size)
  have HOyw16 := Lib.hid (HOyw15.out.below (hb.mono HLyw15.out)); have HLyw16 := Lib.hid (Nat.le_trans HLyw15.out hb.size)
  have HBw16 := Lib.hid (HBw15.out.trans (hb.mono HBw15.out.size))
  have HTw16 := Lib.hid (HTB.out.below HBw16.out HTB.out.size)
  clear hb HAw15 HCw15 HPw15 HYw15 HZw15 HQw15 HRw15 HSw15 HOpw15 HLpw15 HOqw15 HLqw15 HOr1w15 HLr1w15 HOsw15 HLsw15 HOyw15 HLyw15 HBw15 HTw15
  have HOtw16 := HKt; have HLtw16 : Hid (w16.heap.size ≤ w16.heap.size) := Lib.hid (Nat.le_refl _); clear HKt
  go_wp2_with (first
      | (refine wpList_load_mid rfl 50 _ rfl w.heap.size 0 rfl PA _ HAw16.out.range Tryd.underlying50 rfl HIPA.out ?_)
      | (refine wpList_load_mid rfl 50 _ rfl w1.heap.size 0 rfl PB _ HCw16.out.range Tryd.underlying50 rfl HIPB.out ?_)
      | (refine wpList_load_mid rfl 24 _ rfl w3.heap.size 0 rfl p.parts _ HPw16.out.range Tryd.underlying24 rfl (patchInfo p) ?_)
      | (refine wpList_load_mid rfl 50 _ rfl w5.heap.size 0 rfl y.parts _ HYw16.out.range Tryd.underlying50 rfl (by rw [imgInfo, ImageD.parts_length]) ?_)
      | (refine wpList_load_mid rfl 50 _ rfl w7.heap.size 0 rfl ImageD.nil.parts _ HZw16.out.range Tryd.underlying50 rfl (by rw [imgInfo, ImageD.parts_length]) ?_)
      | (refine wpList_load_mid rfl 24 _ rfl w9.heap.size 0 rfl q.parts _ HQw16.out.range Tryd.underlying24 rfl (patchInfo q) ?_)
      | (refine wpList_load_mid rfl 24 _ rfl w11.heap.size 0 rfl r1.parts _ HRw16.out.range Tryd.underlying24 rfl (patchInfo r1) ?_)
      | (refine wpList_load_mid rfl 24 _ rfl w13.heap.size 0 rfl s.parts _ HSw16.out.range Tryd.underlying24 rfl (patchInfo s) ?_) | (refine wpList_new_store rfl 24 _ _ rfl t.parts rfl rfl rfl (patchInfo t) (PatchD.one t) ?_))
  intro w17 hx hb
  have HN := Lib.hid hx; clear hx
  have HAw17 := Lib.hid (HAw16.out.below hb HAw16.out.lt)
  have HCw17 := Lib.hid (HCw16.out.below hb HCw16.out.lt)
  have HPw17 := Lib.hid (HPw16.out.below hb HPw16.out.lt)
  have HYw17 := Lib.hid (HYw16.out.below hb HYw16.out.lt)
  have HZw17 := Lib.hid (HZw16.out.below hb HZw16.out.lt)
  have HQw17 := Lib.hid (HQw16.out.below hb HQw16.out.lt)
  have HRw17 := Lib.hid (HRw16.out.below hb HRw16.out.lt)
  have HSw17 := Lib.hid (HSw16.out.below hb HSw16.out.lt)
  have HOpw17 := Lib.hid (HOpw16.out.below (hb.mono HLpw16.out)); have HLpw17 := Lib.hid (Nat.le_trans HLpw16.out hb.size)
  have HOqw17 := Lib.hid (HOqw16.out.below (hb.mono HLqw16.out)); have HLqw17 := Lib.hid (Nat.le_trans HLqw16.out hb.size)
  have HOr1w17 := Lib.hid (HOr1w16.out.below (hb.mono HLr1w16.out)); have HLr1w17 := Lib.hid (Nat.le_trans HLr1w16.out hb.size)
  have HOsw17 := Lib.hid (HOsw16.out.below (hb.mono HLsw16.out)); have HLsw17 := Lib.hid (Nat.le_trans HLsw16.out hb.size)
  have HOtw17 := Lib.hid (HOtw16.out.below (hb.mono HLtw16.out)); have HLtw17 := Lib.hid (Nat.le_trans HLtw16.out hb.size)
  have HOyw17 := Lib.hid (HOyw16.out.below (hb.mono HLyw16.out)); have HLyw17 := Lib.hid (Nat.le_trans HLyw16.out hb.size)
  have HBw17 := Lib.hid (HBw16.out.trans (hb.mono HBw16.out.size))
  have HTw17 := Lib.hid (HTB.out.below HBw17.out HTB.out.size)
  clear hb HAw16 HCw16 HPw16 HYw16 HZw16 HQw16 HRw16 HSw16 HOpw16 HLpw16 HOqw16 HLqw16 HOr1w16 HLr1w16 HOsw16 HLsw16 HOtw16 HLtw16 HOyw16 HLyw16 HBw16 HTw16
  have HUw17 := HN; clear HN
  have HQ1 : Hid (q.edits.length = 1) := Lib.hid (by have h : q.edits = smallN.edits := congrArg PD.edits HDq.out; rw [h]; exact smallN_one)
  have HR1 : Hid (r1.edits.length = 0) := Lib.hid (by have h : r1.edits = [] := congrArg PD.edits HDr1.out; rw [h]; rfl)
  obtain ⟨SF, hSF⟩ : ∃ l, l = smallP.from_ := ⟨_, rfl⟩
  obtain ⟨ST, hST⟩ : ∃ l, l = smallP.to_ := ⟨_, rfl⟩
  have HSF : Hid (s.from_ = SF) := Lib.hid ((congrArg PD.from_ HDs.out).trans hSF.symm)
  have HPF : Hid (p.from_ = SF) := Lib.hid ((congrArg PD.from_ HDp.out).trans hSF.symm)
  have HST : Hid (s.to_ = ST) := Lib.hid ((congrArg PD.to_ HDs.out).trans hST.symm)
  have HPT : Hid (p.to_ = ST) := Lib.hid ((congrArg PD.to_ HDp.out).trans hST.symm)
  clear hSF hST
  go_wp2_with fail
  have hdr : Below w17.heap.size w17 w17.drew := (Below.refl _ _).drew
  have HAw17d := Lib.hid (HAw17.out.below hdr HAw17.out.lt)
  have HCw17d := Lib.hid (HCw17.out.below hdr HCw17.out.lt)
  have HPw17d := Lib.hid (HPw17.out.below hdr HPw17.out.lt)
  have HYw17d := Lib.hid (HYw17.out.below hdr HYw17.out.lt)
  have HZw17d := Lib.hid (HZw17.out.below hdr HZw17.out.lt)
  have HQw17d := Lib.hid (HQw17.out.below hdr HQw17.out.lt)
  have HRw17d := Lib.hid (HRw17.out.below hdr HRw17.out.lt)
  have HSw17d := Lib.hid (HSw17.out.below hdr HSw17.out.lt)
  have HUw17d := Lib.hid (HUw17.out.below hdr HUw17.out.lt)
  have HOpw17d := Lib.hid (HOpw17.out.below (hdr.mono HLpw17.out)); have HLpw17d := Lib.hid (Nat.le_trans HLpw17.out hdr.size)
  have HOqw17d := Lib.hid (HOqw17.out.below (hdr.mono HLqw17.out)); have HLqw17d := Lib.hid (Nat.le_trans HLqw17.out hdr.size)
  have HOr1w17d := Lib.hid (HOr1w17.out.below (hdr.mono HLr1w17.out)); have HLr1w17d := Lib.hid (Nat.le_trans HLr1w17.out hdr.size)
  have HOsw17d := Lib.hid (HOsw17.out.below (hdr.mono HLsw17.out)); have HLsw17d := Lib.hid (Nat.le_trans HLsw17.out hdr.size)
  have HOtw17d := Lib.hid (HOtw17.out.below (hdr.mono HLtw17.out)); have HLtw17d := Lib.hid (Nat.le_trans HLtw17.out hdr.size)
  have HOyw17d := Lib.hid (HOyw17.out.below (hdr.mono HLyw17.out)); have HLyw17d := Lib.hid (Nat.le_trans HLyw17.out hdr.size)
  have HBw17d := Lib.hid (HBw17.out.trans (hdr.mono HBw17.out.size))
  have HTw17d := Lib.hid (HTB.out.below HBw17d.out HTB.out.size)
  clear HAw17 HCw17 HPw17 HYw17 HZw17 HQw17 HRw17 HSw17 HUw17 HOpw17 HLpw17 HOqw17 HLqw17 HOr1w17 HLr1w17 HOsw17 HLsw17 HOtw17 HLtw17 HOyw17 HLyw17 HBw17 HTw17
  refine wp_region_held_drew (S := (fun w' => (w'.rangeAt (w5.heap.size) 0 y.parts ∧ w'.rangeAt (w1.heap.size) 0 PB ∧ w'.rangeAt (w16.heap.size) 0 t.parts ∧ w'.rangeAt (w3.heap.size) 0 p.parts) ∧ (w'.cell? ⟨w9.heap.size, 2, none⟩ = some (.slice q.A 1 q.c) ∧ w'.cell? ⟨w11.heap.size, 2, none⟩ = some (.slice r1.A 0 r1.c) ∧ w'.cell? ⟨w13.heap.size, 0, none⟩ = some (.string ⟨SF.toArray⟩) ∧ w'.cell? ⟨w3.heap.size, 0, none⟩ = some (.string ⟨SF.toArray⟩) ∧ w'.cell? ⟨w13.heap.size, 1, none⟩ = some (.string ⟨ST.toArray⟩) ∧ w'.cell? ⟨w3.heap.size, 1, none⟩ = some (.string ⟨ST.toArray⟩)))) (by kernel_rfl) ⟨⟨HYw17d.out.range, HCw17d.out.range, HUw17d.out.range, HPw17d.out.range⟩, ⟨(HQw17d.out.cell 2).trans (by show some (Value.slice q.A q.edits.length q.c) = _; rw [HQ1.out]), (HRw17d.out.cell 2).trans (by show some (Value.slice r1.A r1.edits.length r1.c) = _; rw [HR1.out]), (HSw17d.out.cell 0).trans (by show some (Value.string ⟨s.from_.toArray⟩) = _; rw [HSF.out]), (HPw17d.out.cell 0).trans (by show some (Value.string ⟨p.from_.toArray⟩) = _; rw [HPF.out]), (HSw17d.out.cell 1).trans (by show some (Value.string ⟨s.to_.toArray⟩) = _; rw [HST.out]), (HPw17d.out.cell 1).trans (by show some (Value.string ⟨p.to_.toArray⟩) = _; rw [HPT.out])⟩⟩ (fun hHeld => ?_)
  refine wpAnyH_pure (i := 0) (some 61) (.int .i64 0) (by kernel_rfl) (by kernel_rfl) (by kernel_rfl) (by kernel_rfl) (fun _ _ _ h => h) (by kernel_rfl) (by intro w; kernel_rfl) (by assumption) ?_
  refine wpAnyH_pure (i := 1) (some 62) (.bool true) (by kernel_rfl) (by kernel_rfl) (by kernel_rfl) (by kernel_rfl) (fun _ _ _ h => h) (by kernel_rfl) (by intro w; kernel_rfl) (by assumption) ?_
  refine wpAnyH_pure (i := 2) (some 63) (.bool true) (by kernel_rfl) (by kernel_rfl) (by kernel_rfl) (by kernel_rfl) (fun _ _ _ h => h) (by kernel_rfl) (by intro w; kernel_rfl) (by assumption) ?_
  refine wpAnyH_pure (i := 3) (some 64) (.int .i64 0) (by kernel_rfl) (by kernel_rfl) (by kernel_rfl) (by kernel_rfl) (fun _ _ _ h => h) (by kernel_rfl) (by intro w; kernel_rfl) (by assumption) ?_
  refine wpAnyH_pure (i := 4) (some 65) (.bool true) (by kernel_rfl) (by kernel_rfl) (by kernel_rfl) (by kernel_rfl) (fun _ _ _ h => h) (by kernel_rfl) (by intro w; kernel_rfl) (by assumption) ?_
  refine wpAnyH_pure (i := 5) (some 66) (.bool true) (by kernel_rfl) (by kernel_rfl) (by kernel_rfl) (by kernel_rfl) (fun _ _ _ h => h) (by kernel_rfl) (by intro w; kernel_rfl) (by assumption) ?_
  (try simp only [Act.put, List.setIfInBounds_toArray, List.set_cons_zero, List.set_cons_succ])
  refine wpAnyH_pure (i := 6) (some 67) (.bool true) (by kernel_rfl) (by kernel_rfl) (by kernel_rfl) (by kernel_rfl) (fun _ _ _ h => h) (by kernel_rfl) (by intro w; kernel_rfl) (by assumption) ?_
  refine wpAnyH_loadB (i := 7) (some 68) 50 (.tmp 5) (w5.heap.size) (y.parts) _ (by kernel_rfl) (by kernel_rfl) (by kernel_rfl) (by kernel_rfl) (fun _ _ _ h => h) (by kernel_rfl) (by kernel_rfl) (fun w h => h.1.1) Tryd.underlying50 rfl (by rw [imgInfo, ImageD.parts_length]) (by assumption) ?_
  refine wpAnyH_loadB (i := 8) (some 69) 50 (.tmp 2) (w1.heap.size) (PB) _ (by kernel_rfl) (by kernel_rfl) (by kernel_rfl) (by kernel_rfl) (fun _ _ _ h => h) (by kernel_rfl) (by kernel_rfl) (fun w h => h.1.2.1) Tryd.underlying50 rfl HIPB.out (by assumption) ?_
  refine wpAnyH_call (i := 9) (by kernel_rfl) 16 #[.tmp 68, .tmp 69] #[50, 50] (some 70) (by kernel_rfl) (by kernel_rfl) Tryd.call16 #[.agg (y.parts).toArray, .agg PB.toArray] (by kernel_rfl) (Img_S y HPY.out HYK.out PB HPB.out _ (HOyw17d.out.more HLyw17d.out)) ?_
  rintro r w18 ⟨rfl, hb⟩
  refine ⟨_, rfl, ?_⟩
  have HAw18 := Lib.hid (HAw17d.out.below hb HAw17d.out.lt)
  have HCw18 := Lib.hid (HCw17d.out.below hb HCw17d.out.lt)
  have HPw18 := Lib.hid (HPw17d.out.below hb HPw17d.out.lt)
  have HYw18 := Lib.hid (HYw17d.out.below hb HYw17d.out.lt)
  have HZw18 := Lib.hid (HZw17d.out.below hb HZw17d.out.lt)
  have HQw18 := Lib.hid (HQw17d.out.below hb HQw17d.out.lt)
  have HRw18 := Lib.hid (HRw17d.out.below hb HRw17d.out.lt)
  have HSw18 := Lib.hid (HSw17d.out.below hb HSw17d.out.lt)
  have HUw18 := Lib.hid (HUw17d.out.below hb HUw17d.out.lt)
  have HOpw18 := Lib.hid (HOpw17d.out.below (hb.mono HLpw17d.out)); have HLpw18 := Lib.hid (Nat.le_trans HLpw17d.out hb.size)
  have HOqw18 := Lib.hid (HOqw17d.out.below (hb.mono HLqw17d.out)); have HLqw18 := Lib.hid (Nat.le_trans HLqw17d.out hb.size)
  have HOr1w18 := Lib.hid (HOr1w17d.out.below (hb.mono HLr1w17d.out)); have HLr1w18 := Lib.hid (Nat.le_trans HLr1w17d.out hb.size)
  have HOsw18 := Lib.hid (HOsw17d.out.below (hb.mono HLsw17d.out)); have HLsw18 := Lib.hid (Nat.le_trans HLsw17d.out hb.size)
  have HOtw18 := Lib.hid (HOtw17d.out.below (hb.mono HLtw17d.out)); have HLtw18 := Lib.hid (Nat.le_trans HLtw17d.out hb.size)
  have HOyw18 := Lib.hid (HOyw17d.out.below (hb.mono HLyw17d.out)); have HLyw18 := Lib.hid (Nat.le_trans HLyw17d.out hb.size)
  have HBw18 := Lib.hid (HBw17d.out.trans (hb.mono HBw17d.out.size))
  have HTw18 := Lib.hid (HTB.out.below HBw18.out HTB.out.size)
  clear hb HAw17d HCw17d HPw17d HYw17d HZw17d HQw17d HRw17d HSw17d HUw17d HOpw17d HLpw17d HOqw17d HLqw17d HOr1w17d HLr1w17d HOsw17d HLsw17d HOtw17d HLtw17d HOyw17d HLyw17d HBw17d HTw17d
  refine ⟨⟨⟨HYw18.out.range, HCw18.out.range, HUw18.out.range, HPw18.out.range⟩, ⟨(HQw18.out.cell 2).trans (by show some (Value.slice q.A q.edits.length q.c) = _; rw [HQ1.out]), (HRw18.out.cell 2).trans (by show some (Value.slice r1.A r1.edits.length r1.c) = _; rw [HR1.out]), (HSw18.out.cell 0).trans (by show some (Value.string ⟨s.from_.toArray⟩) = _; rw [HSF.out]), (HPw18.out.cell 0).trans (by show some (Value.string ⟨p.from_.toArray⟩) = _; rw [HPF.out]), (HSw18.out.cell 1).trans (by show some (Value.string ⟨s.to_.toArray⟩) = _; rw [HST.out]), (HPw18.out.cell 1).trans (by show some (Value.string ⟨p.to_.toArray⟩) = _; rw [HPT.out])⟩⟩, fun hHeld => ?_⟩
  refine wpAnyH_pure (i := 10) (some 71) (.bool true) (by kernel_rfl) (by kernel_rfl) (by kernel_rfl) (by kernel_rfl) (fun _ _ _ h => h) (by kernel_rfl) (by intro w; kernel_rfl) (by assumption) ?_
  refine wpAnyH_pure (i := 11) (some 72) (.bool true) (by kernel_rfl) (by kernel_rfl) (by kernel_rfl) (by kernel_rfl) (fun _ _ _ h => h) (by kernel_rfl) (by intro w; kernel_rfl) (by assumption) ?_
  (try simp only [Act.put, List.setIfInBounds_toArray, List.set_cons_zero, List.set_cons_succ])
  refine wpAnyH_pure (i := 12) (some 73) (.int .i64 1) (by kernel_rfl) (by kernel_rfl) (by kernel_rfl) (by kernel_rfl) (fun _ _ _ h => h) (by kernel_rfl) (by intro w; kernel_rfl) (by assumption) ?_
  refine wpAnyH_pure (i := 13) (some 74) (.bool true) (by kernel_rfl) (by kernel_rfl) (by kernel_rfl) (by kernel_rfl) (fun _ _ _ h => h) (by kernel_rfl) (by intro w; kernel_rfl) (by assumption) ?_
  refine wpAnyH_pure (i := 14) (some 75) (.bool true) (by kernel_rfl) (by kernel_rfl) (by kernel_rfl) (by kernel_rfl) (fun _ _ _ h => h) (by kernel_rfl) (by intro w; kernel_rfl) (by assumption) ?_
  refine wpAnyH_pure (i := 15) (some 76) (.bool true) (by kernel_rfl) (by kernel_rfl) (by kernel_rfl) (by kernel_rfl) (fun _ _ _ h => h) (by kernel_rfl) (by intro w; kernel_rfl) (by assumption) ?_
  refine wpAnyH_pure (i := 16) (some 77) (.int .i64 0) (by kernel_rfl) (by kernel_rfl) (by kernel_rfl) (by kernel_rfl) (fun _ _ _ h => h) (by kernel_rfl) (by intro w; kernel_rfl) (by assumption) ?_
  refine wpAnyH_pure (i := 17) (some 78) (.bool true) (by kernel_rfl) (by kernel_rfl) (by kernel_rfl) (by kernel_rfl) (fun _ _ _ h => h) (by kernel_rfl) (by intro w; kernel_rfl) (by assumption) ?_
  (try simp only [Act.put, List.setIfInBounds_toArray, List.set_cons_zero, List.set_cons_succ])
  refine wpAnyH_pure (i := 18) (some 79) (.bool true) (by kernel_rfl) (by kernel_rfl) (by kernel_rfl) (by kernel_rfl) (fun _ _ _ h => h) (by kernel_rfl) (by intro w; kernel_rfl) (by assumption) ?_
  refine wpAnyH_pure (i := 19) (some 80) (.bool true) (by kernel_rfl) (by kernel_rfl) (by kernel_rfl) (by kernel_rfl) (fun _ _ _ h => h) (by kernel_rfl) (by intro w; kernel_rfl) (by assumption) ?_
  refine wpAnyH_pure (i := 20) (some 81) (.pointer (some ⟨w9.heap.size, 2, none⟩)) (by kernel_rfl) (by kernel_rfl) (by kernel_rfl) (by kernel_rfl) (fun _ _ _ h => h) (by kernel_rfl) (by intro w; kernel_rfl) (by assumption) ?_
  (try simp only [Act.put, List.setIfInBounds_toArray, List.set_cons_zero, List.set_cons_succ])
  refine wpAnyH_read (i := 21) (some 82) (.slice q.A 1 q.c) (by kernel_rfl) (by kernel_rfl) (by kernel_rfl) (by kernel_rfl) (fun _ _ _ h => h) (by kernel_rfl) (by intro o ho w hSw; cases ho; (try dsimp only at hSw); go_simp) (by assumption) ?_
  (try simp only [Act.put, List.setIfInBounds_toArray, List.set_cons_zero, List.set_cons_succ])
  refine wpAnyH_pure (i := 22) (some 83) (.int .i64 1) (by kernel_rfl) (by kernel_rfl) (by kernel_rfl) (by kernel_rfl) (fun _ _ _ h => h) (by kernel_rfl) (by intro w; kernel_rfl) (by assumption) ?_
  refine wpAnyH_pure (i := 23) (some 84) (.bool true) (by kernel_rfl) (by kernel_rfl) (by kernel_rfl) (by kernel_rfl) (fun _ _ _ h => h) (by kernel_rfl) (by intro w; kernel_rfl) (by assumption) ?_
  refine wpAnyH_pure (i := 24) (some 85) (.bool true) (by kernel_rfl) (by kernel_rfl) (by kernel_rfl) (by kernel_rfl) (fun _ _ _ h => h) (by kernel_rfl) (by intro w; kernel_rfl) (by assumption) ?_
  refine wpAnyH_pure (i := 25) (some 86) (.bool true) (by kernel_rfl) (by kernel_rfl) (by kernel_rfl) (by kernel_rfl) (fun _ _ _ h => h) (by kernel_rfl) (by intro w; kernel_rfl) (by assumption) ?_
  refine wpAnyH_pure (i := 26) (some 87) (.int .i64 1) (by kernel_rfl) (by kernel_rfl) (by kernel_rfl) (by kernel_rfl) (fun _ _ _ h => h) (by kernel_rfl) (by intro w; kernel_rfl) (by assumption) ?_
  refine wpAnyH_pure (i := 27) (some 88) (.bool true) (by kernel_rfl) (by kernel_rfl) (by kernel_rfl) (by kernel_rfl) (fun _ _ _ h => h) (by kernel_rfl) (by intro w; kernel_rfl) (by assumption) ?_
  (try simp only [Act.put, List.setIfInBounds_toArray, List.set_cons_zero, List.set_cons_succ])
  refine wpAnyH_pure (i := 28) (some 89) (.bool true) (by kernel_rfl) (by kernel_rfl) (by kernel_rfl) (by kernel_rfl) (fun _ _ _ h => h) (by kernel_rfl) (by intro w; kernel_rfl) (by assumption) ?_
  refine wpAnyH_pure (i := 29) (some 90) (.bool true) (by kernel_rfl) (by kernel_rfl) (by kernel_rfl) (by kernel_rfl) (fun _ _ _ h => h) (by kernel_rfl) (by intro w; kernel_rfl) (by assumption) ?_
  refine wpAnyH_pure (i := 30) (some 91) (.pointer (some ⟨w11.heap.size, 2, none⟩)) (by kernel_rfl) (by kernel_rfl) (by kernel_rfl) (by kernel_rfl) (fun _ _ _ h => h) (by kernel_rfl) (by intro w; kernel_rfl) (by assumption) ?_
  (try simp only [Act.put, List.setIfInBounds_toArray, List.set_cons_zero, List.set_cons_succ])
  refine wpAnyH_read (i := 31) (some 92) (.slice r1.A 0 r1.c) (by kernel_rfl) (by kernel_rfl) (by kernel_rfl) (by kernel_rfl) (fun _ _ _ h => h) (by kernel_rfl) (by intro o ho w hSw; cases ho; (try dsimp only at hSw); go_simp) (by assumption) ?_
  (try simp only [Act.put, List.setIfInBounds_toArray, List.set_cons_zero, List.set_cons_succ])
  refine wpAnyH_pure (i := 32) (some 93) (.int .i64 0) (by kernel_rfl) (by kernel_rfl) (by kernel_rfl) (by kernel_rfl) (fun _ _ _ h => h) (by kernel_rfl) (by intro w; kernel_rfl) (by assumption) ?_
  refine wpAnyH_pure (i := 33) (some 94) (.bool true) (by kernel_rfl) (by kernel_rfl) (by kernel_rfl) (by kernel_rfl) (fun _ _ _ h => h) (by kernel_rfl) (by intro w; kernel_rfl) (by assumption) ?_
  refine wpAnyH_pure (i := 34) (some 95) (.bool true) (by kernel_rfl) (by kernel_rfl) (by kernel_rfl) (by kernel_rfl) (fun _ _ _ h => h) (by kernel_rfl) (by intro w; kernel_rfl) (by assumption) ?_
  refine wpAnyH_pure (i := 35) (some 96) (.bool true) (by kernel_rfl) (by kernel_rfl) (by kernel_rfl) (by kernel_rfl) (fun _ _ _ h => h) (by kernel_rfl) (by intro w; kernel_rfl) (by assumption) ?_
  refine wpAnyH_pure (i := 36) (some 97) (.int .i64 0) (by kernel_rfl) (by kernel_rfl) (by kernel_rfl) (by kernel_rfl) (fun _ _ _ h => h) (by kernel_rfl) (by intro w; kernel_rfl) (by assumption) ?_
  refine wpAnyH_pure (i := 37) (some 98) (.bool true) (by kernel_rfl) (by kernel_rfl) (by kernel_rfl) (by kernel_rfl) (fun _ _ _ h => h) (by kernel_rfl) (by intro w; kernel_rfl) (by assumption) ?_
  (try simp only [Act.put, List.setIfInBounds_toArray, List.set_cons_zero, List.set_cons_succ])
  refine wpAnyH_pure (i := 38) (some 99) (.bool true) (by kernel_rfl) (by kernel_rfl) (by kernel_rfl) (by kernel_rfl) (fun _ _ _ h => h) (by kernel_rfl) (by intro w; kernel_rfl) (by assumption) ?_
  refine wpAnyH_pure (i := 39) (some 100) (.bool true) (by kernel_rfl) (by kernel_rfl) (by kernel_rfl) (by kernel_rfl) (fun _ _ _ h => h) (by kernel_rfl) (by intro w; kernel_rfl) (by assumption) ?_
  refine wpAnyH_pure (i := 40) (some 101) (.pointer (some ⟨w13.heap.size, 0, none⟩)) (by kernel_rfl) (by kernel_rfl) (by kernel_rfl) (by kernel_rfl) (fun _ _ _ h => h) (by kernel_rfl) (by intro w; kernel_rfl) (by assumption) ?_
  (try simp only [Act.put, List.setIfInBounds_toArray, List.set_cons_zero, List.set_cons_succ])
  refine wpAnyH_read (i := 41) (some 102) (.string ⟨SF.toArray⟩) (by kernel_rfl) (by kernel_rfl) (by kernel_rfl) (by kernel_rfl) (fun _ _ _ h => h) (by kernel_rfl) (by intro o ho w hSw; cases ho; (try dsimp only at hSw); go_simp) (by assumption) ?_
  (try simp only [Act.put, List.setIfInBounds_toArray, List.set_cons_zero, List.set_cons_succ])
  refine wpAnyH_pure (i := 42) (some 103) (.pointer (some ⟨w3.heap.size, 0, none⟩)) (by kernel_rfl) (by kernel_rfl) (by kernel_rfl) (by kernel_rfl) (fun _ _ _ h => h) (by kernel_rfl) (by intro w; kernel_rfl) (by assumption) ?_
  (try simp only [Act.put, List.setIfInBounds_toArray, List.set_cons_zero, List.set_cons_succ])
  refine wpAnyH_read (i := 43) (some 104) (.string ⟨SF.toArray⟩) (by kernel_rfl) (by kernel_rfl) (by kernel_rfl) (by kernel_rfl) (fun _ _ _ h => h) (by kernel_rfl) (by intro o ho w hSw; cases ho; (try dsimp only at hSw); go_simp) (by assumption) ?_
  (try simp only [Act.put, List.setIfInBounds_toArray, List.set_cons_zero, List.set_cons_succ])
  (try simp only [Act.put, List.setIfInBounds_toArray, List.set_cons_zero, List.set_cons_succ])
  refine wpAnyH_read (i := 44) (some 105) (.bool true) (by kernel_rfl) (by kernel_rfl) (by kernel_rfl) (by kernel_rfl) (fun _ _ _ h => h) (by kernel_rfl) (by intro o ho w hSw; cases ho; (try dsimp only at hSw); go_simp) (by assumption) ?_
  (try simp only [Act.put, List.setIfInBounds_toArray, List.set_cons_zero, List.set_cons_succ])
  refine wpAnyH_pure (i := 45) (some 106) (.bool true) (by kernel_rfl) (by kernel_rfl) (by kernel_rfl) (by kernel_rfl) (fun _ _ _ h => h) (by kernel_rfl) (by intro w; kernel_rfl) (by assumption) ?_
  refine wpAnyH_pure (i := 46) (some 107) (.bool true) (by kernel_rfl) (by kernel_rfl) (by kernel_rfl) (by kernel_rfl) (fun _ _ _ h => h) (by kernel_rfl) (by intro w; kernel_rfl) (by assumption) ?_
  refine wpAnyH_pure (i := 47) (some 108) (.pointer (some ⟨w13.heap.size, 1, none⟩)) (by kernel_rfl) (by kernel_rfl) (by kernel_rfl) (by kernel_rfl) (fun _ _ _ h => h) (by kernel_rfl) (by intro w; kernel_rfl) (by assumption) ?_
  (try simp only [Act.put, List.setIfInBounds_toArray, List.set_cons_zero, List.set_cons_succ])
  refine wpAnyH_read (i := 48) (some 109) (.string ⟨ST.toArray⟩) (by kernel_rfl) (by kernel_rfl) (by kernel_rfl) (by kernel_rfl) (fun _ _ _ h => h) (by kernel_rfl) (by intro o ho w hSw; cases ho; (try dsimp only at hSw); go_simp) (by assumption) ?_
  (try simp only [Act.put, List.setIfInBounds_toArray, List.set_cons_zero, List.set_cons_succ])
  refine wpAnyH_pure (i := 49) (some 110) (.pointer (some ⟨w3.heap.size, 1, none⟩)) (by kernel_rfl) (by kernel_rfl) (by kernel_rfl) (by kernel_rfl) (fun _ _ _ h => h) (by kernel_rfl) (by intro w; kernel_rfl) (by assumption) ?_
  (try simp only [Act.put, List.setIfInBounds_toArray, List.set_cons_zero, List.set_cons_succ])
  refine wpAnyH_read (i := 50) (some 111) (.string ⟨ST.toArray⟩) (by kernel_rfl) (by kernel_rfl) (by kernel_rfl) (by kernel_rfl) (fun _ _ _ h => h) (by kernel_rfl) (by intro o ho w hSw; cases ho; (try dsimp only at hSw); go_simp) (by assumption) ?_
  (try simp only [Act.put, List.setIfInBounds_toArray, List.set_cons_zero, List.set_cons_succ])
  (try simp only [Act.put, List.setIfInBounds_toArray, List.set_cons_zero, List.set_cons_succ])
  refine wpAnyH_read (i := 51) (some 112) (.bool true) (by kernel_rfl) (by kernel_rfl) (by kernel_rfl) (by kernel_rfl) (fun _ _ _ h => h) (by kernel_rfl) (by intro o ho w hSw; cases ho; (try dsimp only at hSw); go_simp) (by assumption) ?_
  (try simp only [Act.put, List.setIfInBounds_toArray, List.set_cons_zero, List.set_cons_succ])
  refine wpAnyH_pure (i := 52) (some 113) (.bool true) (by kernel_rfl) (by kernel_rfl) (by kernel_rfl) (by kernel_rfl) (fun _ _ _ h => h) (by kernel_rfl) (by intro w; kernel_rfl) (by assumption) ?_
  refine wpAnyH_pure (i := 53) (some 114) (.bool true) (by kernel_rfl) (by kernel_rfl) (by kernel_rfl) (by kernel_rfl) (fun _ _ _ h => h) (by kernel_rfl) (by intro w; kernel_rfl) (by assumption) ?_
  refine wpAnyH_pure (i := 54) (some 115) (.bool true) (by kernel_rfl) (by kernel_rfl) (by kernel_rfl) (by kernel_rfl) (fun _ _ _ h => h) (by kernel_rfl) (by intro w; kernel_rfl) (by assumption) ?_
  refine wpAnyH_pure (i := 55) (some 116) (.bool true) (by kernel_rfl) (by kernel_rfl) (by kernel_rfl) (by kernel_rfl) (fun _ _ _ h => h) (by kernel_rfl) (by intro w; kernel_rfl) (by assumption) ?_
  refine wpAnyH_pure (i := 56) (some 117) (.bool true) (by kernel_rfl) (by kernel_rfl) (by kernel_rfl) (by kernel_rfl) (fun _ _ _ h => h) (by kernel_rfl) (by intro w; kernel_rfl) (by assumption) ?_
  refine wpAnyH_loadB (i := 57) (some 118) 24 (.tmp 15) (w16.heap.size) (t.parts) _ (by kernel_rfl) (by kernel_rfl) (by kernel_rfl) (by kernel_rfl) (fun _ _ _ h => h) (by kernel_rfl) (by kernel_rfl) (fun w h => h.1.2.2.1) Tryd.underlying24 rfl (patchInfo t) (by assumption) ?_
  (try simp only [Act.put, List.setIfInBounds_toArray, List.set_cons_zero, List.set_cons_succ])
  refine wpAnyH_loadB (i := 58) (some 119) 24 (.tmp 3) (w3.heap.size) (p.parts) _ (by kernel_rfl) (by kernel_rfl) (by kernel_rfl) (by kernel_rfl) (fun _ _ _ h => h) (by kernel_rfl) (by kernel_rfl) (fun w h => h.1.2.2.2) Tryd.underlying24 rfl (patchInfo p) (by assumption) ?_
  refine wpAnyH_call (i := 59) (by kernel_rfl) 10 #[.tmp 118, .tmp 119] #[24, 24] (some 120) (by kernel_rfl) (by kernel_rfl) Tryd.call10 #[.agg (t.parts).toArray, .agg (p.parts).toArray] (by kernel_rfl) (Same_S t p HDt.out HDp.out _ (HOtw18.out.more HLtw18.out) (HOpw18.out.more HLpw18.out)) ?_
  rintro r w19 ⟨rfl, hb⟩
  refine ⟨_, rfl, ?_⟩
  have HAw19 := Lib.hid (HAw18.out.below hb HAw18.out.lt)
  have HCw19 := Lib.hid (HCw18.out.below hb HCw18.out.lt)
  have HPw19 := Lib.hid (HPw18.out.below hb HPw18.out.lt)
  have HYw19 := Lib.hid (HYw18.out.below hb HYw18.out.lt)
  have HZw19 := Lib.hid (HZw18.out.below hb HZw18.out.lt)
  have HQw19 := Lib.hid (HQw18.out.below hb HQw18.out.lt)
  have HRw19 := Lib.hid (HRw18.out.below hb HRw18.out.lt)
  have HSw19 := Lib.hid (HSw18.out.below hb HSw18.out.lt)
  have HUw19 := Lib.hid (HUw18.out.below hb HUw18.out.lt)
  have HOpw19 := Lib.hid (HOpw18.out.below (hb.mono HLpw18.out)); have HLpw19 := Lib.hid (Nat.le_trans HLpw18.out hb.size)
  have HOqw19 := Lib.hid (HOqw18.out.below (hb.mono HLqw18.out)); have HLqw19 := Lib.hid (Nat.le_trans HLqw18.out hb.size)
  have HOr1w19 := Lib.hid (HOr1w18.out.below (hb.mono HLr1w18.out)); have HLr1w19 := Lib.hid (Nat.le_trans HLr1w18.out hb.size)
  have HOsw19 := Lib.hid (HOsw18.out.below (hb.mono HLsw18.out)); have HLsw19 := Lib.hid (Nat.le_trans HLsw18.out hb.size)
  have HOtw19 := Lib.hid (HOtw18.out.below (hb.mono HLtw18.out)); have HLtw19 := Lib.hid (Nat.le_trans HLtw18.out hb.size)
  have HOyw19 := Lib.hid (HOyw18.out.below (hb.mono HLyw18.out)); have HLyw19 := Lib.hid (Nat.le_trans HLyw18.out hb.size)
  have HBw19 := Lib.hid (HBw18.out.trans (hb.mono HBw18.out.size))
  have HTw19 := Lib.hid (HTB.out.below HBw19.out HTB.out.size)
  clear hb HAw18 HCw18 HPw18 HYw18 HZw18 HQw18 HRw18 HSw18 HUw18 HOpw18 HLpw18 HOqw18 HLqw18 HOr1w18 HLr1w18 HOsw18 HLsw18 HOtw18 HLtw18 HOyw18 HLyw18 HBw18 HTw18
  refine ⟨⟨⟨HYw19.out.range, HCw19.out.range, HUw19.out.range, HPw19.out.range⟩, ⟨(HQw19.out.cell 2).trans (by show some (Value.slice q.A q.edits.length q.c) = _; rw [HQ1.out]), (HRw19.out.cell 2).trans (by show some (Value.slice r1.A r1.edits.length r1.c) = _; rw [HR1.out]), (HSw19.out.cell 0).trans (by show some (Value.string ⟨s.from_.toArray⟩) = _; rw [HSF.out]), (HPw19.out.cell 0).trans (by show some (Value.string ⟨p.from_.toArray⟩) = _; rw [HPF.out]), (HSw19.out.cell 1).trans (by show some (Value.string ⟨s.to_.toArray⟩) = _; rw [HST.out]), (HPw19.out.cell 1).trans (by show some (Value.string ⟨p.to_.toArray⟩) = _; rw [HPT.out])⟩⟩, fun hHeld => ?_⟩
  refine wpAnyH_pure (i := 60) (some 121) (.bool true) (by kernel_rfl) (by kernel_rfl) (by kernel_rfl) (by kernel_rfl) (fun _ _ _ h => h) (by kernel_rfl) (by intro w; kernel_rfl) (by assumption) ?_
  refine wpAnyH_pure (i := 61) (some 122) (.bool true) (by kernel_rfl) (by kernel_rfl) (by kernel_rfl) (by kernel_rfl) (fun _ _ _ h => h) (by kernel_rfl) (by intro w; kernel_rfl) (by assumption) ?_
  refine wpAnyH_loadB (i := 62) (some 123) 24 (.tmp 3) (w3.heap.size) (p.parts) _ (by kernel_rfl) (by kernel_rfl) (by kernel_rfl) (by kernel_rfl) (fun _ _ _ h => h) (by kernel_rfl) (by kernel_rfl) (fun w h => h.1.2.2.2) Tryd.underlying24 rfl (patchInfo p) (by assumption) ?_
  refine wpAnyH_call (i := 63) (by kernel_rfl) 18 #[.tmp 123] #[24] (some 124) (by kernel_rfl) (by kernel_rfl) Tryd.call18 #[.agg (p.parts).toArray] (by kernel_rfl) (Right_S p HDp.out _ (HOpw19.out.more HLpw19.out)) ?_
  rintro r w20 ⟨rfl, hb⟩
  refine ⟨_, rfl, ?_⟩
  have HAw20 := Lib.hid (HAw19.out.below hb HAw19.out.lt)
  have HCw20 := Lib.hid (HCw19.out.below hb HCw19.out.lt)
  have HPw20 := Lib.hid (HPw19.out.below hb HPw19.out.lt)
  have HYw20 := Lib.hid (HYw19.out.below hb HYw19.out.lt)
  have HZw20 := Lib.hid (HZw19.out.below hb HZw19.out.lt)
  have HQw20 := Lib.hid (HQw19.out.below hb HQw19.out.lt)
  have HRw20 := Lib.hid (HRw19.out.below hb HRw19.out.lt)
  have HSw20 := Lib.hid (HSw19.out.below hb HSw19.out.lt)
  have HUw20 := Lib.hid (HUw19.out.below hb HUw19.out.lt)
  have HOpw20 := Lib.hid (HOpw19.out.below (hb.mono HLpw19.out)); have HLpw20 := Lib.hid (Nat.le_trans HLpw19.out hb.size)
  have HOqw20 := Lib.hid (HOqw19.out.below (hb.mono HLqw19.out)); have HLqw20 := Lib.hid (Nat.le_trans HLqw19.out hb.size)
  have HOr1w20 := Lib.hid (HOr1w19.out.below (hb.mono HLr1w19.out)); have HLr1w20 := Lib.hid (Nat.le_trans HLr1w19.out hb.size)
  have HOsw20 := Lib.hid (HOsw19.out.below (hb.mono HLsw19.out)); have HLsw20 := Lib.hid (Nat.le_trans HLsw19.out hb.size)
  have HOtw20 := Lib.hid (HOtw19.out.below (hb.mono HLtw19.out)); have HLtw20 := Lib.hid (Nat.le_trans HLtw19.out hb.size)
  have HOyw20 := Lib.hid (HOyw19.out.below (hb.mono HLyw19.out)); have HLyw20 := Lib.hid (Nat.le_trans HLyw19.out hb.size)
  have HBw20 := Lib.hid (HBw19.out.trans (hb.mono HBw19.out.size))
  have HTw20 := Lib.hid (HTB.out.below HBw20.out HTB.out.size)
  clear hb HAw19 HCw19 HPw19 HYw19 HZw19 HQw19 HRw19 HSw19 HUw19 HOpw19 HLpw19 HOqw19 HLqw19 HOr1w19 HLr1w19 HOsw19 HLsw19 HOtw19 HLtw19 HOyw19 HLyw19 HBw19 HTw19
  refine ⟨⟨⟨HYw20.out.range, HCw20.out.range, HUw20.out.range, HPw20.out.range⟩, ⟨(HQw20.out.cell 2).trans (by show some (Value.slice q.A q.edits.length q.c) = _; rw [HQ1.out]), (HRw20.out.cell 2).trans (by show some (Value.slice r1.A r1.edits.length r1.c) = _; rw [HR1.out]), (HSw20.out.cell 0).trans (by show some (Value.string ⟨s.from_.toArray⟩) = _; rw [HSF.out]), (HPw20.out.cell 0).trans (by show some (Value.string ⟨p.from_.toArray⟩) = _; rw [HPF.out]), (HSw20.out.cell 1).trans (by show some (Value.string ⟨s.to_.toArray⟩) = _; rw [HST.out]), (HPw20.out.cell 1).trans (by show some (Value.string ⟨p.to_.toArray⟩) = _; rw [HPT.out])⟩⟩, fun hHeld => ?_⟩
  (try simp only [Act.put, List.setIfInBounds_toArray, List.set_cons_zero, List.set_cons_succ])
  refine wpAnyH_pure (i := 64) (some 125) (.bool true) (by kernel_rfl) (by kernel_rfl) (by kernel_rfl) (by kernel_rfl) (fun _ _ _ h => h) (by kernel_rfl) (by intro w; kernel_rfl) (by assumption) ?_
  refine wpAnyH_pure (i := 65) (some 126) (.bool true) (by kernel_rfl) (by kernel_rfl) (by kernel_rfl) (by kernel_rfl) (fun _ _ _ h => h) (by kernel_rfl) (by intro w; kernel_rfl) (by assumption) ?_
  refine wpAnyH_pure (i := 66) (some 127) (.agg #[.string ⟨#[]⟩, .string ⟨#[]⟩, .slice none 0 0]) (by kernel_rfl) (by kernel_rfl) (by kernel_rfl) (by kernel_rfl) (fun _ _ _ h => h) (by kernel_rfl) (by intro w; kernel_rfl) (by assumption) ?_
  refine wpAnyH_call (i := 67) (by kernel_rfl) 18 #[.tmp 127] #[24] (some 128) (by kernel_rfl) (by kernel_rfl) Tryd.call18 #[.agg #[.string ⟨#[]⟩, .string ⟨#[]⟩, .slice none 0 0]] (by kernel_rfl) (Right_N _) ?_
  rintro r w21 ⟨rfl, hb⟩
  refine ⟨_, rfl, ?_⟩
  have HAw21 := Lib.hid (HAw20.out.below hb HAw20.out.lt)
  have HCw21 := Lib.hid (HCw20.out.below hb HCw20.out.lt)
  have HPw21 := Lib.hid (HPw20.out.below hb HPw20.out.lt)
  have HYw21 := Lib.hid (HYw20.out.below hb HYw20.out.lt)
  have HZw21 := Lib.hid (HZw20.out.below hb HZw20.out.lt)
  have HQw21 := Lib.hid (HQw20.out.below hb HQw20.out.lt)
  have HRw21 := Lib.hid (HRw20.out.below hb HRw20.out.lt)
  have HSw21 := Lib.hid (HSw20.out.below hb HSw20.out.lt)
  have HUw21 := Lib.hid (HUw20.out.below hb HUw20.out.lt)
  have HOpw21 := Lib.hid (HOpw20.out.below (hb.mono HLpw20.out)); have HLpw21 := Lib.hid (Nat.le_trans HLpw20.out hb.size)
  have HOqw21 := Lib.hid (HOqw20.out.below (hb.mono HLqw20.out)); have HLqw21 := Lib.hid (Nat.le_trans HLqw20.out hb.size)
  have HOr1w21 := Lib.hid (HOr1w20.out.below (hb.mono HLr1w20.out)); have HLr1w21 := Lib.hid (Nat.le_trans HLr1w20.out hb.size)
  have HOsw21 := Lib.hid (HOsw20.out.below (hb.mono HLsw20.out)); have HLsw21 := Lib.hid (Nat.le_trans HLsw20.out hb.size)
  have HOtw21 := Lib.hid (HOtw20.out.below (hb.mono HLtw20.out)); have HLtw21 := Lib.hid (Nat.le_trans HLtw20.out hb.size)
  have HOyw21 := Lib.hid (HOyw20.out.below (hb.mono HLyw20.out)); have HLyw21 := Lib.hid (Nat.le_trans HLyw20.out hb.size)
  have HBw21 := Lib.hid (HBw20.out.trans (hb.mono HBw20.out.size))
  have HTw21 := Lib.hid (HTB.out.below HBw21.out HTB.out.size)
  clear hb HAw20 HCw20 HPw20 HYw20 HZw20 HQw20 HRw20 HSw20 HUw20 HOpw20 HLpw20 HOqw20 HLqw20 HOr1w20 HLr1w20 HOsw20 HLsw20 HOtw20 HLtw20 HOyw20 HLyw20 HBw20 HTw20
  refine ⟨⟨⟨HYw21.out.range, HCw21.out.range, HUw21.out.range, HPw21.out.range⟩, ⟨(HQw21.out.cell 2).trans (by show some (Value.slice q.A q.edits.length q.c) = _; rw [HQ1.out]), (HRw21.out.cell 2).trans (by show some (Value.slice r1.A r1.edits.length r1.c) = _; rw [HR1.out]), (HSw21.out.cell 0).trans (by show some (Value.string ⟨s.from_.toArray⟩) = _; rw [HSF.out]), (HPw21.out.cell 0).trans (by show some (Value.string ⟨p.from_.toArray⟩) = _; rw [HPF.out]), (HSw21.out.cell 1).trans (by show some (Value.string ⟨s.to_.toArray⟩) = _; rw [HST.out]), (HPw21.out.cell 1).trans (by show some (Value.string ⟨p.to_.toArray⟩) = _; rw [HPT.out])⟩⟩, fun hHeld => ?_⟩
  refine wpAnyH_pure (i := 68) (some 129) (.bool true) (by kernel_rfl) (by kernel_rfl) (by kernel_rfl) (by kernel_rfl) (fun _ _ _ h => h) (by kernel_rfl) (by intro w; kernel_rfl) (by assumption) ?_
  refine wpAnyH_pure (i := 69) (some 130) (.bool true) (by kernel_rfl) (by kernel_rfl) (by kernel_rfl) (by kernel_rfl) (fun _ _ _ h => h) (by kernel_rfl) (by intro w; kernel_rfl) (by assumption) ?_
  (try simp only [Act.put, List.setIfInBounds_toArray, List.set_cons_zero, List.set_cons_succ])
  refine wpAnyH_pure (i := 70) (some 131) (.bool true) (by kernel_rfl) (by kernel_rfl) (by kernel_rfl) (by kernel_rfl) (fun _ _ _ h => h) (by kernel_rfl) (by intro w; kernel_rfl) (by assumption) ?_
  refine wpAnyH_loadB (i := 71) (some 132) 24 (.tmp 3) (w3.heap.size) (p.parts) _ (by kernel_rfl) (by kernel_rfl) (by kernel_rfl) (by kernel_rfl) (fun _ _ _ h => h) (by kernel_rfl) (by kernel_rfl) (fun w h => h.1.2.2.2) Tryd.underlying24 rfl (patchInfo p) (by assumption) ?_
  refine wpAnyH_loadB (i := 73) (some 134) 24 (.tmp 3) (w3.heap.size) (p.parts) _ (by kernel_rfl) (by kernel_rfl) (by kernel_rfl) (by kernel_rfl) (fun _ _ _ h => h) (by kernel_rfl) (by kernel_rfl) (fun w h => h.1.2.2.2) Tryd.underlying24 rfl (patchInfo p) (by assumption) ?_
  refine wpAnyH_call (i := 72) (by kernel_rfl) 11 #[.tmp 132] #[24] (some 133) (by kernel_rfl) (by kernel_rfl) Tryd.call11 #[.agg (p.parts).toArray] (by kernel_rfl) (Size_S WP HWP.out p HDp.out _ (HOpw21.out.more HLpw21.out)) ?_
  rintro r w22 ⟨rfl, hb⟩
  refine ⟨_, rfl, ?_⟩
  have HAw22 := Lib.hid (HAw21.out.below hb HAw21.out.lt)
  have HCw22 := Lib.hid (HCw21.out.below hb HCw21.out.lt)
  have HPw22 := Lib.hid (HPw21.out.below hb HPw21.out.lt)
  have HYw22 := Lib.hid (HYw21.out.below hb HYw21.out.lt)
  have HZw22 := Lib.hid (HZw21.out.below hb HZw21.out.lt)
  have HQw22 := Lib.hid (HQw21.out.below hb HQw21.out.lt)
  have HRw22 := Lib.hid (HRw21.out.below hb HRw21.out.lt)
  have HSw22 := Lib.hid (HSw21.out.below hb HSw21.out.lt)
  have HUw22 := Lib.hid (HUw21.out.below hb HUw21.out.lt)
  have HOpw22 := Lib.hid (HOpw21.out.below (hb.mono HLpw21.out)); have HLpw22 := Lib.hid (Nat.le_trans HLpw21.out hb.size)
  have HOqw22 := Lib.hid (HOqw21.out.below (hb.mono HLqw21.out)); have HLqw22 := Lib.hid (Nat.le_trans HLqw21.out hb.size)
  have HOr1w22 := Lib.hid (HOr1w21.out.below (hb.mono HLr1w21.out)); have HLr1w22 := Lib.hid (Nat.le_trans HLr1w21.out hb.size)
  have HOsw22 := Lib.hid (HOsw21.out.below (hb.mono HLsw21.out)); have HLsw22 := Lib.hid (Nat.le_trans HLsw21.out hb.size)
  have HOtw22 := Lib.hid (HOtw21.out.below (hb.mono HLtw21.out)); have HLtw22 := Lib.hid (Nat.le_trans HLtw21.out hb.size)
  have HOyw22 := Lib.hid (HOyw21.out.below (hb.mono HLyw21.out)); have HLyw22 := Lib.hid (Nat.le_trans HLyw21.out hb.size)
  have HBw22 := Lib.hid (HBw21.out.trans (hb.mono HBw21.out.size))
  have HTw22 := Lib.hid (HTB.out.below HBw22.out HTB.out.size)
  clear hb HAw21 HCw21 HPw21 HYw21 HZw21 HQw21 HRw21 HSw21 HUw21 HOpw21 HLpw21 HOqw21 HLqw21 HOr1w21 HLr1w21 HOsw21 HLsw21 HOtw21 HLtw21 HOyw21 HLyw21 HBw21 HTw21
  refine ⟨⟨⟨HYw22.out.range, HCw22.out.range, HUw22.out.range, HPw22.out.range⟩, ⟨(HQw22.out.cell 2).trans (by show some (Value.slice q.A q.edits.length q.c) = _; rw [HQ1.out]), (HRw22.out.cell 2).trans (by show some (Value.slice r1.A r1.edits.length r1.c) = _; rw [HR1.out]), (HSw22.out.cell 0).trans (by show some (Value.string ⟨s.from_.toArray⟩) = _; rw [HSF.out]), (HPw22.out.cell 0).trans (by show some (Value.string ⟨p.from_.toArray⟩) = _; rw [HPF.out]), (HSw22.out.cell 1).trans (by show some (Value.string ⟨s.to_.toArray⟩) = _; rw [HST.out]), (HPw22.out.cell 1).trans (by show some (Value.string ⟨p.to_.toArray⟩) = _; rw [HPT.out])⟩⟩, fun hHeld => ?_⟩
  refine wpAnyH_call (i := 74) (by kernel_rfl) 8 #[.tmp 134] #[24] (some 135) (by kernel_rfl) (by kernel_rfl) Tryd.call8 #[.agg (p.parts).toArray] (by kernel_rfl) (Bytes_S WP HWP.out p HDp.out w3.heap.size _ HOpw22.out HLpw22.out) ?_
  rintro r w23 ⟨rfl, hb⟩
  refine ⟨_, rfl, ?_⟩
  have HAw23 := Lib.hid (HAw22.out.below hb HAw22.out.lt)
  have HCw23 := Lib.hid (HCw22.out.below hb HCw22.out.lt)
  have HPw23 := Lib.hid (HPw22.out.below hb HPw22.out.lt)
  have HYw23 := Lib.hid (HYw22.out.below hb HYw22.out.lt)
  have HZw23 := Lib.hid (HZw22.out.below hb HZw22.out.lt)
  have HQw23 := Lib.hid (HQw22.out.below hb HQw22.out.lt)
  have HRw23 := Lib.hid (HRw22.out.below hb HRw22.out.lt)
  have HSw23 := Lib.hid (HSw22.out.below hb HSw22.out.lt)
  have HUw23 := Lib.hid (HUw22.out.below hb HUw22.out.lt)
  have HOpw23 := Lib.hid (HOpw22.out.below (hb.mono HLpw22.out)); have HLpw23 := Lib.hid (Nat.le_trans HLpw22.out hb.size)
  have HOqw23 := Lib.hid (HOqw22.out.below (hb.mono HLqw22.out)); have HLqw23 := Lib.hid (Nat.le_trans HLqw22.out hb.size)
  have HOr1w23 := Lib.hid (HOr1w22.out.below (hb.mono HLr1w22.out)); have HLr1w23 := Lib.hid (Nat.le_trans HLr1w22.out hb.size)
  have HOsw23 := Lib.hid (HOsw22.out.below (hb.mono HLsw22.out)); have HLsw23 := Lib.hid (Nat.le_trans HLsw22.out hb.size)
  have HOtw23 := Lib.hid (HOtw22.out.below (hb.mono HLtw22.out)); have HLtw23 := Lib.hid (Nat.le_trans HLtw22.out hb.size)
  have HOyw23 := Lib.hid (HOyw22.out.below (hb.mono HLyw22.out)); have HLyw23 := Lib.hid (Nat.le_trans HLyw22.out hb.size)
  have HBw23 := Lib.hid (HBw22.out.trans (hb.mono HBw22.out.size))
  have HTw23 := Lib.hid (HTB.out.below HBw23.out HTB.out.size)
  clear hb HAw22 HCw22 HPw22 HYw22 HZw22 HQw22 HRw22 HSw22 HUw22 HOpw22 HLpw22 HOqw22 HLqw22 HOr1w22 HLr1w22 HOsw22 HLsw22 HOtw22 HLtw22 HOyw22 HLyw22 HBw22 HTw22
  refine ⟨⟨⟨HYw23.out.range, HCw23.out.range, HUw23.out.range, HPw23.out.range⟩, ⟨(HQw23.out.cell 2).trans (by show some (Value.slice q.A q.edits.length q.c) = _; rw [HQ1.out]), (HRw23.out.cell 2).trans (by show some (Value.slice r1.A r1.edits.length r1.c) = _; rw [HR1.out]), (HSw23.out.cell 0).trans (by show some (Value.string ⟨s.from_.toArray⟩) = _; rw [HSF.out]), (HPw23.out.cell 0).trans (by show some (Value.string ⟨p.from_.toArray⟩) = _; rw [HPF.out]), (HSw23.out.cell 1).trans (by show some (Value.string ⟨s.to_.toArray⟩) = _; rw [HST.out]), (HPw23.out.cell 1).trans (by show some (Value.string ⟨p.to_.toArray⟩) = _; rw [HPT.out])⟩⟩, fun hHeld => ?_⟩
  (try simp only [Act.put, List.setIfInBounds_toArray, List.set_cons_zero, List.set_cons_succ])
  refine wpAnyH_read (i := 75) (some 136) (.int .i64 (WP.length : Int)) (by kernel_rfl) (by kernel_rfl) (by kernel_rfl) (by kernel_rfl) (fun _ _ _ h => h) (by kernel_rfl) (by intro o ho w hSw; cases ho; (try dsimp only at hSw); go_simp) (by assumption) ?_
  (try simp only [Act.put, List.setIfInBounds_toArray, List.set_cons_zero, List.set_cons_succ])
  (try simp only [Act.put, List.setIfInBounds_toArray, List.set_cons_zero, List.set_cons_succ])
  refine wpAnyH_read (i := 76) (some 137) (.bool true) (by kernel_rfl) (by kernel_rfl) (by kernel_rfl) (by kernel_rfl) (fun _ _ _ h => h) (by kernel_rfl) (by intro o ho w hSw; cases ho; (try dsimp only at hSw); go_simp) (by assumption) ?_
  (try simp only [Act.put, List.setIfInBounds_toArray, List.set_cons_zero, List.set_cons_succ])
  refine wpAnyH_pure (i := 77) (some 138) (.bool true) (by kernel_rfl) (by kernel_rfl) (by kernel_rfl) (by kernel_rfl) (fun _ _ _ h => h) (by kernel_rfl) (by intro w; kernel_rfl) (by assumption) ?_
  (try simp only [Act.put, List.setIfInBounds_toArray, List.set_cons_zero, List.set_cons_succ])
  refine wpAnyH_pure (i := 78) (some 0) (.bool true) (by kernel_rfl) (by kernel_rfl) (by kernel_rfl) (by kernel_rfl) (fun _ _ _ h => h) (by kernel_rfl) (by intro w; kernel_rfl) (by assumption) ?_
  (try simp only [Act.put, List.setIfInBounds_toArray, List.set_cons_zero, List.set_cons_succ])
  (try simp only [Act.put, List.setIfInBounds_toArray, List.set_cons_zero, List.set_cons_succ])
  refine wpAnyH_done (by kernel_rfl) ?_ _
  go_wp2
  go_ret
  exact ⟨rfl, HBw23.out⟩

end Go.Proofs.YtefgajipakjpeaaDoor
