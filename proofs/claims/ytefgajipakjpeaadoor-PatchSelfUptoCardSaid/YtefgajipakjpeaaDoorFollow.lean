/-
  Contract of patch.maker.follow. Conditions: those in its own statement.
-/
import Derived.Test.YtefgajipakjpeaaDoorFol
namespace Go.Proofs.YtefgajipakjpeaaDoor
open Go.RowKit

theorem MKat.writeB {B b : Nat} {es : List EditD} {acc : List UInt8} {w : World} (h : MKat B b es acc w) (l : List UInt8) (s : ByteArray) (hs : s = ⟨l.toArray⟩) (hl : acc.length + l.length ≤ 70368744177664) (hBw : B ≤ w.heap.size) :
    Calls Tryd.prog 21 #[.pointer (some ⟨b, 1, none⟩), .string s] w fun e w' => e = .returned (.tuple #[.int .i64 l.length, .nilIface]) ∧ MKat B b es (acc ++ l) w' ∧ Below B w w' := by
  subst hs
  exact h.write l hl hBw

/-- What follow leaves. -/
def FollowPost (B b : Nat) (w : World) (R : Bool × (List EditD × List UInt8)) (e : Ending) (w' : World) : Prop :=
  e = .returned (.bool R.1) ∧ MKat B b R.2.1 R.2.2 w' ∧ Below B w w'

set_option maxHeartbeats 8000000 in
set_option maxRecDepth 100000 in
theorem follow_any {B b : Nat} (l es : List EditD) (acc : List UInt8) (A : Option Addr) (c : Nat) (T f s : Int) (w : World) (h : MKat B b es acc w) (hBw : B ≤ w.heap.size) (hr : Reads w B 3 A l.length (l.flatMap EditD.parts))
    (hle : l.length ≤ 1000000) (hre : ∀ e ∈ l, rightEB e = true) (hmk : MkOk T es acc) (hf0 : 0 ≤ f) (hf1 : f ≤ 16777216) (hs : 1 ≤ s) (hT : T + s ≤ 16777216) :
    Calls Tryd.prog 38 #[.pointer (some ⟨b, 0, none⟩), .slice A l.length c, .int .i64 f, .int .i64 s] w (FollowPost B b w (followL l es acc f s)) := by
  have HR := Lib.hid hr
  have HRE := Lib.hid hre
  have hT0 := hmk.nonneg
  have HMK := Lib.hid hmk
  have HM := Lib.hid h
  unfold FollowPost
  obtain ⟨RES, hRES⟩ : ∃ R, followL l es acc f s = R := ⟨_, rfl⟩
  rw [hRES]
  have HRES : Hid (RES = followL (l.drop 0) es acc f s) := Lib.hid (by rw [List.drop_zero]; exact hRES.symm)
  clear hRES hr hre hmk h
  go_enter Tryd.func38, Tryd.ntmps38
  go_wp2_with fail
  go_loopw [2, 3, 15] (fun vf vs vi wr => ∃ (i : Nat) (f' s' T' : Int) (es' : List EditD) (acc' : List UInt8), vi = .int .i64 i ∧ vf = .int .i64 f' ∧ vs = .int .i64 s' ∧ i ≤ l.length ∧ Hid (RES = followL (l.drop i) es' acc' f' s') ∧ Hid (MkOk T' es' acc') ∧ 0 ≤ T' ∧ T' + s' ≤ 16777216 ∧ 1 ≤ s' ∧ 0 ≤ f' ∧ f' ≤ 16777216 ∧ Hid (MKat B b es' acc' wr) ∧ Hid (Below B w wr)) (fun _ _ vi _ => l.length - (intOf vi).toNat)
  case atStart => exact ⟨0, f, s, T, es, acc, rfl, rfl, rfl, Nat.zero_le _, HRES, HMK, hT0, hT, hs, hf0, hf1, HM, Below.refl _ _⟩
  case round =>
    clear HRES HMK HM hf0 hf1 hs hT hT0
    obtain ⟨i, f', s', T', es', acc', rfl, rfl, rfl, hi, HRES, HMK, hT0, hT, hs, hf0, hf1, HM, HB⟩ := hrel
    by_cases hil : i < l.length
    · obtain ⟨bb, off, hA, _, d0, d1, d2⟩ := cells_of_edit (HR.out.below HB.out) hil
      have HD := Lib.hid (List.drop_eq_getElem_cons hil)
      have HE := Lib.hid (HRE.out _ (List.getElem_mem hil))
      rw [HD.out] at HRES
      generalize l[i]'hil = e at d0 d1 d2 HE HRES
      have HLE := Lib.hid (length_any e)
      have HCP := Lib.hid (copied_any e)
      have HMO := Lib.hid (fun f part hf hp hl => folMk_ok (f := f) (part := part) HMK.out HE.out hf hp hl)
      have HEC := Lib.hid (rightE_cases HE.out)
      have hl1 := (rightE_EOk HE.out).len
      have hl2 : lenI e ≤ 16777216 := by
        rcases HEC.out with ⟨a, b, c, d, g, k⟩ | ⟨a, b, c, d, g⟩ <;> omega
      obtain ⟨ef, ez, et⟩ := e
      simp only at d0 d1 d2
      simp only [EditD.parts] at HLE HCP
      have HBA := Lib.hid (HB.out.alloc (Nat.le_trans hBw HB.out.size) (.cells #[.int .i64 ef, .int .i64 ez, .string ⟨et.toArray⟩] 56))
      have HXA := Lib.hid (Blk.new wr 56 #[.int .i64 ef, .int .i64 ez, .string ⟨et.toArray⟩])
      have HMA := Lib.hid (HM.out.alloc (.cells #[.int .i64 ef, .int .i64 ez, .string ⟨et.toArray⟩] 56))
      have hxb : b < wr.heap.size := HM.out.lt
      have hlw := Nat.le_trans hBw HB.out.size
      rw [hA]
      clear hA HM HB HD
      have HF : Hid (followL (⟨ef, ez, et⟩ :: l.drop (i + 1)) es' acc' f' s' = if lenI ⟨ef, ez, et⟩ ≤ f' then followL (l.drop (i + 1)) es' acc' (f' - lenI ⟨ef, ez, et⟩) s' else if s' - min s' (lenI ⟨ef, ez, et⟩ - f') = 0 then (true, folMk ⟨ef, ez, et⟩ es' acc' f' (min s' (lenI ⟨ef, ez, et⟩ - f'))) else followL (l.drop (i + 1)) (folMk ⟨ef, ez, et⟩ es' acc' f' (min s' (lenI ⟨ef, ez, et⟩ - f'))).1 (folMk ⟨ef, ez, et⟩ es' acc' f' (min s' (lenI ⟨ef, ez, et⟩ - f'))).2 0 (s' - min s' (lenI ⟨ef, ez, et⟩ - f'))) := rfl
      rw [HF.out] at HRES
      clear HF
      obtain ⟨n, hn⟩ : ∃ n, lenI ⟨ef, ez, et⟩ = n := ⟨_, rfl⟩
      rw [hn] at HRES HLE HMO HEC hl1 hl2
      clear hn HE
      go_wp2_with fail
      refine (HLE.out _).mono ?_
      rintro r w1 ⟨rfl, hb1⟩
      have HB1 := Lib.hid (HBA.out.trans (hb1.mono (Nat.le_trans hBw HBA.out.size)))
      have HX1 := Lib.hid (HXA.out.below hb1 HXA.out.lt)
      have HM1 := Lib.hid (HMA.out.keep hb1)
      clear hb1 HBA HXA HMA HLE
      have hlw1 := HB1.out.size
      have e0 : w1.cell? ⟨wr.heap.size, 0, none⟩ = some (.int .i64 ef) := HX1.out.cell 0
      have e1 : w1.cell? ⟨wr.heap.size, 1, none⟩ = some (.int .i64 ez) := HX1.out.cell 1
      have e2 : w1.cell? ⟨wr.heap.size, 2, none⟩ = some (.string ⟨et.toArray⟩) := HX1.out.cell 2
      by_cases hnf : n ≤ f'
      · rw [if_pos hnf] at HRES
        go_wp2
        go_roundw
        case rel => exact ⟨i + 1, f' - n, s', T', es', acc', by go_num, rfl, rfl, by omega, HRES, HMK, hT0, hT, hs, by omega, by omega, HM1, HB1⟩
        case measure => simp [intOf]; omega
      · rw [if_neg hnf] at HRES
        have hnd : decide (n ≤ f') = false := decide_eq_false hnf
        have hnf2 : f' < n := by omega
        clear hnf
        by_cases hm : s' ≤ n - f'
        · rw [Int.min_eq_left hm, if_pos (by omega)] at HRES
          have HM2 := Lib.hid (HMO.out f' s' hf0 (by omega) (by omega))
          clear HMO
          cases et with
          | nil =>
            have hcb : copiedB ⟨ef, ez, []⟩ = true := rfl
            have hfm : folMk ⟨ef, ez, []⟩ es' acc' f' s' = (copyL es' acc' (ef + f') s', []) := rfl
            rw [hcb] at HCP
            rw [hfm] at HRES HM2
            have hec := HEC.out
            have hef : 0 ≤ ef ∧ ef + f' ≤ 16777216 := by
              rcases hec with ⟨_, b', c', d', g', k'⟩ | ⟨a', _⟩
              · (try simp only at b' c' d' g' k'); omega
              · exact absurd rfl a'
            have hef0 := hef.1
            have hef1 := hef.2
            have hsmall := HMK.out.small (by omega)
            have HC := Lib.hid (fun w h hB => copy_any (b := b) (es := es') (acc := acc') (w := w) (B := B) (ef + f') s' h hB (by have := hsmall.2.1; omega) (by have := hsmall.2.2; omega) hsmall.1 (by omega) (by omega) (by omega) (by omega))
            clear hcb hfm hec hef hsmall HEC
            go_wp2_with fail
            refine (HCP.out _).mono ?_
            rintro r w2 ⟨rfl, hb2⟩
            have HB2 := Lib.hid (HB1.out.trans (hb2.mono (Nat.le_trans hBw HB1.out.size)))
            have HX2 := Lib.hid (HX1.out.below hb2 HX1.out.lt)
            have HM3 := Lib.hid (HM1.out.keep hb2)
            clear hb2 HB1 HX1 HM1 HCP e0 e1 e2
            have e0 : w2.cell? ⟨wr.heap.size, 0, none⟩ = some (.int .i64 ef) := HX2.out.cell 0
            have HCW := Lib.hid (HC.out w2 HM3.out (Nat.le_trans hBw HB2.out.size))
            go_wp2_with fail
            refine (HCW.out).mono ?_
            rintro r w3 ⟨rfl, hm3, hb3⟩
            have HB3 := Lib.hid (HB2.out.trans hb3)
            have HM4 := Lib.hid hm3
            clear hm3 hb3 HC HCW e0 HB2 HX2 HM3
            go_wp2
            go_ret
            exact ⟨by rw [HRES.out] <;> rfl, by rw [HRES.out]; exact HM4.out, HB3.out⟩
          | cons y yt =>
            have hcb : copiedB ⟨ef, ez, y :: yt⟩ = false := rfl
            have hfm : folMk ⟨ef, ez, y :: yt⟩ es' acc' f' s' = (es', acc' ++ ((y :: yt).drop f'.toNat).take s'.toNat) := rfl
            rw [hcb] at HCP
            rw [hfm] at HRES HM2
            have hec := HEC.out
            have hef : n = ((y :: yt).length : Int) := by
              rcases hec with ⟨a', _⟩ | ⟨_, b', c', d', g'⟩
              · simp at a'
              · exact g'
            have hsmall := HMK.out.small (by omega)
            have hal := hsmall.2.2
            generalize hyt : y :: yt = t at HCP HRES HM2 e0 e1 e2 HX1 hef
            clear hcb hfm hec hsmall HEC hyt
            obtain ⟨tl, htl⟩ : ∃ tl, (t.drop f'.toNat).take s'.toNat = tl := ⟨_, rfl⟩
            rw [htl] at HRES HM2
            have HEX : Hid ((ByteArray.mk t.toArray).extract f'.toNat (f' + s').toNat = ⟨tl.toArray⟩) := Lib.hid (by
              rw [Lib.extract_eq, ← htl]
              congr 2
              have e : (f' + s').toNat - f'.toNat = s'.toNat := by omega
              rw [e])
            have htll : (tl.length : Int) ≤ 16777216 := by rw [← htl, List.length_take]; omega
            have hfn : f' ≤ (t.length : Int) := by omega
            have hfn2 : f' + s' ≤ (t.length : Int) := by omega
            have hfn3 : f' ≤ f' + s' := by omega
            clear htl hef
            go_wp2_with fail
            refine (HCP.out _).mono ?_
            rintro r w2 ⟨rfl, hb2⟩
            have HB2 := Lib.hid (HB1.out.trans (hb2.mono (Nat.le_trans hBw HB1.out.size)))
            have HX2 := Lib.hid (HX1.out.below hb2 HX1.out.lt)
            have HM3 := Lib.hid (HM1.out.keep hb2)
            clear hb2 HB1 HX1 HM1 HCP e0 e1 e2
            have e2 : w2.cell? ⟨wr.heap.size, 2, none⟩ = some (.string ⟨t.toArray⟩) := HX2.out.cell 2
            have HW := Lib.hid (fun s hs => (HM3.out.drew).writeB tl s hs (by omega) (Nat.le_trans hBw HB2.out.size))
            go_wp2_with fail
            have HX2d : Hid (Blk w2.drew wr.heap.size 56 #[.int .i64 ef, .int .i64 ez, .string ⟨t.toArray⟩]) := HX2.out
            have HMW : Hid (wr.heap.size < wr.heap.size + 1) := Lib.hid (Nat.lt_succ_self _)
            have hwr : IntKind.i64.wrap (f' + s') = f' + s' := IntWalk.i64_in _ (by omega)
            go_region_law
              (refine step_call (by rfl) 21 _ _ (by rfl) Tryd.call21 _ (by first | (simp [Act.eval]; done) | simp [Act.eval, Act.put]) (HW.out _ HEX.out) ?_; rintro e w3 ⟨rfl, hm3, hb3⟩; refine ⟨_, rfl, ?_⟩; have HM4 := Lib.hid hm3; have HB3 := Lib.hid (HB2.out.trans ((Below.drew (Below.refl _ _)).trans hb3)); clear hm3 hb3)
            clear hwr
            go_wp2
            go_ret
            exact ⟨by rw [HRES.out] <;> rfl, by rw [HRES.out]; exact HM4.out, HB3.out⟩
        · rw [Int.min_eq_right (by omega), if_neg (by omega)] at HRES
          obtain ⟨pt, hpt⟩ : ∃ p, n - f' = p := ⟨_, rfl⟩
          rw [hpt] at HRES hm
          have hpt0 : 1 ≤ pt := by omega
          have hm1 : pt < s' := by omega
          have hm2 : decide (s' ≤ pt) = false := decide_eq_false hm
          have hm3 : pt ≤ s' := by omega
          have hm4 : (s' - pt == 0) = false := by simp; omega
          have HM2 := Lib.hid (HMO.out f' pt hf0 (by omega) (by omega))
          clear HMO
          cases et with
          | nil =>
            have hcb : copiedB ⟨ef, ez, []⟩ = true := rfl
            have hfm : folMk ⟨ef, ez, []⟩ es' acc' f' pt = (copyL es' acc' (ef + f') pt, []) := rfl
            rw [hcb] at HCP
            rw [hfm] at HRES HM2
            have hec := HEC.out
            have hef : 0 ≤ ef ∧ ef + f' ≤ 16777216 := by
              rcases hec with ⟨_, b', c', d', g', k'⟩ | ⟨a', _⟩
              · (try simp only at b' c' d' g' k'); omega
              · exact absurd rfl a'
            have hef0 := hef.1
            have hef1 := hef.2
            have hsmall := HMK.out.small (by omega)
            have HC := Lib.hid (fun w h hB => copy_any (b := b) (es := es') (acc := acc') (w := w) (B := B) (ef + f') pt h hB (by have := hsmall.2.1; omega) (by have := hsmall.2.2; omega) hsmall.1 (by omega) (by omega) (by omega) (by omega))
            clear hcb hfm hec hef hsmall HEC
            go_wp2_with fail
            refine (HCP.out _).mono ?_
            rintro r w2 ⟨rfl, hb2⟩
            have HB2 := Lib.hid (HB1.out.trans (hb2.mono (Nat.le_trans hBw HB1.out.size)))
            have HX2 := Lib.hid (HX1.out.below hb2 HX1.out.lt)
            have HM3 := Lib.hid (HM1.out.keep hb2)
            clear hb2 HB1 HX1 HM1 HCP e0 e1 e2
            have e0 : w2.cell? ⟨wr.heap.size, 0, none⟩ = some (.int .i64 ef) := HX2.out.cell 0
            have HCW := Lib.hid (HC.out w2 HM3.out (Nat.le_trans hBw HB2.out.size))
            go_wp2_with fail
            refine (HCW.out).mono ?_
            rintro r w3 ⟨rfl, hm3, hb3⟩
            have HB3 := Lib.hid (HB2.out.trans hb3)
            have HM4 := Lib.hid hm3
            clear hm3 hb3 HC HCW e0 HB2 HX2 HM3
            go_wp2
            go_roundw
            case rel => exact ⟨i + 1, 0, s' - pt, T' + pt, _, _, by go_num, rfl, rfl, by omega, HRES, HM2, by omega, by omega, by omega, by omega, by omega, HM4, HB3⟩
            case measure => simp [intOf]; omega
          | cons y yt =>
            have hcb : copiedB ⟨ef, ez, y :: yt⟩ = false := rfl
            have hfm : folMk ⟨ef, ez, y :: yt⟩ es' acc' f' pt = (es', acc' ++ ((y :: yt).drop f'.toNat).take pt.toNat) := rfl
            rw [hcb] at HCP
            rw [hfm] at HRES HM2
            have hec := HEC.out
            have hef : n = ((y :: yt).length : Int) := by
              rcases hec with ⟨a', _⟩ | ⟨_, b', c', d', g'⟩
              · simp at a'
              · exact g'
            have hsmall := HMK.out.small (by omega)
            have hal := hsmall.2.2
            generalize hyt : y :: yt = t at HCP HRES HM2 e0 e1 e2 HX1 hef
            clear hcb hfm hec hsmall HEC hyt
            obtain ⟨tl, htl⟩ : ∃ tl, (t.drop f'.toNat).take pt.toNat = tl := ⟨_, rfl⟩
            rw [htl] at HRES HM2
            have HEX : Hid ((ByteArray.mk t.toArray).extract f'.toNat (f' + pt).toNat = ⟨tl.toArray⟩) := Lib.hid (by
              rw [Lib.extract_eq, ← htl]
              congr 2
              have e : (f' + pt).toNat - f'.toNat = pt.toNat := by omega
              rw [e])
            have htll : (tl.length : Int) ≤ 16777216 := by rw [← htl, List.length_take]; omega
            have hfn : f' ≤ (t.length : Int) := by omega
            have hfn2 : f' + pt ≤ (t.length : Int) := by omega
            have hfn3 : f' ≤ f' + pt := by omega
            clear htl hef
            go_wp2_with fail
            refine (HCP.out _).mono ?_
            rintro r w2 ⟨rfl, hb2⟩
            have HB2 := Lib.hid (HB1.out.trans (hb2.mono (Nat.le_trans hBw HB1.out.size)))
            have HX2 := Lib.hid (HX1.out.below hb2 HX1.out.lt)
            have HM3 := Lib.hid (HM1.out.keep hb2)
            clear hb2 HB1 HX1 HM1 HCP e0 e1 e2
            have e2 : w2.cell? ⟨wr.heap.size, 2, none⟩ = some (.string ⟨t.toArray⟩) := HX2.out.cell 2
            have HW := Lib.hid (fun s hs => (HM3.out.drew).writeB tl s hs (by omega) (Nat.le_trans hBw HB2.out.size))
            go_wp2_with fail
            have HX2d : Hid (Blk w2.drew wr.heap.size 56 #[.int .i64 ef, .int .i64 ez, .string ⟨t.toArray⟩]) := HX2.out
            have HMW : Hid (wr.heap.size < wr.heap.size + 1) := Lib.hid (Nat.lt_succ_self _)
            have hwr : IntKind.i64.wrap (f' + pt) = f' + pt := IntWalk.i64_in _ (by omega)
            go_region_law
              (refine step_call (by rfl) 21 _ _ (by rfl) Tryd.call21 _ (by first | (simp [Act.eval]; done) | simp [Act.eval, Act.put]) (HW.out _ HEX.out) ?_; rintro e w3 ⟨rfl, hm3, hb3⟩; refine ⟨_, rfl, ?_⟩; have HM4 := Lib.hid hm3; have HB3 := Lib.hid (HB2.out.trans ((Below.drew (Below.refl _ _)).trans hb3)); clear hm3 hb3)
            clear hwr
            go_wp2
            go_roundw
            case rel => exact ⟨i + 1, 0, s' - pt, T' + pt, _, _, by go_num, rfl, rfl, by omega, HRES, HM2, by omega, by omega, by omega, by omega, by omega, HM4, HB3⟩
            case measure => simp [intOf]; omega
    · obtain rfl : i = l.length := by omega
      rw [List.drop_length] at HRES
      have HV : Hid (RES = (decide (s' = 0), (es', acc'))) := HRES
      have hsz : (s' == 0) = false := by simp; omega
      go_wp2
      go_ret
      exact ⟨by rw [HV.out]; simp; omega, by rw [HV.out]; exact HM.out, HB.out⟩

end Go.Proofs.YtefgajipakjpeaaDoor
