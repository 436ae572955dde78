/-
  image.coder that reads: contracts of image.list, one for each type of elements. Conditions: what is left is at most 2^20 bytes; the contract of the function for one element is a premise.
-/
import Derived.Test.YtefgajipakjpeaaDoorListR1
namespace Go.Proofs.YtefgajipakjpeaaDoor
open Go.RowKit

theorem VerDefInfo : (Tryd.prog.info? 143).map (fun i => (i.zero, i.size, i.bytes)) = some (some (.agg #[.string ByteArray.empty, .slice none 0 0]), 2, 40) := by kernel_rfl
theorem VerDefD.one (x : VerDefD) : ∀ v ∈ x.parts, v.oneCell' = true := by
  intro v hv
  simp only [VerDefD.parts, List.mem_cons, List.not_mem_nil, or_false] at hv
  rcases hv with rfl | rfl <;> rfl
/-- What the reading of this list leaves. -/
def GotListVerDef (cb g ib off : Nat) (ti : TypeId) (ci : Array Value) (w : World) (st : St) (e : Ending) (wz : World) : Prop :=
  e = .returned (.tuple #[]) ∧ ∃ s : SlD VerDefD, s.xs.map VerDefD.pl = (rLst rVerDef st).1 ∧ wz.ownsRow w.heap.size 143 2 (.slice s.A s.xs.length s.c) s.xs.length (s.xs.flatMap VerDefD.parts) ∧
    Blk wz ib ti (ci.setIfInBounds off (.slice s.A s.xs.length s.c)) ∧ CR cb g (rLst rVerDef st).2 wz ∧ Tw g ib w wz ∧ (∀ y ∈ s.xs, wz.ownsRow 0 9 1 (.slice y.f1.A y.f1.xs.length y.f1.c) y.f1.xs.length (y.f1.xs.flatMap StrD.parts))

set_option maxHeartbeats 8000000 in
set_option maxRecDepth 100000 in
theorem listVerDef_r {cb g ib off : Nat} {w : World} {ti : TypeId} {ci : Array Value} {st : St} (Inv : World → Prop) (cap : Addr × Addr) (hK : KeepsR g Inv) (hI : Inv w) (h : CR cb g st w) (hg : st.Good) (hl : st.rest.length ≤ 1048576)
    (hp : Blk w ib ti ci) (hti : ti ≠ 143) (ht104 : ti ≠ 104) (ht110 : ti ≠ 110) (tn1 : ti ≠ 9) (hpc : ib ≠ cb) (hpg : ib ≠ g) (hpv : ci[off]? = some (.slice none 0 0))
    (hone : ∀ (wx : World) (sx : St) (xb : Nat), Inv wx → CR cb g sx wx → sx.Good → sx.rest.length ≤ 1048576 → Blk wx xb 143 #[.string ⟨#[]⟩, .slice none 0 0] → xb ≠ cb → xb ≠ g →
      Calls Tryd.prog 66 #[.pointer (some ⟨xb, 0, none⟩), .pointer (some cap.1), .pointer (some cap.2)] wx (fun e w2 => e = .returned (.tuple #[]) ∧ ∃ y : VerDefD, y.pl = (rVerDef sx).1 ∧ CR cb g (rVerDef sx).2 w2 ∧ Blk w2 xb 143 y.parts.toArray ∧ Tw g xb wx w2 ∧ w2.ownsRow 0 9 1 (.slice y.f1.A y.f1.xs.length y.f1.c) y.f1.xs.length (y.f1.xs.flatMap StrD.parts))) :
    Calls Tryd.prog 65 #[.pointer (some ⟨cb, 0, none⟩), .pointer (some ⟨ib, off, none⟩), .func (.func 66) #[] #[.pointer (some cap.1), .pointer (some cap.2)]] w (GotListVerDef cb g ib off ti ci w st) := by
  obtain ⟨k0, hk, hy0, hy1, hy2⟩ := info_parts VerDefInfo
  have HONE := Lib.hid hone
  have HK := Lib.hid hK
  have hiblt := hp.lt
  have hoff : off < ci.size := by
    rcases Nat.lt_or_ge off ci.size with h1 | h1
    · exact h1
    · rw [Array.getElem?_eq_none h1] at hpv; cases hpv
  have hci : ci.setIfInBounds off (.slice none 0 0) = ci := by
    apply Array.ext_getElem?
    intro j
    rw [Array.getElem?_setIfInBounds]
    split
    · rename_i hj; subst hj; first | rw [if_pos hoff, hpv] | rw [hpv]
    · rfl
  have HLS0 : Hid (LS VerDefD.parts 2 143 ti cb g ib off ci w [] (.slice none 0 0) st w) := Lib.hid ⟨h, by rw [hci]; exact hp, World.ownsRow_nil _ _ _ _, Tw.refl _ _ _, hiblt, hpg, hpc, hoff, by decide, by decide, hti⟩
  have HN := Lib.hid (rNum_any g st w h.rd (by omega))
  have hn1 := rNum_lt st
  have hn2 := rNum_rest_le st
  have HG1 := Lib.hid (rNum_good st hg)
  have cin := h.in_
  have HI := Lib.hid hI
  have HRL : Hid (rLst rVerDef st = rItems rVerDef (rNum st).1 (rNum st).2) := rfl
  unfold GotListVerDef
  obtain ⟨RES, hRES⟩ : ∃ R, rLst rVerDef st = R := ⟨_, rfl⟩
  rw [hRES] at HRL ⊢
  generalize rNum st = z at HN hn1 hn2 HG1 HRL
  obtain ⟨nn, s1⟩ := z
  simp only at HN hn1 hn2 HG1 HRL
  have hnn : (nn : Int) ≤ 9223372036854775807 := by omega
  have HTI := Lib.hid (And.intro ht104 ht110)
  clear hRES hone hK h hg hp hti ht104 ht110 hpc hpg hpv hci hI hn1
  go_enter Tryd.func65, Tryd.ntmps65
  go_wp2_with fail
  refine (HN.out).mono ?_
  rintro r w1 ⟨rfl, hr1⟩
  have HLS1 : Hid (LS VerDefD.parts 2 143 ti cb g ib off ci w [] (.slice none 0 0) s1 w1) := Lib.hid (by
    have h0 := HLS0.out
    exact ⟨h0.cr.to_ hr1, h0.blk.grown hr1.only (by simpa using h0.hg), World.ownsRow_nil _ _ _ _, h0.tw.trans (Tw.of_only hr1.only), h0.hib, h0.hg, h0.hc, h0.off, h0.t98, h0.t83, h0.tti⟩)
  have HI1 : Hid (Inv w1) := Lib.hid (HK.out.tw w w1 ib ti _ st HI.out HLS0.out.cr.rd HLS0.out.blk HTI.out.1 HTI.out.2 (Tw.of_only hr1.only))
  clear hr1 HN HI HLS0 cin
  go_wp2_with fail
  go_loopw [8] (fun vn wr => ∃ (kk : Nat) (ys : List VerDefD) (v : Value) (sx : St), vn = .int .i64 kk ∧ (kk : Int) ≤ 9223372036854775807 ∧ Hid (LS VerDefD.parts 2 143 ti cb g ib off ci w ys v sx wr) ∧ Hid (Came rVerDef 1048576 nn s1 kk (ys.map VerDefD.pl) sx) ∧ Hid sx.Good ∧ Hid (Inv wr) ∧ Hid (∀ y ∈ ys, wr.ownsRow 0 9 1 (.slice y.f1.A y.f1.xs.length y.f1.c) y.f1.xs.length (y.f1.xs.flatMap StrD.parts))) (fun vn _ => (intOf vn).toNat)
  case atStart => exact ⟨nn, [], _, s1, rfl, hnn, HLS1, Came.start (by omega), HG1, HI1, Lib.hid (by simp)⟩
  case round =>
    clear HLS1 HG1 HI1
    obtain ⟨kk, ys, v, sx, rfl, hkk, HLS, HCA, HG, HI, HNS⟩ := hrel
    obtain ⟨A, c, rfl⟩ := own_shape HLS.out.own
    have hyl := HCA.out.len
    rw [List.length_map] at hyl
    have hrl := HCA.out.rest
    have cp := HLS.out.cell
    have HFA := Lib.hid (failed_any cb g sx wr HLS.out.cr HG.out)
    by_cases hk0 : kk = 0
    · have HST := Lib.hid (HCA.out.stop (.inl hk0))
      subst hk0
      go_wp2
      go_end0
      exact ⟨rfl, ⟨A, c, ys⟩, by rw [HRL.out, HST.out], HLS.out.own, HLS.out.blk, by rw [HRL.out, HST.out]; exact HLS.out.cr, HLS.out.tw, HNS.out⟩
    · have hk1 : 1 ≤ kk := by omega
      have hki : (0 : Int) < (kk : Int) := by omega
      cases hb : sx.bad with
      | true =>
        have HST := Lib.hid (HCA.out.stop (.inr hb))
        rw [hb] at HFA
        clear hb hk0
        go_wp2_with fail
        refine (HFA.out).mono ?_
        rintro r w2 ⟨rfl, rfl⟩
        go_wp2
        go_end0
        exact ⟨rfl, ⟨A, c, ys⟩, by rw [HRL.out, HST.out], HLS.out.own, HLS.out.blk, by rw [HRL.out, HST.out]; exact HLS.out.cr, HLS.out.tw, HNS.out⟩
      | false =>
        obtain ⟨k', rfl⟩ : ∃ k', kk = k' + 1 := ⟨kk - 1, by omega⟩
        have HC2 := Lib.hid (HCA.out.step rVerDef_less rVerDef_rok.le hb)
        have HG2 := Lib.hid (rVerDef_rok.good sx HG.out)
        rw [hb] at HFA
        have HXB := Lib.hid (HONE.out (wr.alloc (.cells #[.string ⟨#[]⟩, .slice none 0 0] 143)) sx wr.heap.size (HK.out.below _ _ HI.out ((Below.refl _ _).alloc (Nat.le_refl _) _)) (HLS.out.cr.alloc _) HG.out hrl (Blk.new _ _ _) (by have := HLS.out.cr.blk.lt; omega) (by have := HLS.out.cr.rd.lt; omega))
        have HIa := Lib.hid (HK.out.below _ _ HI.out ((Below.refl wr.heap.size wr).alloc (Nat.le_refl _) (.cells #[.string ⟨#[]⟩, .slice none 0 0] 143)))
        have hsz0 := HLS.out.size
        clear hb hk0 HCA HG
        go_wp2_with fail
        refine (HFA.out).mono ?_
        rintro r w2 ⟨rfl, rfl⟩
        go_wp2_with fail
        refine (HXB.out).mono ?_
        rintro r w5 ⟨rfl, y, hpl, hc5, hx5, ht5, hn1⟩
        have HLS5 := Lib.hid ((HLS.out.elem hc5 ht5).keep (Below.drew (Below.refl _ _)))
        have HX5 : Hid (Blk w5.drew wr.heap.size 143 y.parts.toArray) := hx5
        have HI5 : Hid (Inv w5.drew) := Lib.hid (HK.out.below _ _ (HK.out.tw _ _ wr.heap.size 143 _ sx HIa.out (Blk.alloc HLS.out.cr.rd _) (Blk.new _ _ _) (by decide) (by decide) ht5) (Below.drew (Below.refl _ _)))
        have HN5 : Hid (∀ yq ∈ ys ++ [y], w5.drew.ownsRow 0 9 1 (.slice yq.f1.A yq.f1.xs.length yq.f1.c) yq.f1.xs.length (yq.f1.xs.flatMap StrD.parts)) := Lib.hid (by
          intro yq hy2
          rcases List.mem_append.1 hy2 with h2 | h2
          · exact own_below (nest_elem (HNS.out yq h2) HLS.out.cr.rd (by decide) ht5) (Below.drew (Below.refl _ _)) (Nat.le_refl _)
          · simp at h2
            subst h2
            exact own_below hn1 (Below.drew (Below.refl _ _)) (Nat.le_refl _))
        rw [← hpl] at HC2
        have HPN := Lib.hid (show (ys ++ [y]).map VerDefD.pl = ys.map VerDefD.pl ++ [y.pl] by simp)
        rw [← HPN.out] at HC2
        have QB := Lib.hid (VerDefD.one y)
        have QC : Hid (ys.length + 1 ≤ maxLen) := by show _ ≤ _; unfold maxLen; omega
        have QD : Hid ((ys.length + 1) * 40 ≤ 140737488355328) := by show _ ≤ _; omega
        have QE : Hid (w.heap.size ≤ w5.heap.size) := Lib.hid (Nat.le_trans hsz0 (Nat.le_trans (by simp) ht5.size))
        clear hpl hc5 hx5 ht5 HXB HIa HLS HI cp HFA hn1 HNS
        have cx := HX5.out.cell
        obtain ⟨y0, y1⟩ := y
        simp only [VerDefD.parts] at HX5 QB
        have d0 : w5.cell? ⟨wr.heap.size, 0, none⟩ = some (.string ⟨y0.toArray⟩) := HX5.out.cell 0
        have d1 : w5.cell? ⟨wr.heap.size, 1, none⟩ = some (.slice y1.A y1.xs.length y1.c) := HX5.out.cell 1
        clear cx
        have cp5 : w5.cell? ⟨ib, off, none⟩ = some (.slice A ys.length c) := HLS5.out.cell
        have cp6 : (w5.alloc (.cells #[.string ⟨y0.toArray⟩, .slice y1.A y1.xs.length y1.c] 143)).cell? ⟨ib, off, none⟩ = some (.slice A ys.length c) := HLS5.out.cellA _
        go_wp2_with fail
        go_region_law
          ((have h5 := HLS5.out.own.alloc (.cells #[.string ⟨y0.toArray⟩, .slice y1.A y1.xs.length y1.c] 143); refine step_append_own (by rfl) _ _ 39 (by rfl) w.heap.size 143 k0 (.agg #[.string ByteArray.empty, .slice none 0 0]) 2 40 Tryd.underlying39 hk hy0 hy1 hy2 rfl (by decide) _ _ _ (by rfl) h5 ⟨w5.heap.size, 0, none⟩ 1 1 [.string ⟨y0.toArray⟩, .slice y1.A y1.xs.length y1.c] (by rfl) (by rfl) (World.news_of_block (heap_alloc_new w5.drew _)) QB.out QC.out QD.out (Nat.le_trans QE.out (by simp [World.drew])) ?_; intro v6 w6 hown6 hgrow6; obtain ⟨A6, c6, rfl⟩ := own_shape hown6; have hap := LS.app (y := ⟨y0, y1⟩) HLS5.out hgrow6 hown6; have HB6 := Lib.hid hap.1; have HLS6 := Lib.hid hap.2; have HI6 := Lib.hid (HK.out.below _ _ HI5.out ((Below.refl _ _).alloc (Nat.le_refl _) (.cells #[.string ⟨y0.toArray⟩, .slice y1.A y1.xs.length y1.c] 143))); have HG6 := Lib.hid hgrow6; have f6 := HB6.out.frozen off; have c6' : w6.cell? ⟨ib, off, none⟩ = some (.slice A ys.length c) := (HB6.out.cell off).trans (by simp [hoff]); clear hown6 hap h5 hgrow6))
        all_goals
          clear cp5 cp6 d0 d1
          have HI7 : Hid (Inv (w6.setCell ⟨ib, off, none⟩ (.slice A6 (ys.length + 1) c6))) := Lib.hid (by
            exact HK.out.app HI6.out HG6.out HLS5.out.own HB6.out HTI.out.1 HTI.out.2 (by decide) (by decide))
          have HN7 : Hid (∀ yq ∈ ys ++ [⟨y0, y1⟩], (w6.setCell ⟨ib, off, none⟩ (.slice A6 (ys.length + 1) c6)).ownsRow 0 9 1 (.slice yq.f1.A yq.f1.xs.length yq.f1.c) yq.f1.xs.length (yq.f1.xs.flatMap StrD.parts)) := Lib.hid (by
            intro yq hy2
            exact nest_app (HN5.out yq hy2) HLS5.out.own (by decide) HG6.out HB6.out tn1)
          go_wp2
          go_roundw
          case rel => exact ⟨k', ys ++ [⟨y0, y1⟩], _, _, by go_num, by omega, HLS6, HC2, HG2, HI7, HN7⟩
          case measure => simp [intOf]

theorem ConvInfo : (Tryd.prog.info? 152).map (fun i => (i.zero, i.size, i.bytes)) = some (some (.agg #[.string ByteArray.empty, .string ByteArray.empty, .string ByteArray.empty, .slice none 0 0, .int .i64 0]), 5, 80) := by kernel_rfl
theorem ConvD.one (x : ConvD) : ∀ v ∈ x.parts, v.oneCell' = true := by
  intro v hv
  simp only [ConvD.parts, List.mem_cons, List.not_mem_nil, or_false] at hv
  rcases hv with rfl | rfl | rfl | rfl | rfl <;> rfl
/-- What the reading of this list leaves. -/
def GotListConv (cb g ib off : Nat) (ti : TypeId) (ci : Array Value) (w : World) (st : St) (e : Ending) (wz : World) : Prop :=
  e = .returned (.tuple #[]) ∧ ∃ s : SlD ConvD, s.xs.map ConvD.pl = (rLst rConv st).1 ∧ wz.ownsRow w.heap.size 152 5 (.slice s.A s.xs.length s.c) s.xs.length (s.xs.flatMap ConvD.parts) ∧
    Blk wz ib ti (ci.setIfInBounds off (.slice s.A s.xs.length s.c)) ∧ CR cb g (rLst rConv st).2 wz ∧ Tw g ib w wz ∧ (∀ y ∈ s.xs, wz.ownsRow 0 157 3 (.slice y.f3.A y.f3.xs.length y.f3.c) y.f3.xs.length (y.f3.xs.flatMap PieceD.parts))

set_option maxHeartbeats 8000000 in
set_option maxRecDepth 100000 in
theorem listConv_r {cb g ib off : Nat} {w : World} {ti : TypeId} {ci : Array Value} {st : St} (Inv : World → Prop) (cap : Addr) (hK : KeepsR g Inv) (hI : Inv w) (h : CR cb g st w) (hg : st.Good) (hl : st.rest.length ≤ 1048576)
    (hp : Blk w ib ti ci) (hti : ti ≠ 152) (ht104 : ti ≠ 104) (ht110 : ti ≠ 110) (tn3 : ti ≠ 157) (hpc : ib ≠ cb) (hpg : ib ≠ g) (hpv : ci[off]? = some (.slice none 0 0))
    (hone : ∀ (wx : World) (sx : St) (xb : Nat), Inv wx → CR cb g sx wx → sx.Good → sx.rest.length ≤ 1048576 → Blk wx xb 152 #[.string ⟨#[]⟩, .string ⟨#[]⟩, .string ⟨#[]⟩, .slice none 0 0, .int .i64 0] → xb ≠ cb → xb ≠ g →
      Calls Tryd.prog 69 #[.pointer (some ⟨xb, 0, none⟩), .pointer (some cap)] wx (fun e w2 => e = .returned (.tuple #[]) ∧ ∃ y : ConvD, y.pl = (rConv sx).1 ∧ CR cb g (rConv sx).2 w2 ∧ Blk w2 xb 152 y.parts.toArray ∧ Tw g xb wx w2 ∧ w2.ownsRow 0 157 3 (.slice y.f3.A y.f3.xs.length y.f3.c) y.f3.xs.length (y.f3.xs.flatMap PieceD.parts))) :
    Calls Tryd.prog 68 #[.pointer (some ⟨cb, 0, none⟩), .pointer (some ⟨ib, off, none⟩), .func (.func 69) #[] #[.pointer (some cap)]] w (GotListConv cb g ib off ti ci w st) := by
  obtain ⟨k0, hk, hy0, hy1, hy2⟩ := info_parts ConvInfo
  have HONE := Lib.hid hone
  have HK := Lib.hid hK
  have hiblt := hp.lt
  have hoff : off < ci.size := by
    rcases Nat.lt_or_ge off ci.size with h1 | h1
    · exact h1
    · rw [Array.getElem?_eq_none h1] at hpv; cases hpv
  have hci : ci.setIfInBounds off (.slice none 0 0) = ci := by
    apply Array.ext_getElem?
    intro j
    rw [Array.getElem?_setIfInBounds]
    split
    · rename_i hj; subst hj; first | rw [if_pos hoff, hpv] | rw [hpv]
    · rfl
  have HLS0 : Hid (LS ConvD.parts 5 152 ti cb g ib off ci w [] (.slice none 0 0) st w) := Lib.hid ⟨h, by rw [hci]; exact hp, World.ownsRow_nil _ _ _ _, Tw.refl _ _ _, hiblt, hpg, hpc, hoff, by decide, by decide, hti⟩
  have HN := Lib.hid (rNum_any g st w h.rd (by omega))
  have hn1 := rNum_lt st
  have hn2 := rNum_rest_le st
  have HG1 := Lib.hid (rNum_good st hg)
  have cin := h.in_
  have HI := Lib.hid hI
  have HRL : Hid (rLst rConv st = rItems rConv (rNum st).1 (rNum st).2) := rfl
  unfold GotListConv
  obtain ⟨RES, hRES⟩ : ∃ R, rLst rConv st = R := ⟨_, rfl⟩
  rw [hRES] at HRL ⊢
  generalize rNum st = z at HN hn1 hn2 HG1 HRL
  obtain ⟨nn, s1⟩ := z
  simp only at HN hn1 hn2 HG1 HRL
  have hnn : (nn : Int) ≤ 9223372036854775807 := by omega
  have HTI := Lib.hid (And.intro ht104 ht110)
  clear hRES hone hK h hg hp hti ht104 ht110 hpc hpg hpv hci hI hn1
  go_enter Tryd.func68, Tryd.ntmps68
  go_wp2_with fail
  refine (HN.out).mono ?_
  rintro r w1 ⟨rfl, hr1⟩
  have HLS1 : Hid (LS ConvD.parts 5 152 ti cb g ib off ci w [] (.slice none 0 0) s1 w1) := Lib.hid (by
    have h0 := HLS0.out
    exact ⟨h0.cr.to_ hr1, h0.blk.grown hr1.only (by simpa using h0.hg), World.ownsRow_nil _ _ _ _, h0.tw.trans (Tw.of_only hr1.only), h0.hib, h0.hg, h0.hc, h0.off, h0.t98, h0.t83, h0.tti⟩)
  have HI1 : Hid (Inv w1) := Lib.hid (HK.out.tw w w1 ib ti _ st HI.out HLS0.out.cr.rd HLS0.out.blk HTI.out.1 HTI.out.2 (Tw.of_only hr1.only))
  clear hr1 HN HI HLS0 cin
  go_wp2_with fail
  go_loopw [8] (fun vn wr => ∃ (kk : Nat) (ys : List ConvD) (v : Value) (sx : St), vn = .int .i64 kk ∧ (kk : Int) ≤ 9223372036854775807 ∧ Hid (LS ConvD.parts 5 152 ti cb g ib off ci w ys v sx wr) ∧ Hid (Came rConv 1048576 nn s1 kk (ys.map ConvD.pl) sx) ∧ Hid sx.Good ∧ Hid (Inv wr) ∧ Hid (∀ y ∈ ys, wr.ownsRow 0 157 3 (.slice y.f3.A y.f3.xs.length y.f3.c) y.f3.xs.length (y.f3.xs.flatMap PieceD.parts))) (fun vn _ => (intOf vn).toNat)
  case atStart => exact ⟨nn, [], _, s1, rfl, hnn, HLS1, Came.start (by omega), HG1, HI1, Lib.hid (by simp)⟩
  case round =>
    clear HLS1 HG1 HI1
    obtain ⟨kk, ys, v, sx, rfl, hkk, HLS, HCA, HG, HI, HNS⟩ := hrel
    obtain ⟨A, c, rfl⟩ := own_shape HLS.out.own
    have hyl := HCA.out.len
    rw [List.length_map] at hyl
    have hrl := HCA.out.rest
    have cp := HLS.out.cell
    have HFA := Lib.hid (failed_any cb g sx wr HLS.out.cr HG.out)
    by_cases hk0 : kk = 0
    · have HST := Lib.hid (HCA.out.stop (.inl hk0))
      subst hk0
      go_wp2
      go_end0
      exact ⟨rfl, ⟨A, c, ys⟩, by rw [HRL.out, HST.out], HLS.out.own, HLS.out.blk, by rw [HRL.out, HST.out]; exact HLS.out.cr, HLS.out.tw, HNS.out⟩
    · have hk1 : 1 ≤ kk := by omega
      have hki : (0 : Int) < (kk : Int) := by omega
      cases hb : sx.bad with
      | true =>
        have HST := Lib.hid (HCA.out.stop (.inr hb))
        rw [hb] at HFA
        clear hb hk0
        go_wp2_with fail
        refine (HFA.out).mono ?_
        rintro r w2 ⟨rfl, rfl⟩
        go_wp2
        go_end0
        exact ⟨rfl, ⟨A, c, ys⟩, by rw [HRL.out, HST.out], HLS.out.own, HLS.out.blk, by rw [HRL.out, HST.out]; exact HLS.out.cr, HLS.out.tw, HNS.out⟩
      | false =>
        obtain ⟨k', rfl⟩ : ∃ k', kk = k' + 1 := ⟨kk - 1, by omega⟩
        have HC2 := Lib.hid (HCA.out.step rConv_less rConv_rok.le hb)
        have HG2 := Lib.hid (rConv_rok.good sx HG.out)
        rw [hb] at HFA
        have HXB := Lib.hid (HONE.out (wr.alloc (.cells #[.string ⟨#[]⟩, .string ⟨#[]⟩, .string ⟨#[]⟩, .slice none 0 0, .int .i64 0] 152)) sx wr.heap.size (HK.out.below _ _ HI.out ((Below.refl _ _).alloc (Nat.le_refl _) _)) (HLS.out.cr.alloc _) HG.out hrl (Blk.new _ _ _) (by have := HLS.out.cr.blk.lt; omega) (by have := HLS.out.cr.rd.lt; omega))
        have HIa := Lib.hid (HK.out.below _ _ HI.out ((Below.refl wr.heap.size wr).alloc (Nat.le_refl _) (.cells #[.string ⟨#[]⟩, .string ⟨#[]⟩, .string ⟨#[]⟩, .slice none 0 0, .int .i64 0] 152)))
        have hsz0 := HLS.out.size
        clear hb hk0 HCA HG
        go_wp2_with fail
        refine (HFA.out).mono ?_
        rintro r w2 ⟨rfl, rfl⟩
        go_wp2_with fail
        refine (HXB.out).mono ?_
        rintro r w5 ⟨rfl, y, hpl, hc5, hx5, ht5, hn3⟩
        have HLS5 := Lib.hid ((HLS.out.elem hc5 ht5).keep (Below.drew (Below.refl _ _)))
        have HX5 : Hid (Blk w5.drew wr.heap.size 152 y.parts.toArray) := hx5
        have HI5 : Hid (Inv w5.drew) := Lib.hid (HK.out.below _ _ (HK.out.tw _ _ wr.heap.size 152 _ sx HIa.out (Blk.alloc HLS.out.cr.rd _) (Blk.new _ _ _) (by decide) (by decide) ht5) (Below.drew (Below.refl _ _)))
        have HN5 : Hid (∀ yq ∈ ys ++ [y], w5.drew.ownsRow 0 157 3 (.slice yq.f3.A yq.f3.xs.length yq.f3.c) yq.f3.xs.length (yq.f3.xs.flatMap PieceD.parts)) := Lib.hid (by
          intro yq hy2
          rcases List.mem_append.1 hy2 with h2 | h2
          · exact own_below (nest_elem (HNS.out yq h2) HLS.out.cr.rd (by decide) ht5) (Below.drew (Below.refl _ _)) (Nat.le_refl _)
          · simp at h2
            subst h2
            exact own_below hn3 (Below.drew (Below.refl _ _)) (Nat.le_refl _))
        rw [← hpl] at HC2
        have HPN := Lib.hid (show (ys ++ [y]).map ConvD.pl = ys.map ConvD.pl ++ [y.pl] by simp)
        rw [← HPN.out] at HC2
        have QB := Lib.hid (ConvD.one y)
        have QC : Hid (ys.length + 1 ≤ maxLen) := by show _ ≤ _; unfold maxLen; omega
        have QD : Hid ((ys.length + 1) * 80 ≤ 140737488355328) := by show _ ≤ _; omega
        have QE : Hid (w.heap.size ≤ w5.heap.size) := Lib.hid (Nat.le_trans hsz0 (Nat.le_trans (by simp) ht5.size))
        clear hpl hc5 hx5 ht5 HXB HIa HLS HI cp HFA hn3 HNS
        have cx := HX5.out.cell
        obtain ⟨y0, y1, y2, y3, y4⟩ := y
        simp only [ConvD.parts] at HX5 QB
        have d0 : w5.cell? ⟨wr.heap.size, 0, none⟩ = some (.string ⟨y0.toArray⟩) := HX5.out.cell 0
        have d1 : w5.cell? ⟨wr.heap.size, 1, none⟩ = some (.string ⟨y1.toArray⟩) := HX5.out.cell 1
        have d2 : w5.cell? ⟨wr.heap.size, 2, none⟩ = some (.string ⟨y2.toArray⟩) := HX5.out.cell 2
        have d3 : w5.cell? ⟨wr.heap.size, 3, none⟩ = some (.slice y3.A y3.xs.length y3.c) := HX5.out.cell 3
        have d4 : w5.cell? ⟨wr.heap.size, 4, none⟩ = some (.int .i64 y4) := HX5.out.cell 4
        clear cx
        have cp5 : w5.cell? ⟨ib, off, none⟩ = some (.slice A ys.length c) := HLS5.out.cell
        have cp6 : (w5.alloc (.cells #[.string ⟨y0.toArray⟩, .string ⟨y1.toArray⟩, .string ⟨y2.toArray⟩, .slice y3.A y3.xs.length y3.c, .int .i64 y4] 152)).cell? ⟨ib, off, none⟩ = some (.slice A ys.length c) := HLS5.out.cellA _
        go_wp2_with fail
        go_region_law
          ((have h5 := HLS5.out.own.alloc (.cells #[.string ⟨y0.toArray⟩, .string ⟨y1.toArray⟩, .string ⟨y2.toArray⟩, .slice y3.A y3.xs.length y3.c, .int .i64 y4] 152); refine step_append_own (by rfl) _ _ 48 (by rfl) w.heap.size 152 k0 (.agg #[.string ByteArray.empty, .string ByteArray.empty, .string ByteArray.empty, .slice none 0 0, .int .i64 0]) 5 80 Tryd.underlying48 hk hy0 hy1 hy2 rfl (by decide) _ _ _ (by rfl) h5 ⟨w5.heap.size, 0, none⟩ 1 1 [.string ⟨y0.toArray⟩, .string ⟨y1.toArray⟩, .string ⟨y2.toArray⟩, .slice y3.A y3.xs.length y3.c, .int .i64 y4] (by rfl) (by rfl) (World.news_of_block (heap_alloc_new w5.drew _)) QB.out QC.out QD.out (Nat.le_trans QE.out (by simp [World.drew])) ?_; intro v6 w6 hown6 hgrow6; obtain ⟨A6, c6, rfl⟩ := own_shape hown6; have hap := LS.app (y := ⟨y0, y1, y2, y3, y4⟩) HLS5.out hgrow6 hown6; have HB6 := Lib.hid hap.1; have HLS6 := Lib.hid hap.2; have HI6 := Lib.hid (HK.out.below _ _ HI5.out ((Below.refl _ _).alloc (Nat.le_refl _) (.cells #[.string ⟨y0.toArray⟩, .string ⟨y1.toArray⟩, .string ⟨y2.toArray⟩, .slice y3.A y3.xs.length y3.c, .int .i64 y4] 152))); have HG6 := Lib.hid hgrow6; have f6 := HB6.out.frozen off; have c6' : w6.cell? ⟨ib, off, none⟩ = some (.slice A ys.length c) := (HB6.out.cell off).trans (by simp [hoff]); clear hown6 hap h5 hgrow6))
        all_goals
          clear cp5 cp6 d0 d1 d2 d3 d4
          have HI7 : Hid (Inv (w6.setCell ⟨ib, off, none⟩ (.slice A6 (ys.length + 1) c6))) := Lib.hid (by
            exact HK.out.app HI6.out HG6.out HLS5.out.own HB6.out HTI.out.1 HTI.out.2 (by decide) (by decide))
          have HN7 : Hid (∀ yq ∈ ys ++ [⟨y0, y1, y2, y3, y4⟩], (w6.setCell ⟨ib, off, none⟩ (.slice A6 (ys.length + 1) c6)).ownsRow 0 157 3 (.slice yq.f3.A yq.f3.xs.length yq.f3.c) yq.f3.xs.length (yq.f3.xs.flatMap PieceD.parts)) := Lib.hid (by
            intro yq hy2
            exact nest_app (HN5.out yq hy2) HLS5.out.own (by decide) HG6.out HB6.out tn3)
          go_wp2
          go_roundw
          case rel => exact ⟨k', ys ++ [⟨y0, y1, y2, y3, y4⟩], _, _, by go_num, by omega, HLS6, HC2, HG2, HI7, HN7⟩
          case measure => simp [intOf]

theorem MarkInfo : (Tryd.prog.info? 173).map (fun i => (i.zero, i.size, i.bytes)) = some (some (.agg #[.string ByteArray.empty, .int .i64 0, .int .i64 0, .int .i64 0]), 4, 40) := by kernel_rfl
theorem MarkD.one (x : MarkD) : ∀ v ∈ x.parts, v.oneCell' = true := by
  intro v hv
  simp only [MarkD.parts, List.mem_cons, List.not_mem_nil, or_false] at hv
  rcases hv with rfl | rfl | rfl | rfl <;> rfl
/-- What the reading of this list leaves. -/
def GotListMark (cb g ib off : Nat) (ti : TypeId) (ci : Array Value) (w : World) (st : St) (e : Ending) (wz : World) : Prop :=
  e = .returned (.tuple #[]) ∧ ∃ s : SlD MarkD, s.xs.map MarkD.pl = (rLst rMark st).1 ∧ wz.ownsRow w.heap.size 173 4 (.slice s.A s.xs.length s.c) s.xs.length (s.xs.flatMap MarkD.parts) ∧
    Blk wz ib ti (ci.setIfInBounds off (.slice s.A s.xs.length s.c)) ∧ CR cb g (rLst rMark st).2 wz ∧ Tw g ib w wz

set_option maxHeartbeats 8000000 in
set_option maxRecDepth 100000 in
theorem listMark_r {cb g ib off : Nat} {w : World} {ti : TypeId} {ci : Array Value} {st : St} (Inv : World → Prop) (cap : Addr) (hK : KeepsR g Inv) (hI : Inv w) (h : CR cb g st w) (hg : st.Good) (hl : st.rest.length ≤ 1048576)
    (hp : Blk w ib ti ci) (hti : ti ≠ 173) (ht104 : ti ≠ 104) (ht110 : ti ≠ 110) (hpc : ib ≠ cb) (hpg : ib ≠ g) (hpv : ci[off]? = some (.slice none 0 0))
    (hone : ∀ (wx : World) (sx : St) (xb : Nat), Inv wx → CR cb g sx wx → sx.Good → sx.rest.length ≤ 1048576 → Blk wx xb 173 #[.string ⟨#[]⟩, .int .i64 0, .int .i64 0, .int .i64 0] → xb ≠ cb → xb ≠ g →
      Calls Tryd.prog 78 #[.pointer (some ⟨xb, 0, none⟩), .pointer (some cap)] wx (fun e w2 => e = .returned (.tuple #[]) ∧ ∃ y : MarkD, y.pl = (rMark sx).1 ∧ CR cb g (rMark sx).2 w2 ∧ Blk w2 xb 173 y.parts.toArray ∧ Tw g xb wx w2)) :
    Calls Tryd.prog 77 #[.pointer (some ⟨cb, 0, none⟩), .pointer (some ⟨ib, off, none⟩), .func (.func 78) #[] #[.pointer (some cap)]] w (GotListMark cb g ib off ti ci w st) := by
  obtain ⟨k0, hk, hy0, hy1, hy2⟩ := info_parts MarkInfo
  have HONE := Lib.hid hone
  have HK := Lib.hid hK
  have hiblt := hp.lt
  have hoff : off < ci.size := by
    rcases Nat.lt_or_ge off ci.size with h1 | h1
    · exact h1
    · rw [Array.getElem?_eq_none h1] at hpv; cases hpv
  have hci : ci.setIfInBounds off (.slice none 0 0) = ci := by
    apply Array.ext_getElem?
    intro j
    rw [Array.getElem?_setIfInBounds]
    split
    · rename_i hj; subst hj; first | rw [if_pos hoff, hpv] | rw [hpv]
    · rfl
  have HLS0 : Hid (LS MarkD.parts 4 173 ti cb g ib off ci w [] (.slice none 0 0) st w) := Lib.hid ⟨h, by rw [hci]; exact hp, World.ownsRow_nil _ _ _ _, Tw.refl _ _ _, hiblt, hpg, hpc, hoff, by decide, by decide, hti⟩
  have HN := Lib.hid (rNum_any g st w h.rd (by omega))
  have hn1 := rNum_lt st
  have hn2 := rNum_rest_le st
  have HG1 := Lib.hid (rNum_good st hg)
  have cin := h.in_
  have HI := Lib.hid hI
  have HRL : Hid (rLst rMark st = rItems rMark (rNum st).1 (rNum st).2) := rfl
  unfold GotListMark
  obtain ⟨RES, hRES⟩ : ∃ R, rLst rMark st = R := ⟨_, rfl⟩
  rw [hRES] at HRL ⊢
  generalize rNum st = z at HN hn1 hn2 HG1 HRL
  obtain ⟨nn, s1⟩ := z
  simp only at HN hn1 hn2 HG1 HRL
  have hnn : (nn : Int) ≤ 9223372036854775807 := by omega
  have HTI := Lib.hid (And.intro ht104 ht110)
  clear hRES hone hK h hg hp hti ht104 ht110 hpc hpg hpv hci hI hn1
  go_enter Tryd.func77, Tryd.ntmps77
  go_wp2_with fail
  refine (HN.out).mono ?_
  rintro r w1 ⟨rfl, hr1⟩
  have HLS1 : Hid (LS MarkD.parts 4 173 ti cb g ib off ci w [] (.slice none 0 0) s1 w1) := Lib.hid (by
    have h0 := HLS0.out
    exact ⟨h0.cr.to_ hr1, h0.blk.grown hr1.only (by simpa using h0.hg), World.ownsRow_nil _ _ _ _, h0.tw.trans (Tw.of_only hr1.only), h0.hib, h0.hg, h0.hc, h0.off, h0.t98, h0.t83, h0.tti⟩)
  have HI1 : Hid (Inv w1) := Lib.hid (HK.out.tw w w1 ib ti _ st HI.out HLS0.out.cr.rd HLS0.out.blk HTI.out.1 HTI.out.2 (Tw.of_only hr1.only))
  clear hr1 HN HI HLS0 cin
  go_wp2_with fail
  go_loopw [8] (fun vn wr => ∃ (kk : Nat) (ys : List MarkD) (v : Value) (sx : St), vn = .int .i64 kk ∧ (kk : Int) ≤ 9223372036854775807 ∧ Hid (LS MarkD.parts 4 173 ti cb g ib off ci w ys v sx wr) ∧ Hid (Came rMark 1048576 nn s1 kk (ys.map MarkD.pl) sx) ∧ Hid sx.Good ∧ Hid (Inv wr)) (fun vn _ => (intOf vn).toNat)
  case atStart => exact ⟨nn, [], _, s1, rfl, hnn, HLS1, Came.start (by omega), HG1, HI1⟩
  case round =>
    clear HLS1 HG1 HI1
    obtain ⟨kk, ys, v, sx, rfl, hkk, HLS, HCA, HG, HI⟩ := hrel
    obtain ⟨A, c, rfl⟩ := own_shape HLS.out.own
    have hyl := HCA.out.len
    rw [List.length_map] at hyl
    have hrl := HCA.out.rest
    have cp := HLS.out.cell
    have HFA := Lib.hid (failed_any cb g sx wr HLS.out.cr HG.out)
    by_cases hk0 : kk = 0
    · have HST := Lib.hid (HCA.out.stop (.inl hk0))
      subst hk0
      go_wp2
      go_end0
      exact ⟨rfl, ⟨A, c, ys⟩, by rw [HRL.out, HST.out], HLS.out.own, HLS.out.blk, by rw [HRL.out, HST.out]; exact HLS.out.cr, HLS.out.tw⟩
    · have hk1 : 1 ≤ kk := by omega
      have hki : (0 : Int) < (kk : Int) := by omega
      cases hb : sx.bad with
      | true =>
        have HST := Lib.hid (HCA.out.stop (.inr hb))
        rw [hb] at HFA
        clear hb hk0
        go_wp2_with fail
        refine (HFA.out).mono ?_
        rintro r w2 ⟨rfl, rfl⟩
        go_wp2
        go_end0
        exact ⟨rfl, ⟨A, c, ys⟩, by rw [HRL.out, HST.out], HLS.out.own, HLS.out.blk, by rw [HRL.out, HST.out]; exact HLS.out.cr, HLS.out.tw⟩
      | false =>
        obtain ⟨k', rfl⟩ : ∃ k', kk = k' + 1 := ⟨kk - 1, by omega⟩
        have HC2 := Lib.hid (HCA.out.step rMark_less rMark_rok.le hb)
        have HG2 := Lib.hid (rMark_rok.good sx HG.out)
        rw [hb] at HFA
        have HXB := Lib.hid (HONE.out (wr.alloc (.cells #[.string ⟨#[]⟩, .int .i64 0, .int .i64 0, .int .i64 0] 173)) sx wr.heap.size (HK.out.below _ _ HI.out ((Below.refl _ _).alloc (Nat.le_refl _) _)) (HLS.out.cr.alloc _) HG.out hrl (Blk.new _ _ _) (by have := HLS.out.cr.blk.lt; omega) (by have := HLS.out.cr.rd.lt; omega))
        have HIa := Lib.hid (HK.out.below _ _ HI.out ((Below.refl wr.heap.size wr).alloc (Nat.le_refl _) (.cells #[.string ⟨#[]⟩, .int .i64 0, .int .i64 0, .int .i64 0] 173)))
        have hsz0 := HLS.out.size
        clear hb hk0 HCA HG
        go_wp2_with fail
        refine (HFA.out).mono ?_
        rintro r w2 ⟨rfl, rfl⟩
        go_wp2_with fail
        refine (HXB.out).mono ?_
        rintro r w5 ⟨rfl, y, hpl, hc5, hx5, ht5⟩
        have HLS5 := Lib.hid ((HLS.out.elem hc5 ht5).keep (Below.drew (Below.refl _ _)))
        have HX5 : Hid (Blk w5.drew wr.heap.size 173 y.parts.toArray) := hx5
        have HI5 : Hid (Inv w5.drew) := Lib.hid (HK.out.below _ _ (HK.out.tw _ _ wr.heap.size 173 _ sx HIa.out (Blk.alloc HLS.out.cr.rd _) (Blk.new _ _ _) (by decide) (by decide) ht5) (Below.drew (Below.refl _ _)))
        rw [← hpl] at HC2
        have HPN := Lib.hid (show (ys ++ [y]).map MarkD.pl = ys.map MarkD.pl ++ [y.pl] by simp)
        rw [← HPN.out] at HC2
        have QB := Lib.hid (MarkD.one y)
        have QC : Hid (ys.length + 1 ≤ maxLen) := by show _ ≤ _; unfold maxLen; omega
        have QD : Hid ((ys.length + 1) * 40 ≤ 140737488355328) := by show _ ≤ _; omega
        have QE : Hid (w.heap.size ≤ w5.heap.size) := Lib.hid (Nat.le_trans hsz0 (Nat.le_trans (by simp) ht5.size))
        clear hpl hc5 hx5 ht5 HXB HIa HLS HI cp HFA  
        have cx := HX5.out.cell
        obtain ⟨y0, y1, y2, y3⟩ := y
        simp only [MarkD.parts] at HX5 QB
        have d0 : w5.cell? ⟨wr.heap.size, 0, none⟩ = some (.string ⟨y0.toArray⟩) := HX5.out.cell 0
        have d1 : w5.cell? ⟨wr.heap.size, 1, none⟩ = some (.int .i64 y1) := HX5.out.cell 1
        have d2 : w5.cell? ⟨wr.heap.size, 2, none⟩ = some (.int .i64 y2) := HX5.out.cell 2
        have d3 : w5.cell? ⟨wr.heap.size, 3, none⟩ = some (.int .i64 y3) := HX5.out.cell 3
        clear cx
        have cp5 : w5.cell? ⟨ib, off, none⟩ = some (.slice A ys.length c) := HLS5.out.cell
        have cp6 : (w5.alloc (.cells #[.string ⟨y0.toArray⟩, .int .i64 y1, .int .i64 y2, .int .i64 y3] 173)).cell? ⟨ib, off, none⟩ = some (.slice A ys.length c) := HLS5.out.cellA _
        go_wp2_with fail
        go_region_law
          ((have h5 := HLS5.out.own.alloc (.cells #[.string ⟨y0.toArray⟩, .int .i64 y1, .int .i64 y2, .int .i64 y3] 173); refine step_append_own (by rfl) _ _ 40 (by rfl) w.heap.size 173 k0 (.agg #[.string ByteArray.empty, .int .i64 0, .int .i64 0, .int .i64 0]) 4 40 Tryd.underlying40 hk hy0 hy1 hy2 rfl (by decide) _ _ _ (by rfl) h5 ⟨w5.heap.size, 0, none⟩ 1 1 [.string ⟨y0.toArray⟩, .int .i64 y1, .int .i64 y2, .int .i64 y3] (by rfl) (by rfl) (World.news_of_block (heap_alloc_new w5.drew _)) QB.out QC.out QD.out (Nat.le_trans QE.out (by simp [World.drew])) ?_; intro v6 w6 hown6 hgrow6; obtain ⟨A6, c6, rfl⟩ := own_shape hown6; have hap := LS.app (y := ⟨y0, y1, y2, y3⟩) HLS5.out hgrow6 hown6; have HB6 := Lib.hid hap.1; have HLS6 := Lib.hid hap.2; have HI6 := Lib.hid (HK.out.below _ _ HI5.out ((Below.refl _ _).alloc (Nat.le_refl _) (.cells #[.string ⟨y0.toArray⟩, .int .i64 y1, .int .i64 y2, .int .i64 y3] 173))); have HG6 := Lib.hid hgrow6; have f6 := HB6.out.frozen off; have c6' : w6.cell? ⟨ib, off, none⟩ = some (.slice A ys.length c) := (HB6.out.cell off).trans (by simp [hoff]); clear hown6 hap h5 hgrow6))
        all_goals
          clear cp5 cp6 d0 d1 d2 d3
          have HI7 : Hid (Inv (w6.setCell ⟨ib, off, none⟩ (.slice A6 (ys.length + 1) c6))) := Lib.hid (by
            exact HK.out.app HI6.out HG6.out HLS5.out.own HB6.out HTI.out.1 HTI.out.2 (by decide) (by decide))
          go_wp2
          go_roundw
          case rel => exact ⟨k', ys ++ [⟨y0, y1, y2, y3⟩], _, _, by go_num, by omega, HLS6, HC2, HG2, HI7⟩
          case measure => simp [intOf]

theorem LineInfo : (Tryd.prog.info? 179).map (fun i => (i.zero, i.size, i.bytes)) = some (some (.agg #[.int .i64 0, .int .i64 0, .string ByteArray.empty, .int .i64 0]), 4, 40) := by kernel_rfl
theorem LineD.one (x : LineD) : ∀ v ∈ x.parts, v.oneCell' = true := by
  intro v hv
  simp only [LineD.parts, List.mem_cons, List.not_mem_nil, or_false] at hv
  rcases hv with rfl | rfl | rfl | rfl <;> rfl
/-- What the reading of this list leaves. -/
def GotListLine (cb g ib off : Nat) (ti : TypeId) (ci : Array Value) (w : World) (st : St) (e : Ending) (wz : World) : Prop :=
  e = .returned (.tuple #[]) ∧ ∃ s : SlD LineD, s.xs.map LineD.pl = (rLst rLine st).1 ∧ wz.ownsRow w.heap.size 179 4 (.slice s.A s.xs.length s.c) s.xs.length (s.xs.flatMap LineD.parts) ∧
    Blk wz ib ti (ci.setIfInBounds off (.slice s.A s.xs.length s.c)) ∧ CR cb g (rLst rLine st).2 wz ∧ Tw g ib w wz

set_option maxHeartbeats 8000000 in
set_option maxRecDepth 100000 in
theorem listLine_r {cb g ib off : Nat} {w : World} {ti : TypeId} {ci : Array Value} {st : St} (Inv : World → Prop) (cap : Addr) (hK : KeepsR g Inv) (hI : Inv w) (h : CR cb g st w) (hg : st.Good) (hl : st.rest.length ≤ 1048576)
    (hp : Blk w ib ti ci) (hti : ti ≠ 179) (ht104 : ti ≠ 104) (ht110 : ti ≠ 110) (hpc : ib ≠ cb) (hpg : ib ≠ g) (hpv : ci[off]? = some (.slice none 0 0))
    (hone : ∀ (wx : World) (sx : St) (xb : Nat), Inv wx → CR cb g sx wx → sx.Good → sx.rest.length ≤ 1048576 → Blk wx xb 179 #[.int .i64 0, .int .i64 0, .string ⟨#[]⟩, .int .i64 0] → xb ≠ cb → xb ≠ g →
      Calls Tryd.prog 80 #[.pointer (some ⟨xb, 0, none⟩), .pointer (some cap)] wx (fun e w2 => e = .returned (.tuple #[]) ∧ ∃ y : LineD, y.pl = (rLine sx).1 ∧ CR cb g (rLine sx).2 w2 ∧ Blk w2 xb 179 y.parts.toArray ∧ Tw g xb wx w2)) :
    Calls Tryd.prog 79 #[.pointer (some ⟨cb, 0, none⟩), .pointer (some ⟨ib, off, none⟩), .func (.func 80) #[] #[.pointer (some cap)]] w (GotListLine cb g ib off ti ci w st) := by
  obtain ⟨k0, hk, hy0, hy1, hy2⟩ := info_parts LineInfo
  have HONE := Lib.hid hone
  have HK := Lib.hid hK
  have hiblt := hp.lt
  have hoff : off < ci.size := by
    rcases Nat.lt_or_ge off ci.size with h1 | h1
    · exact h1
    · rw [Array.getElem?_eq_none h1] at hpv; cases hpv
  have hci : ci.setIfInBounds off (.slice none 0 0) = ci := by
    apply Array.ext_getElem?
    intro j
    rw [Array.getElem?_setIfInBounds]
    split
    · rename_i hj; subst hj; first | rw [if_pos hoff, hpv] | rw [hpv]
    · rfl
  have HLS0 : Hid (LS LineD.parts 4 179 ti cb g ib off ci w [] (.slice none 0 0) st w) := Lib.hid ⟨h, by rw [hci]; exact hp, World.ownsRow_nil _ _ _ _, Tw.refl _ _ _, hiblt, hpg, hpc, hoff, by decide, by decide, hti⟩
  have HN := Lib.hid (rNum_any g st w h.rd (by omega))
  have hn1 := rNum_lt st
  have hn2 := rNum_rest_le st
  have HG1 := Lib.hid (rNum_good st hg)
  have cin := h.in_
  have HI := Lib.hid hI
  have HRL : Hid (rLst rLine st = rItems rLine (rNum st).1 (rNum st).2) := rfl
  unfold GotListLine
  obtain ⟨RES, hRES⟩ : ∃ R, rLst rLine st = R := ⟨_, rfl⟩
  rw [hRES] at HRL ⊢
  generalize rNum st = z at HN hn1 hn2 HG1 HRL
  obtain ⟨nn, s1⟩ := z
  simp only at HN hn1 hn2 HG1 HRL
  have hnn : (nn : Int) ≤ 9223372036854775807 := by omega
  have HTI := Lib.hid (And.intro ht104 ht110)
  clear hRES hone hK h hg hp hti ht104 ht110 hpc hpg hpv hci hI hn1
  go_enter Tryd.func79, Tryd.ntmps79
  go_wp2_with fail
  refine (HN.out).mono ?_
  rintro r w1 ⟨rfl, hr1⟩
  have HLS1 : Hid (LS LineD.parts 4 179 ti cb g ib off ci w [] (.slice none 0 0) s1 w1) := Lib.hid (by
    have h0 := HLS0.out
    exact ⟨h0.cr.to_ hr1, h0.blk.grown hr1.only (by simpa using h0.hg), World.ownsRow_nil _ _ _ _, h0.tw.trans (Tw.of_only hr1.only), h0.hib, h0.hg, h0.hc, h0.off, h0.t98, h0.t83, h0.tti⟩)
  have HI1 : Hid (Inv w1) := Lib.hid (HK.out.tw w w1 ib ti _ st HI.out HLS0.out.cr.rd HLS0.out.blk HTI.out.1 HTI.out.2 (Tw.of_only hr1.only))
  clear hr1 HN HI HLS0 cin
  go_wp2_with fail
  go_loopw [8] (fun vn wr => ∃ (kk : Nat) (ys : List LineD) (v : Value) (sx : St), vn = .int .i64 kk ∧ (kk : Int) ≤ 9223372036854775807 ∧ Hid (LS LineD.parts 4 179 ti cb g ib off ci w ys v sx wr) ∧ Hid (Came rLine 1048576 nn s1 kk (ys.map LineD.pl) sx) ∧ Hid sx.Good ∧ Hid (Inv wr)) (fun vn _ => (intOf vn).toNat)
  case atStart => exact ⟨nn, [], _, s1, rfl, hnn, HLS1, Came.start (by omega), HG1, HI1⟩
  case round =>
    clear HLS1 HG1 HI1
    obtain ⟨kk, ys, v, sx, rfl, hkk, HLS, HCA, HG, HI⟩ := hrel
    obtain ⟨A, c, rfl⟩ := own_shape HLS.out.own
    have hyl := HCA.out.len
    rw [List.length_map] at hyl
    have hrl := HCA.out.rest
    have cp := HLS.out.cell
    have HFA := Lib.hid (failed_any cb g sx wr HLS.out.cr HG.out)
    by_cases hk0 : kk = 0
    · have HST := Lib.hid (HCA.out.stop (.inl hk0))
      subst hk0
      go_wp2
      go_end0
      exact ⟨rfl, ⟨A, c, ys⟩, by rw [HRL.out, HST.out], HLS.out.own, HLS.out.blk, by rw [HRL.out, HST.out]; exact HLS.out.cr, HLS.out.tw⟩
    · have hk1 : 1 ≤ kk := by omega
      have hki : (0 : Int) < (kk : Int) := by omega
      cases hb : sx.bad with
      | true =>
        have HST := Lib.hid (HCA.out.stop (.inr hb))
        rw [hb] at HFA
        clear hb hk0
        go_wp2_with fail
        refine (HFA.out).mono ?_
        rintro r w2 ⟨rfl, rfl⟩
        go_wp2
        go_end0
        exact ⟨rfl, ⟨A, c, ys⟩, by rw [HRL.out, HST.out], HLS.out.own, HLS.out.blk, by rw [HRL.out, HST.out]; exact HLS.out.cr, HLS.out.tw⟩
      | false =>
        obtain ⟨k', rfl⟩ : ∃ k', kk = k' + 1 := ⟨kk - 1, by omega⟩
        have HC2 := Lib.hid (HCA.out.step rLine_less rLine_rok.le hb)
        have HG2 := Lib.hid (rLine_rok.good sx HG.out)
        rw [hb] at HFA
        have HXB := Lib.hid (HONE.out (wr.alloc (.cells #[.int .i64 0, .int .i64 0, .string ⟨#[]⟩, .int .i64 0] 179)) sx wr.heap.size (HK.out.below _ _ HI.out ((Below.refl _ _).alloc (Nat.le_refl _) _)) (HLS.out.cr.alloc _) HG.out hrl (Blk.new _ _ _) (by have := HLS.out.cr.blk.lt; omega) (by have := HLS.out.cr.rd.lt; omega))
        have HIa := Lib.hid (HK.out.below _ _ HI.out ((Below.refl wr.heap.size wr).alloc (Nat.le_refl _) (.cells #[.int .i64 0, .int .i64 0, .string ⟨#[]⟩, .int .i64 0] 179)))
        have hsz0 := HLS.out.size
        clear hb hk0 HCA HG
        go_wp2_with fail
        refine (HFA.out).mono ?_
        rintro r w2 ⟨rfl, rfl⟩
        go_wp2_with fail
        refine (HXB.out).mono ?_
        rintro r w5 ⟨rfl, y, hpl, hc5, hx5, ht5⟩
        have HLS5 := Lib.hid ((HLS.out.elem hc5 ht5).keep (Below.drew (Below.refl _ _)))
        have HX5 : Hid (Blk w5.drew wr.heap.size 179 y.parts.toArray) := hx5
        have HI5 : Hid (Inv w5.drew) := Lib.hid (HK.out.below _ _ (HK.out.tw _ _ wr.heap.size 179 _ sx HIa.out (Blk.alloc HLS.out.cr.rd _) (Blk.new _ _ _) (by decide) (by decide) ht5) (Below.drew (Below.refl _ _)))
        rw [← hpl] at HC2
        have HPN := Lib.hid (show (ys ++ [y]).map LineD.pl = ys.map LineD.pl ++ [y.pl] by simp)
        rw [← HPN.out] at HC2
        have QB := Lib.hid (LineD.one y)
        have QC : Hid (ys.length + 1 ≤ maxLen) := by show _ ≤ _; unfold maxLen; omega
        have QD : Hid ((ys.length + 1) * 40 ≤ 140737488355328) := by show _ ≤ _; omega
        have QE : Hid (w.heap.size ≤ w5.heap.size) := Lib.hid (Nat.le_trans hsz0 (Nat.le_trans (by simp) ht5.size))
        clear hpl hc5 hx5 ht5 HXB HIa HLS HI cp HFA  
        have cx := HX5.out.cell
        obtain ⟨y0, y1, y2, y3⟩ := y
        simp only [LineD.parts] at HX5 QB
        have d0 : w5.cell? ⟨wr.heap.size, 0, none⟩ = some (.int .i64 y0) := HX5.out.cell 0
        have d1 : w5.cell? ⟨wr.heap.size, 1, none⟩ = some (.int .i64 y1) := HX5.out.cell 1
        have d2 : w5.cell? ⟨wr.heap.size, 2, none⟩ = some (.string ⟨y2.toArray⟩) := HX5.out.cell 2
        have d3 : w5.cell? ⟨wr.heap.size, 3, none⟩ = some (.int .i64 y3) := HX5.out.cell 3
        clear cx
        have cp5 : w5.cell? ⟨ib, off, none⟩ = some (.slice A ys.length c) := HLS5.out.cell
        have cp6 : (w5.alloc (.cells #[.int .i64 y0, .int .i64 y1, .string ⟨y2.toArray⟩, .int .i64 y3] 179)).cell? ⟨ib, off, none⟩ = some (.slice A ys.length c) := HLS5.out.cellA _
        go_wp2_with fail
        go_region_law
          ((have h5 := HLS5.out.own.alloc (.cells #[.int .i64 y0, .int .i64 y1, .string ⟨y2.toArray⟩, .int .i64 y3] 179); refine step_append_own (by rfl) _ _ 41 (by rfl) w.heap.size 179 k0 (.agg #[.int .i64 0, .int .i64 0, .string ByteArray.empty, .int .i64 0]) 4 40 Tryd.underlying41 hk hy0 hy1 hy2 rfl (by decide) _ _ _ (by rfl) h5 ⟨w5.heap.size, 0, none⟩ 1 1 [.int .i64 y0, .int .i64 y1, .string ⟨y2.toArray⟩, .int .i64 y3] (by rfl) (by rfl) (World.news_of_block (heap_alloc_new w5.drew _)) QB.out QC.out QD.out (Nat.le_trans QE.out (by simp [World.drew])) ?_; intro v6 w6 hown6 hgrow6; obtain ⟨A6, c6, rfl⟩ := own_shape hown6; have hap := LS.app (y := ⟨y0, y1, y2, y3⟩) HLS5.out hgrow6 hown6; have HB6 := Lib.hid hap.1; have HLS6 := Lib.hid hap.2; have HI6 := Lib.hid (HK.out.below _ _ HI5.out ((Below.refl _ _).alloc (Nat.le_refl _) (.cells #[.int .i64 y0, .int .i64 y1, .string ⟨y2.toArray⟩, .int .i64 y3] 179))); have HG6 := Lib.hid hgrow6; have f6 := HB6.out.frozen off; have c6' : w6.cell? ⟨ib, off, none⟩ = some (.slice A ys.length c) := (HB6.out.cell off).trans (by simp [hoff]); clear hown6 hap h5 hgrow6))
        all_goals
          clear cp5 cp6 d0 d1 d2 d3
          have HI7 : Hid (Inv (w6.setCell ⟨ib, off, none⟩ (.slice A6 (ys.length + 1) c6))) := Lib.hid (by
            exact HK.out.app HI6.out HG6.out HLS5.out.own HB6.out HTI.out.1 HTI.out.2 (by decide) (by decide))
          go_wp2
          go_roundw
          case rel => exact ⟨k', ys ++ [⟨y0, y1, y2, y3⟩], _, _, by go_num, by omega, HLS6, HC2, HG2, HI7⟩
          case measure => simp [intOf]

theorem SpanInfo : (Tryd.prog.info? 185).map (fun i => (i.zero, i.size, i.bytes)) = some (some (.agg #[.int .i64 0, .int .i64 0]), 2, 16) := by kernel_rfl
theorem SpanD.one (x : SpanD) : ∀ v ∈ x.parts, v.oneCell' = true := by
  intro v hv
  simp only [SpanD.parts, List.mem_cons, List.not_mem_nil, or_false] at hv
  rcases hv with rfl | rfl <;> rfl
/-- What the reading of this list leaves. -/
def GotListSpan (cb g ib off : Nat) (ti : TypeId) (ci : Array Value) (w : World) (st : St) (e : Ending) (wz : World) : Prop :=
  e = .returned (.tuple #[]) ∧ ∃ s : SlD SpanD, s.xs.map SpanD.pl = (rLst rSpan st).1 ∧ wz.ownsRow w.heap.size 185 2 (.slice s.A s.xs.length s.c) s.xs.length (s.xs.flatMap SpanD.parts) ∧
    Blk wz ib ti (ci.setIfInBounds off (.slice s.A s.xs.length s.c)) ∧ CR cb g (rLst rSpan st).2 wz ∧ Tw g ib w wz

set_option maxHeartbeats 8000000 in
set_option maxRecDepth 100000 in
theorem listSpan_r {cb g ib off : Nat} {w : World} {ti : TypeId} {ci : Array Value} {st : St} (Inv : World → Prop) (cap : Addr) (hK : KeepsR g Inv) (hI : Inv w) (h : CR cb g st w) (hg : st.Good) (hl : st.rest.length ≤ 1048576)
    (hp : Blk w ib ti ci) (hti : ti ≠ 185) (ht104 : ti ≠ 104) (ht110 : ti ≠ 110) (hpc : ib ≠ cb) (hpg : ib ≠ g) (hpv : ci[off]? = some (.slice none 0 0))
    (hone : ∀ (wx : World) (sx : St) (xb : Nat), Inv wx → CR cb g sx wx → sx.Good → sx.rest.length ≤ 1048576 → Blk wx xb 185 #[.int .i64 0, .int .i64 0] → xb ≠ cb → xb ≠ g →
      Calls Tryd.prog 82 #[.pointer (some ⟨xb, 0, none⟩), .pointer (some cap)] wx (fun e w2 => e = .returned (.tuple #[]) ∧ ∃ y : SpanD, y.pl = (rSpan sx).1 ∧ CR cb g (rSpan sx).2 w2 ∧ Blk w2 xb 185 y.parts.toArray ∧ Tw g xb wx w2)) :
    Calls Tryd.prog 81 #[.pointer (some ⟨cb, 0, none⟩), .pointer (some ⟨ib, off, none⟩), .func (.func 82) #[] #[.pointer (some cap)]] w (GotListSpan cb g ib off ti ci w st) := by
  obtain ⟨k0, hk, hy0, hy1, hy2⟩ := info_parts SpanInfo
  have HONE := Lib.hid hone
  have HK := Lib.hid hK
  have hiblt := hp.lt
  have hoff : off < ci.size := by
    rcases Nat.lt_or_ge off ci.size with h1 | h1
    · exact h1
    · rw [Array.getElem?_eq_none h1] at hpv; cases hpv
  have hci : ci.setIfInBounds off (.slice none 0 0) = ci := by
    apply Array.ext_getElem?
    intro j
    rw [Array.getElem?_setIfInBounds]
    split
    · rename_i hj; subst hj; first | rw [if_pos hoff, hpv] | rw [hpv]
    · rfl
  have HLS0 : Hid (LS SpanD.parts 2 185 ti cb g ib off ci w [] (.slice none 0 0) st w) := Lib.hid ⟨h, by rw [hci]; exact hp, World.ownsRow_nil _ _ _ _, Tw.refl _ _ _, hiblt, hpg, hpc, hoff, by decide, by decide, hti⟩
  have HN := Lib.hid (rNum_any g st w h.rd (by omega))
  have hn1 := rNum_lt st
  have hn2 := rNum_rest_le st
  have HG1 := Lib.hid (rNum_good st hg)
  have cin := h.in_
  have HI := Lib.hid hI
  have HRL : Hid (rLst rSpan st = rItems rSpan (rNum st).1 (rNum st).2) := rfl
  unfold GotListSpan
  obtain ⟨RES, hRES⟩ : ∃ R, rLst rSpan st = R := ⟨_, rfl⟩
  rw [hRES] at HRL ⊢
  generalize rNum st = z at HN hn1 hn2 HG1 HRL
  obtain ⟨nn, s1⟩ := z
  simp only at HN hn1 hn2 HG1 HRL
  have hnn : (nn : Int) ≤ 9223372036854775807 := by omega
  have HTI := Lib.hid (And.intro ht104 ht110)
  clear hRES hone hK h hg hp hti ht104 ht110 hpc hpg hpv hci hI hn1
  go_enter Tryd.func81, Tryd.ntmps81
  go_wp2_with fail
  refine (HN.out).mono ?_
  rintro r w1 ⟨rfl, hr1⟩
  have HLS1 : Hid (LS SpanD.parts 2 185 ti cb g ib off ci w [] (.slice none 0 0) s1 w1) := Lib.hid (by
    have h0 := HLS0.out
    exact ⟨h0.cr.to_ hr1, h0.blk.grown hr1.only (by simpa using h0.hg), World.ownsRow_nil _ _ _ _, h0.tw.trans (Tw.of_only hr1.only), h0.hib, h0.hg, h0.hc, h0.off, h0.t98, h0.t83, h0.tti⟩)
  have HI1 : Hid (Inv w1) := Lib.hid (HK.out.tw w w1 ib ti _ st HI.out HLS0.out.cr.rd HLS0.out.blk HTI.out.1 HTI.out.2 (Tw.of_only hr1.only))
  clear hr1 HN HI HLS0 cin
  go_wp2_with fail
  go_loopw [8] (fun vn wr => ∃ (kk : Nat) (ys : List SpanD) (v : Value) (sx : St), vn = .int .i64 kk ∧ (kk : Int) ≤ 9223372036854775807 ∧ Hid (LS SpanD.parts 2 185 ti cb g ib off ci w ys v sx wr) ∧ Hid (Came rSpan 1048576 nn s1 kk (ys.map SpanD.pl) sx) ∧ Hid sx.Good ∧ Hid (Inv wr)) (fun vn _ => (intOf vn).toNat)
  case atStart => exact ⟨nn, [], _, s1, rfl, hnn, HLS1, Came.start (by omega), HG1, HI1⟩
  case round =>
    clear HLS1 HG1 HI1
    obtain ⟨kk, ys, v, sx, rfl, hkk, HLS, HCA, HG, HI⟩ := hrel
    obtain ⟨A, c, rfl⟩ := own_shape HLS.out.own
    have hyl := HCA.out.len
    rw [List.length_map] at hyl
    have hrl := HCA.out.rest
    have cp := HLS.out.cell
    have HFA := Lib.hid (failed_any cb g sx wr HLS.out.cr HG.out)
    by_cases hk0 : kk = 0
    · have HST := Lib.hid (HCA.out.stop (.inl hk0))
      subst hk0
      go_wp2
      go_end0
      exact ⟨rfl, ⟨A, c, ys⟩, by rw [HRL.out, HST.out], HLS.out.own, HLS.out.blk, by rw [HRL.out, HST.out]; exact HLS.out.cr, HLS.out.tw⟩
    · have hk1 : 1 ≤ kk := by omega
      have hki : (0 : Int) < (kk : Int) := by omega
      cases hb : sx.bad with
      | true =>
        have HST := Lib.hid (HCA.out.stop (.inr hb))
        rw [hb] at HFA
        clear hb hk0
        go_wp2_with fail
        refine (HFA.out).mono ?_
        rintro r w2 ⟨rfl, rfl⟩
        go_wp2
        go_end0
        exact ⟨rfl, ⟨A, c, ys⟩, by rw [HRL.out, HST.out], HLS.out.own, HLS.out.blk, by rw [HRL.out, HST.out]; exact HLS.out.cr, HLS.out.tw⟩
      | false =>
        obtain ⟨k', rfl⟩ : ∃ k', kk = k' + 1 := ⟨kk - 1, by omega⟩
        have HC2 := Lib.hid (HCA.out.step rSpan_less rSpan_rok.le hb)
        have HG2 := Lib.hid (rSpan_rok.good sx HG.out)
        rw [hb] at HFA
        have HXB := Lib.hid (HONE.out (wr.alloc (.cells #[.int .i64 0, .int .i64 0] 185)) sx wr.heap.size (HK.out.below _ _ HI.out ((Below.refl _ _).alloc (Nat.le_refl _) _)) (HLS.out.cr.alloc _) HG.out hrl (Blk.new _ _ _) (by have := HLS.out.cr.blk.lt; omega) (by have := HLS.out.cr.rd.lt; omega))
        have HIa := Lib.hid (HK.out.below _ _ HI.out ((Below.refl wr.heap.size wr).alloc (Nat.le_refl _) (.cells #[.int .i64 0, .int .i64 0] 185)))
        have hsz0 := HLS.out.size
        clear hb hk0 HCA HG
        go_wp2_with fail
        refine (HFA.out).mono ?_
        rintro r w2 ⟨rfl, rfl⟩
        go_wp2_with fail
        refine (HXB.out).mono ?_
        rintro r w5 ⟨rfl, y, hpl, hc5, hx5, ht5⟩
        have HLS5 := Lib.hid ((HLS.out.elem hc5 ht5).keep (Below.drew (Below.refl _ _)))
        have HX5 : Hid (Blk w5.drew wr.heap.size 185 y.parts.toArray) := hx5
        have HI5 : Hid (Inv w5.drew) := Lib.hid (HK.out.below _ _ (HK.out.tw _ _ wr.heap.size 185 _ sx HIa.out (Blk.alloc HLS.out.cr.rd _) (Blk.new _ _ _) (by decide) (by decide) ht5) (Below.drew (Below.refl _ _)))
        rw [← hpl] at HC2
        have HPN := Lib.hid (show (ys ++ [y]).map SpanD.pl = ys.map SpanD.pl ++ [y.pl] by simp)
        rw [← HPN.out] at HC2
        have QB := Lib.hid (SpanD.one y)
        have QC : Hid (ys.length + 1 ≤ maxLen) := by show _ ≤ _; unfold maxLen; omega
        have QD : Hid ((ys.length + 1) * 16 ≤ 140737488355328) := by show _ ≤ _; omega
        have QE : Hid (w.heap.size ≤ w5.heap.size) := Lib.hid (Nat.le_trans hsz0 (Nat.le_trans (by simp) ht5.size))
        clear hpl hc5 hx5 ht5 HXB HIa HLS HI cp HFA  
        have cx := HX5.out.cell
        obtain ⟨y0, y1⟩ := y
        simp only [SpanD.parts] at HX5 QB
        have d0 : w5.cell? ⟨wr.heap.size, 0, none⟩ = some (.int .i64 y0) := HX5.out.cell 0
        have d1 : w5.cell? ⟨wr.heap.size, 1, none⟩ = some (.int .i64 y1) := HX5.out.cell 1
        clear cx
        have cp5 : w5.cell? ⟨ib, off, none⟩ = some (.slice A ys.length c) := HLS5.out.cell
        have cp6 : (w5.alloc (.cells #[.int .i64 y0, .int .i64 y1] 185)).cell? ⟨ib, off, none⟩ = some (.slice A ys.length c) := HLS5.out.cellA _
        go_wp2_with fail
        go_region_law
          ((have h5 := HLS5.out.own.alloc (.cells #[.int .i64 y0, .int .i64 y1] 185); refine step_append_own (by rfl) _ _ 42 (by rfl) w.heap.size 185 k0 (.agg #[.int .i64 0, .int .i64 0]) 2 16 Tryd.underlying42 hk hy0 hy1 hy2 rfl (by decide) _ _ _ (by rfl) h5 ⟨w5.heap.size, 0, none⟩ 1 1 [.int .i64 y0, .int .i64 y1] (by rfl) (by rfl) (World.news_of_block (heap_alloc_new w5.drew _)) QB.out QC.out QD.out (Nat.le_trans QE.out (by simp [World.drew])) ?_; intro v6 w6 hown6 hgrow6; obtain ⟨A6, c6, rfl⟩ := own_shape hown6; have hap := LS.app (y := ⟨y0, y1⟩) HLS5.out hgrow6 hown6; have HB6 := Lib.hid hap.1; have HLS6 := Lib.hid hap.2; have HI6 := Lib.hid (HK.out.below _ _ HI5.out ((Below.refl _ _).alloc (Nat.le_refl _) (.cells #[.int .i64 y0, .int .i64 y1] 185))); have HG6 := Lib.hid hgrow6; have f6 := HB6.out.frozen off; have c6' : w6.cell? ⟨ib, off, none⟩ = some (.slice A ys.length c) := (HB6.out.cell off).trans (by simp [hoff]); clear hown6 hap h5 hgrow6))
        all_goals
          clear cp5 cp6 d0 d1
          have HI7 : Hid (Inv (w6.setCell ⟨ib, off, none⟩ (.slice A6 (ys.length + 1) c6))) := Lib.hid (by
            exact HK.out.app HI6.out HG6.out HLS5.out.own HB6.out HTI.out.1 HTI.out.2 (by decide) (by decide))
          go_wp2
          go_roundw
          case rel => exact ⟨k', ys ++ [⟨y0, y1⟩], _, _, by go_num, by omega, HLS6, HC2, HG2, HI7⟩
          case measure => simp [intOf]

theorem InlineInfo : (Tryd.prog.info? 191).map (fun i => (i.zero, i.size, i.bytes)) = some (some (.agg #[.int .i64 0, .int .i64 0, .int .i64 0, .string ByteArray.empty, .string ByteArray.empty, .int .i64 0]), 6, 64) := by kernel_rfl
theorem InlineD.one (x : InlineD) : ∀ v ∈ x.parts, v.oneCell' = true := by
  intro v hv
  simp only [InlineD.parts, List.mem_cons, List.not_mem_nil, or_false] at hv
  rcases hv with rfl | rfl | rfl | rfl | rfl | rfl <;> rfl
/-- What the reading of this list leaves. -/
def GotListInline (cb g ib off : Nat) (ti : TypeId) (ci : Array Value) (w : World) (st : St) (e : Ending) (wz : World) : Prop :=
  e = .returned (.tuple #[]) ∧ ∃ s : SlD InlineD, s.xs.map InlineD.pl = (rLst rInline st).1 ∧ wz.ownsRow w.heap.size 191 6 (.slice s.A s.xs.length s.c) s.xs.length (s.xs.flatMap InlineD.parts) ∧
    Blk wz ib ti (ci.setIfInBounds off (.slice s.A s.xs.length s.c)) ∧ CR cb g (rLst rInline st).2 wz ∧ Tw g ib w wz

set_option maxHeartbeats 8000000 in
set_option maxRecDepth 100000 in
theorem listInline_r {cb g ib off : Nat} {w : World} {ti : TypeId} {ci : Array Value} {st : St} (Inv : World → Prop) (cap : Addr) (hK : KeepsR g Inv) (hI : Inv w) (h : CR cb g st w) (hg : st.Good) (hl : st.rest.length ≤ 1048576)
    (hp : Blk w ib ti ci) (hti : ti ≠ 191) (ht104 : ti ≠ 104) (ht110 : ti ≠ 110) (hpc : ib ≠ cb) (hpg : ib ≠ g) (hpv : ci[off]? = some (.slice none 0 0))
    (hone : ∀ (wx : World) (sx : St) (xb : Nat), Inv wx → CR cb g sx wx → sx.Good → sx.rest.length ≤ 1048576 → Blk wx xb 191 #[.int .i64 0, .int .i64 0, .int .i64 0, .string ⟨#[]⟩, .string ⟨#[]⟩, .int .i64 0] → xb ≠ cb → xb ≠ g →
      Calls Tryd.prog 84 #[.pointer (some ⟨xb, 0, none⟩), .pointer (some cap)] wx (fun e w2 => e = .returned (.tuple #[]) ∧ ∃ y : InlineD, y.pl = (rInline sx).1 ∧ CR cb g (rInline sx).2 w2 ∧ Blk w2 xb 191 y.parts.toArray ∧ Tw g xb wx w2)) :
    Calls Tryd.prog 83 #[.pointer (some ⟨cb, 0, none⟩), .pointer (some ⟨ib, off, none⟩), .func (.func 84) #[] #[.pointer (some cap)]] w (GotListInline cb g ib off ti ci w st) := by
  obtain ⟨k0, hk, hy0, hy1, hy2⟩ := info_parts InlineInfo
  have HONE := Lib.hid hone
  have HK := Lib.hid hK
  have hiblt := hp.lt
  have hoff : off < ci.size := by
    rcases Nat.lt_or_ge off ci.size with h1 | h1
    · exact h1
    · rw [Array.getElem?_eq_none h1] at hpv; cases hpv
  have hci : ci.setIfInBounds off (.slice none 0 0) = ci := by
    apply Array.ext_getElem?
    intro j
    rw [Array.getElem?_setIfInBounds]
    split
    · rename_i hj; subst hj; first | rw [if_pos hoff, hpv] | rw [hpv]
    · rfl
  have HLS0 : Hid (LS InlineD.parts 6 191 ti cb g ib off ci w [] (.slice none 0 0) st w) := Lib.hid ⟨h, by rw [hci]; exact hp, World.ownsRow_nil _ _ _ _, Tw.refl _ _ _, hiblt, hpg, hpc, hoff, by decide, by decide, hti⟩
  have HN := Lib.hid (rNum_any g st w h.rd (by omega))
  have hn1 := rNum_lt st
  have hn2 := rNum_rest_le st
  have HG1 := Lib.hid (rNum_good st hg)
  have cin := h.in_
  have HI := Lib.hid hI
  have HRL : Hid (rLst rInline st = rItems rInline (rNum st).1 (rNum st).2) := rfl
  unfold GotListInline
  obtain ⟨RES, hRES⟩ : ∃ R, rLst rInline st = R := ⟨_, rfl⟩
  rw [hRES] at HRL ⊢
  generalize rNum st = z at HN hn1 hn2 HG1 HRL
  obtain ⟨nn, s1⟩ := z
  simp only at HN hn1 hn2 HG1 HRL
  have hnn : (nn : Int) ≤ 9223372036854775807 := by omega
  have HTI := Lib.hid (And.intro ht104 ht110)
  clear hRES hone hK h hg hp hti ht104 ht110 hpc hpg hpv hci hI hn1
  go_enter Tryd.func83, Tryd.ntmps83
  go_wp2_with fail
  refine (HN.out).mono ?_
  rintro r w1 ⟨rfl, hr1⟩
  have HLS1 : Hid (LS InlineD.parts 6 191 ti cb g ib off ci w [] (.slice none 0 0) s1 w1) := Lib.hid (by
    have h0 := HLS0.out
    exact ⟨h0.cr.to_ hr1, h0.blk.grown hr1.only (by simpa using h0.hg), World.ownsRow_nil _ _ _ _, h0.tw.trans (Tw.of_only hr1.only), h0.hib, h0.hg, h0.hc, h0.off, h0.t98, h0.t83, h0.tti⟩)
  have HI1 : Hid (Inv w1) := Lib.hid (HK.out.tw w w1 ib ti _ st HI.out HLS0.out.cr.rd HLS0.out.blk HTI.out.1 HTI.out.2 (Tw.of_only hr1.only))
  clear hr1 HN HI HLS0 cin
  go_wp2_with fail
  go_loopw [8] (fun vn wr => ∃ (kk : Nat) (ys : List InlineD) (v : Value) (sx : St), vn = .int .i64 kk ∧ (kk : Int) ≤ 9223372036854775807 ∧ Hid (LS InlineD.parts 6 191 ti cb g ib off ci w ys v sx wr) ∧ Hid (Came rInline 1048576 nn s1 kk (ys.map InlineD.pl) sx) ∧ Hid sx.Good ∧ Hid (Inv wr)) (fun vn _ => (intOf vn).toNat)
  case atStart => exact ⟨nn, [], _, s1, rfl, hnn, HLS1, Came.start (by omega), HG1, HI1⟩
  case round =>
    clear HLS1 HG1 HI1
    obtain ⟨kk, ys, v, sx, rfl, hkk, HLS, HCA, HG, HI⟩ := hrel
    obtain ⟨A, c, rfl⟩ := own_shape HLS.out.own
    have hyl := HCA.out.len
    rw [List.length_map] at hyl
    have hrl := HCA.out.rest
    have cp := HLS.out.cell
    have HFA := Lib.hid (failed_any cb g sx wr HLS.out.cr HG.out)
    by_cases hk0 : kk = 0
    · have HST := Lib.hid (HCA.out.stop (.inl hk0))
      subst hk0
      go_wp2
      go_end0
      exact ⟨rfl, ⟨A, c, ys⟩, by rw [HRL.out, HST.out], HLS.out.own, HLS.out.blk, by rw [HRL.out, HST.out]; exact HLS.out.cr, HLS.out.tw⟩
    · have hk1 : 1 ≤ kk := by omega
      have hki : (0 : Int) < (kk : Int) := by omega
      cases hb : sx.bad with
      | true =>
        have HST := Lib.hid (HCA.out.stop (.inr hb))
        rw [hb] at HFA
        clear hb hk0
        go_wp2_with fail
        refine (HFA.out).mono ?_
        rintro r w2 ⟨rfl, rfl⟩
        go_wp2
        go_end0
        exact ⟨rfl, ⟨A, c, ys⟩, by rw [HRL.out, HST.out], HLS.out.own, HLS.out.blk, by rw [HRL.out, HST.out]; exact HLS.out.cr, HLS.out.tw⟩
      | false =>
        obtain ⟨k', rfl⟩ : ∃ k', kk = k' + 1 := ⟨kk - 1, by omega⟩
        have HC2 := Lib.hid (HCA.out.step rInline_less rInline_rok.le hb)
        have HG2 := Lib.hid (rInline_rok.good sx HG.out)
        rw [hb] at HFA
        have HXB := Lib.hid (HONE.out (wr.alloc (.cells #[.int .i64 0, .int .i64 0, .int .i64 0, .string ⟨#[]⟩, .string ⟨#[]⟩, .int .i64 0] 191)) sx wr.heap.size (HK.out.below _ _ HI.out ((Below.refl _ _).alloc (Nat.le_refl _) _)) (HLS.out.cr.alloc _) HG.out hrl (Blk.new _ _ _) (by have := HLS.out.cr.blk.lt; omega) (by have := HLS.out.cr.rd.lt; omega))
        have HIa := Lib.hid (HK.out.below _ _ HI.out ((Below.refl wr.heap.size wr).alloc (Nat.le_refl _) (.cells #[.int .i64 0, .int .i64 0, .int .i64 0, .string ⟨#[]⟩, .string ⟨#[]⟩, .int .i64 0] 191)))
        have hsz0 := HLS.out.size
        clear hb hk0 HCA HG
        go_wp2_with fail
        refine (HFA.out).mono ?_
        rintro r w2 ⟨rfl, rfl⟩
        go_wp2_with fail
        refine (HXB.out).mono ?_
        rintro r w5 ⟨rfl, y, hpl, hc5, hx5, ht5⟩
        have HLS5 := Lib.hid ((HLS.out.elem hc5 ht5).keep (Below.drew (Below.refl _ _)))
        have HX5 : Hid (Blk w5.drew wr.heap.size 191 y.parts.toArray) := hx5
        have HI5 : Hid (Inv w5.drew) := Lib.hid (HK.out.below _ _ (HK.out.tw _ _ wr.heap.size 191 _ sx HIa.out (Blk.alloc HLS.out.cr.rd _) (Blk.new _ _ _) (by decide) (by decide) ht5) (Below.drew (Below.refl _ _)))
        rw [← hpl] at HC2
        have HPN := Lib.hid (show (ys ++ [y]).map InlineD.pl = ys.map InlineD.pl ++ [y.pl] by simp)
        rw [← HPN.out] at HC2
        have QB := Lib.hid (InlineD.one y)
        have QC : Hid (ys.length + 1 ≤ maxLen) := by show _ ≤ _; unfold maxLen; omega
        have QD : Hid ((ys.length + 1) * 64 ≤ 140737488355328) := by show _ ≤ _; omega
        have QE : Hid (w.heap.size ≤ w5.heap.size) := Lib.hid (Nat.le_trans hsz0 (Nat.le_trans (by simp) ht5.size))
        clear hpl hc5 hx5 ht5 HXB HIa HLS HI cp HFA  
        have cx := HX5.out.cell
        obtain ⟨y0, y1, y2, y3, y4, y5⟩ := y
        simp only [InlineD.parts] at HX5 QB
        have d0 : w5.cell? ⟨wr.heap.size, 0, none⟩ = some (.int .i64 y0) := HX5.out.cell 0
        have d1 : w5.cell? ⟨wr.heap.size, 1, none⟩ = some (.int .i64 y1) := HX5.out.cell 1
        have d2 : w5.cell? ⟨wr.heap.size, 2, none⟩ = some (.int .i64 y2) := HX5.out.cell 2
        have d3 : w5.cell? ⟨wr.heap.size, 3, none⟩ = some (.string ⟨y3.toArray⟩) := HX5.out.cell 3
        have d4 : w5.cell? ⟨wr.heap.size, 4, none⟩ = some (.string ⟨y4.toArray⟩) := HX5.out.cell 4
        have d5 : w5.cell? ⟨wr.heap.size, 5, none⟩ = some (.int .i64 y5) := HX5.out.cell 5
        clear cx
        have cp5 : w5.cell? ⟨ib, off, none⟩ = some (.slice A ys.length c) := HLS5.out.cell
        have cp6 : (w5.alloc (.cells #[.int .i64 y0, .int .i64 y1, .int .i64 y2, .string ⟨y3.toArray⟩, .string ⟨y4.toArray⟩, .int .i64 y5] 191)).cell? ⟨ib, off, none⟩ = some (.slice A ys.length c) := HLS5.out.cellA _
        go_wp2_with fail
        go_region_law
          ((have h5 := HLS5.out.own.alloc (.cells #[.int .i64 y0, .int .i64 y1, .int .i64 y2, .string ⟨y3.toArray⟩, .string ⟨y4.toArray⟩, .int .i64 y5] 191); refine step_append_own (by rfl) _ _ 43 (by rfl) w.heap.size 191 k0 (.agg #[.int .i64 0, .int .i64 0, .int .i64 0, .string ByteArray.empty, .string ByteArray.empty, .int .i64 0]) 6 64 Tryd.underlying43 hk hy0 hy1 hy2 rfl (by decide) _ _ _ (by rfl) h5 ⟨w5.heap.size, 0, none⟩ 1 1 [.int .i64 y0, .int .i64 y1, .int .i64 y2, .string ⟨y3.toArray⟩, .string ⟨y4.toArray⟩, .int .i64 y5] (by rfl) (by rfl) (World.news_of_block (heap_alloc_new w5.drew _)) QB.out QC.out QD.out (Nat.le_trans QE.out (by simp [World.drew])) ?_; intro v6 w6 hown6 hgrow6; obtain ⟨A6, c6, rfl⟩ := own_shape hown6; have hap := LS.app (y := ⟨y0, y1, y2, y3, y4, y5⟩) HLS5.out hgrow6 hown6; have HB6 := Lib.hid hap.1; have HLS6 := Lib.hid hap.2; have HI6 := Lib.hid (HK.out.below _ _ HI5.out ((Below.refl _ _).alloc (Nat.le_refl _) (.cells #[.int .i64 y0, .int .i64 y1, .int .i64 y2, .string ⟨y3.toArray⟩, .string ⟨y4.toArray⟩, .int .i64 y5] 191))); have HG6 := Lib.hid hgrow6; have f6 := HB6.out.frozen off; have c6' : w6.cell? ⟨ib, off, none⟩ = some (.slice A ys.length c) := (HB6.out.cell off).trans (by simp [hoff]); clear hown6 hap h5 hgrow6))
        all_goals
          clear cp5 cp6 d0 d1 d2 d3 d4 d5
          have HI7 : Hid (Inv (w6.setCell ⟨ib, off, none⟩ (.slice A6 (ys.length + 1) c6))) := Lib.hid (by
            exact HK.out.app HI6.out HG6.out HLS5.out.own HB6.out HTI.out.1 HTI.out.2 (by decide) (by decide))
          go_wp2
          go_roundw
          case rel => exact ⟨k', ys ++ [⟨y0, y1, y2, y3, y4, y5⟩], _, _, by go_num, by omega, HLS6, HC2, HG2, HI7⟩
          case measure => simp [intOf]

theorem VarIInfo : (Tryd.prog.info? 197).map (fun i => (i.zero, i.size, i.bytes)) = some (some (.agg #[.int .i64 0, .int .i64 0, .int .i64 0, .string ByteArray.empty, .int .i64 0, .int .i64 0]), 6, 56) := by kernel_rfl
theorem VarID.one (x : VarID) : ∀ v ∈ x.parts, v.oneCell' = true := by
  intro v hv
  simp only [VarID.parts, List.mem_cons, List.not_mem_nil, or_false] at hv
  rcases hv with rfl | rfl | rfl | rfl | rfl | rfl <;> rfl
/-- What the reading of this list leaves. -/
def GotListVarI (cb g ib off : Nat) (ti : TypeId) (ci : Array Value) (w : World) (st : St) (e : Ending) (wz : World) : Prop :=
  e = .returned (.tuple #[]) ∧ ∃ s : SlD VarID, s.xs.map VarID.pl = (rLst rVarI st).1 ∧ wz.ownsRow w.heap.size 197 6 (.slice s.A s.xs.length s.c) s.xs.length (s.xs.flatMap VarID.parts) ∧
    Blk wz ib ti (ci.setIfInBounds off (.slice s.A s.xs.length s.c)) ∧ CR cb g (rLst rVarI st).2 wz ∧ Tw g ib w wz

set_option maxHeartbeats 8000000 in
set_option maxRecDepth 100000 in
theorem listVarI_r {cb g ib off : Nat} {w : World} {ti : TypeId} {ci : Array Value} {st : St} (Inv : World → Prop) (cap : Addr) (hK : KeepsR g Inv) (hI : Inv w) (h : CR cb g st w) (hg : st.Good) (hl : st.rest.length ≤ 1048576)
    (hp : Blk w ib ti ci) (hti : ti ≠ 197) (ht104 : ti ≠ 104) (ht110 : ti ≠ 110) (hpc : ib ≠ cb) (hpg : ib ≠ g) (hpv : ci[off]? = some (.slice none 0 0))
    (hone : ∀ (wx : World) (sx : St) (xb : Nat), Inv wx → CR cb g sx wx → sx.Good → sx.rest.length ≤ 1048576 → Blk wx xb 197 #[.int .i64 0, .int .i64 0, .int .i64 0, .string ⟨#[]⟩, .int .i64 0, .int .i64 0] → xb ≠ cb → xb ≠ g →
      Calls Tryd.prog 86 #[.pointer (some ⟨xb, 0, none⟩), .pointer (some cap)] wx (fun e w2 => e = .returned (.tuple #[]) ∧ ∃ y : VarID, y.pl = (rVarI sx).1 ∧ CR cb g (rVarI sx).2 w2 ∧ Blk w2 xb 197 y.parts.toArray ∧ Tw g xb wx w2)) :
    Calls Tryd.prog 85 #[.pointer (some ⟨cb, 0, none⟩), .pointer (some ⟨ib, off, none⟩), .func (.func 86) #[] #[.pointer (some cap)]] w (GotListVarI cb g ib off ti ci w st) := by
  obtain ⟨k0, hk, hy0, hy1, hy2⟩ := info_parts VarIInfo
  have HONE := Lib.hid hone
  have HK := Lib.hid hK
  have hiblt := hp.lt
  have hoff : off < ci.size := by
    rcases Nat.lt_or_ge off ci.size with h1 | h1
    · exact h1
    · rw [Array.getElem?_eq_none h1] at hpv; cases hpv
  have hci : ci.setIfInBounds off (.slice none 0 0) = ci := by
    apply Array.ext_getElem?
    intro j
    rw [Array.getElem?_setIfInBounds]
    split
    · rename_i hj; subst hj; first | rw [if_pos hoff, hpv] | rw [hpv]
    · rfl
  have HLS0 : Hid (LS VarID.parts 6 197 ti cb g ib off ci w [] (.slice none 0 0) st w) := Lib.hid ⟨h, by rw [hci]; exact hp, World.ownsRow_nil _ _ _ _, Tw.refl _ _ _, hiblt, hpg, hpc, hoff, by decide, by decide, hti⟩
  have HN := Lib.hid (rNum_any g st w h.rd (by omega))
  have hn1 := rNum_lt st
  have hn2 := rNum_rest_le st
  have HG1 := Lib.hid (rNum_good st hg)
  have cin := h.in_
  have HI := Lib.hid hI
  have HRL : Hid (rLst rVarI st = rItems rVarI (rNum st).1 (rNum st).2) := rfl
  unfold GotListVarI
  obtain ⟨RES, hRES⟩ : ∃ R, rLst rVarI st = R := ⟨_, rfl⟩
  rw [hRES] at HRL ⊢
  generalize rNum st = z at HN hn1 hn2 HG1 HRL
  obtain ⟨nn, s1⟩ := z
  simp only at HN hn1 hn2 HG1 HRL
  have hnn : (nn : Int) ≤ 9223372036854775807 := by omega
  have HTI := Lib.hid (And.intro ht104 ht110)
  clear hRES hone hK h hg hp hti ht104 ht110 hpc hpg hpv hci hI hn1
  go_enter Tryd.func85, Tryd.ntmps85
  go_wp2_with fail
  refine (HN.out).mono ?_
  rintro r w1 ⟨rfl, hr1⟩
  have HLS1 : Hid (LS VarID.parts 6 197 ti cb g ib off ci w [] (.slice none 0 0) s1 w1) := Lib.hid (by
    have h0 := HLS0.out
    exact ⟨h0.cr.to_ hr1, h0.blk.grown hr1.only (by simpa using h0.hg), World.ownsRow_nil _ _ _ _, h0.tw.trans (Tw.of_only hr1.only), h0.hib, h0.hg, h0.hc, h0.off, h0.t98, h0.t83, h0.tti⟩)
  have HI1 : Hid (Inv w1) := Lib.hid (HK.out.tw w w1 ib ti _ st HI.out HLS0.out.cr.rd HLS0.out.blk HTI.out.1 HTI.out.2 (Tw.of_only hr1.only))
  clear hr1 HN HI HLS0 cin
  go_wp2_with fail
  go_loopw [8] (fun vn wr => ∃ (kk : Nat) (ys : List VarID) (v : Value) (sx : St), vn = .int .i64 kk ∧ (kk : Int) ≤ 9223372036854775807 ∧ Hid (LS VarID.parts 6 197 ti cb g ib off ci w ys v sx wr) ∧ Hid (Came rVarI 1048576 nn s1 kk (ys.map VarID.pl) sx) ∧ Hid sx.Good ∧ Hid (Inv wr)) (fun vn _ => (intOf vn).toNat)
  case atStart => exact ⟨nn, [], _, s1, rfl, hnn, HLS1, Came.start (by omega), HG1, HI1⟩
  case round =>
    clear HLS1 HG1 HI1
    obtain ⟨kk, ys, v, sx, rfl, hkk, HLS, HCA, HG, HI⟩ := hrel
    obtain ⟨A, c, rfl⟩ := own_shape HLS.out.own
    have hyl := HCA.out.len
    rw [List.length_map] at hyl
    have hrl := HCA.out.rest
    have cp := HLS.out.cell
    have HFA := Lib.hid (failed_any cb g sx wr HLS.out.cr HG.out)
    by_cases hk0 : kk = 0
    · have HST := Lib.hid (HCA.out.stop (.inl hk0))
      subst hk0
      go_wp2
      go_end0
      exact ⟨rfl, ⟨A, c, ys⟩, by rw [HRL.out, HST.out], HLS.out.own, HLS.out.blk, by rw [HRL.out, HST.out]; exact HLS.out.cr, HLS.out.tw⟩
    · have hk1 : 1 ≤ kk := by omega
      have hki : (0 : Int) < (kk : Int) := by omega
      cases hb : sx.bad with
      | true =>
        have HST := Lib.hid (HCA.out.stop (.inr hb))
        rw [hb] at HFA
        clear hb hk0
        go_wp2_with fail
        refine (HFA.out).mono ?_
        rintro r w2 ⟨rfl, rfl⟩
        go_wp2
        go_end0
        exact ⟨rfl, ⟨A, c, ys⟩, by rw [HRL.out, HST.out], HLS.out.own, HLS.out.blk, by rw [HRL.out, HST.out]; exact HLS.out.cr, HLS.out.tw⟩
      | false =>
        obtain ⟨k', rfl⟩ : ∃ k', kk = k' + 1 := ⟨kk - 1, by omega⟩
        have HC2 := Lib.hid (HCA.out.step rVarI_less rVarI_rok.le hb)
        have HG2 := Lib.hid (rVarI_rok.good sx HG.out)
        rw [hb] at HFA
        have HXB := Lib.hid (HONE.out (wr.alloc (.cells #[.int .i64 0, .int .i64 0, .int .i64 0, .string ⟨#[]⟩, .int .i64 0, .int .i64 0] 197)) sx wr.heap.size (HK.out.below _ _ HI.out ((Below.refl _ _).alloc (Nat.le_refl _) _)) (HLS.out.cr.alloc _) HG.out hrl (Blk.new _ _ _) (by have := HLS.out.cr.blk.lt; omega) (by have := HLS.out.cr.rd.lt; omega))
        have HIa := Lib.hid (HK.out.below _ _ HI.out ((Below.refl wr.heap.size wr).alloc (Nat.le_refl _) (.cells #[.int .i64 0, .int .i64 0, .int .i64 0, .string ⟨#[]⟩, .int .i64 0, .int .i64 0] 197)))
        have hsz0 := HLS.out.size
        clear hb hk0 HCA HG
        go_wp2_with fail
        refine (HFA.out).mono ?_
        rintro r w2 ⟨rfl, rfl⟩
        go_wp2_with fail
        refine (HXB.out).mono ?_
        rintro r w5 ⟨rfl, y, hpl, hc5, hx5, ht5⟩
        have HLS5 := Lib.hid ((HLS.out.elem hc5 ht5).keep (Below.drew (Below.refl _ _)))
        have HX5 : Hid (Blk w5.drew wr.heap.size 197 y.parts.toArray) := hx5
        have HI5 : Hid (Inv w5.drew) := Lib.hid (HK.out.below _ _ (HK.out.tw _ _ wr.heap.size 197 _ sx HIa.out (Blk.alloc HLS.out.cr.rd _) (Blk.new _ _ _) (by decide) (by decide) ht5) (Below.drew (Below.refl _ _)))
        rw [← hpl] at HC2
        have HPN := Lib.hid (show (ys ++ [y]).map VarID.pl = ys.map VarID.pl ++ [y.pl] by simp)
        rw [← HPN.out] at HC2
        have QB := Lib.hid (VarID.one y)
        have QC : Hid (ys.length + 1 ≤ maxLen) := by show _ ≤ _; unfold maxLen; omega
        have QD : Hid ((ys.length + 1) * 56 ≤ 140737488355328) := by show _ ≤ _; omega
        have QE : Hid (w.heap.size ≤ w5.heap.size) := Lib.hid (Nat.le_trans hsz0 (Nat.le_trans (by simp) ht5.size))
        clear hpl hc5 hx5 ht5 HXB HIa HLS HI cp HFA  
        have cx := HX5.out.cell
        obtain ⟨y0, y1, y2, y3, y4, y5⟩ := y
        simp only [VarID.parts] at HX5 QB
        have d0 : w5.cell? ⟨wr.heap.size, 0, none⟩ = some (.int .i64 y0) := HX5.out.cell 0
        have d1 : w5.cell? ⟨wr.heap.size, 1, none⟩ = some (.int .i64 y1) := HX5.out.cell 1
        have d2 : w5.cell? ⟨wr.heap.size, 2, none⟩ = some (.int .i64 y2) := HX5.out.cell 2
        have d3 : w5.cell? ⟨wr.heap.size, 3, none⟩ = some (.string ⟨y3.toArray⟩) := HX5.out.cell 3
        have d4 : w5.cell? ⟨wr.heap.size, 4, none⟩ = some (.int .i64 y4) := HX5.out.cell 4
        have d5 : w5.cell? ⟨wr.heap.size, 5, none⟩ = some (.int .i64 y5) := HX5.out.cell 5
        clear cx
        have cp5 : w5.cell? ⟨ib, off, none⟩ = some (.slice A ys.length c) := HLS5.out.cell
        have cp6 : (w5.alloc (.cells #[.int .i64 y0, .int .i64 y1, .int .i64 y2, .string ⟨y3.toArray⟩, .int .i64 y4, .int .i64 y5] 197)).cell? ⟨ib, off, none⟩ = some (.slice A ys.length c) := HLS5.out.cellA _
        go_wp2_with fail
        go_region_law
          ((have h5 := HLS5.out.own.alloc (.cells #[.int .i64 y0, .int .i64 y1, .int .i64 y2, .string ⟨y3.toArray⟩, .int .i64 y4, .int .i64 y5] 197); refine step_append_own (by rfl) _ _ 44 (by rfl) w.heap.size 197 k0 (.agg #[.int .i64 0, .int .i64 0, .int .i64 0, .string ByteArray.empty, .int .i64 0, .int .i64 0]) 6 56 Tryd.underlying44 hk hy0 hy1 hy2 rfl (by decide) _ _ _ (by rfl) h5 ⟨w5.heap.size, 0, none⟩ 1 1 [.int .i64 y0, .int .i64 y1, .int .i64 y2, .string ⟨y3.toArray⟩, .int .i64 y4, .int .i64 y5] (by rfl) (by rfl) (World.news_of_block (heap_alloc_new w5.drew _)) QB.out QC.out QD.out (Nat.le_trans QE.out (by simp [World.drew])) ?_; intro v6 w6 hown6 hgrow6; obtain ⟨A6, c6, rfl⟩ := own_shape hown6; have hap := LS.app (y := ⟨y0, y1, y2, y3, y4, y5⟩) HLS5.out hgrow6 hown6; have HB6 := Lib.hid hap.1; have HLS6 := Lib.hid hap.2; have HI6 := Lib.hid (HK.out.below _ _ HI5.out ((Below.refl _ _).alloc (Nat.le_refl _) (.cells #[.int .i64 y0, .int .i64 y1, .int .i64 y2, .string ⟨y3.toArray⟩, .int .i64 y4, .int .i64 y5] 197))); have HG6 := Lib.hid hgrow6; have f6 := HB6.out.frozen off; have c6' : w6.cell? ⟨ib, off, none⟩ = some (.slice A ys.length c) := (HB6.out.cell off).trans (by simp [hoff]); clear hown6 hap h5 hgrow6))
        all_goals
          clear cp5 cp6 d0 d1 d2 d3 d4 d5
          have HI7 : Hid (Inv (w6.setCell ⟨ib, off, none⟩ (.slice A6 (ys.length + 1) c6))) := Lib.hid (by
            exact HK.out.app HI6.out HG6.out HLS5.out.own HB6.out HTI.out.1 HTI.out.2 (by decide) (by decide))
          go_wp2
          go_roundw
          case rel => exact ⟨k', ys ++ [⟨y0, y1, y2, y3, y4, y5⟩], _, _, by go_num, by omega, HLS6, HC2, HG2, HI7⟩
          case measure => simp [intOf]

theorem DepthInfo : (Tryd.prog.info? 203).map (fun i => (i.zero, i.size, i.bytes)) = some (some (.agg #[.int .i64 0, .int .i64 0, .int .i64 0, .int .i64 0]), 4, 32) := by kernel_rfl
theorem DepthD.one (x : DepthD) : ∀ v ∈ x.parts, v.oneCell' = true := by
  intro v hv
  simp only [DepthD.parts, List.mem_cons, List.not_mem_nil, or_false] at hv
  rcases hv with rfl | rfl | rfl | rfl <;> rfl
/-- What the reading of this list leaves. -/
def GotListDepth (cb g ib off : Nat) (ti : TypeId) (ci : Array Value) (w : World) (st : St) (e : Ending) (wz : World) : Prop :=
  e = .returned (.tuple #[]) ∧ ∃ s : SlD DepthD, s.xs.map DepthD.pl = (rLst rDepth st).1 ∧ wz.ownsRow w.heap.size 203 4 (.slice s.A s.xs.length s.c) s.xs.length (s.xs.flatMap DepthD.parts) ∧
    Blk wz ib ti (ci.setIfInBounds off (.slice s.A s.xs.length s.c)) ∧ CR cb g (rLst rDepth st).2 wz ∧ Tw g ib w wz

set_option maxHeartbeats 8000000 in
set_option maxRecDepth 100000 in
theorem listDepth_r {cb g ib off : Nat} {w : World} {ti : TypeId} {ci : Array Value} {st : St} (Inv : World → Prop) (cap : Addr) (hK : KeepsR g Inv) (hI : Inv w) (h : CR cb g st w) (hg : st.Good) (hl : st.rest.length ≤ 1048576)
    (hp : Blk w ib ti ci) (hti : ti ≠ 203) (ht104 : ti ≠ 104) (ht110 : ti ≠ 110) (hpc : ib ≠ cb) (hpg : ib ≠ g) (hpv : ci[off]? = some (.slice none 0 0))
    (hone : ∀ (wx : World) (sx : St) (xb : Nat), Inv wx → CR cb g sx wx → sx.Good → sx.rest.length ≤ 1048576 → Blk wx xb 203 #[.int .i64 0, .int .i64 0, .int .i64 0, .int .i64 0] → xb ≠ cb → xb ≠ g →
      Calls Tryd.prog 88 #[.pointer (some ⟨xb, 0, none⟩), .pointer (some cap)] wx (fun e w2 => e = .returned (.tuple #[]) ∧ ∃ y : DepthD, y.pl = (rDepth sx).1 ∧ CR cb g (rDepth sx).2 w2 ∧ Blk w2 xb 203 y.parts.toArray ∧ Tw g xb wx w2)) :
    Calls Tryd.prog 87 #[.pointer (some ⟨cb, 0, none⟩), .pointer (some ⟨ib, off, none⟩), .func (.func 88) #[] #[.pointer (some cap)]] w (GotListDepth cb g ib off ti ci w st) := by
  obtain ⟨k0, hk, hy0, hy1, hy2⟩ := info_parts DepthInfo
  have HONE := Lib.hid hone
  have HK := Lib.hid hK
  have hiblt := hp.lt
  have hoff : off < ci.size := by
    rcases Nat.lt_or_ge off ci.size with h1 | h1
    · exact h1
    · rw [Array.getElem?_eq_none h1] at hpv; cases hpv
  have hci : ci.setIfInBounds off (.slice none 0 0) = ci := by
    apply Array.ext_getElem?
    intro j
    rw [Array.getElem?_setIfInBounds]
    split
    · rename_i hj; subst hj; first | rw [if_pos hoff, hpv] | rw [hpv]
    · rfl
  have HLS0 : Hid (LS DepthD.parts 4 203 ti cb g ib off ci w [] (.slice none 0 0) st w) := Lib.hid ⟨h, by rw [hci]; exact hp, World.ownsRow_nil _ _ _ _, Tw.refl _ _ _, hiblt, hpg, hpc, hoff, by decide, by decide, hti⟩
  have HN := Lib.hid (rNum_any g st w h.rd (by omega))
  have hn1 := rNum_lt st
  have hn2 := rNum_rest_le st
  have HG1 := Lib.hid (rNum_good st hg)
  have cin := h.in_
  have HI := Lib.hid hI
  have HRL : Hid (rLst rDepth st = rItems rDepth (rNum st).1 (rNum st).2) := rfl
  unfold GotListDepth
  obtain ⟨RES, hRES⟩ : ∃ R, rLst rDepth st = R := ⟨_, rfl⟩
  rw [hRES] at HRL ⊢
  generalize rNum st = z at HN hn1 hn2 HG1 HRL
  obtain ⟨nn, s1⟩ := z
  simp only at HN hn1 hn2 HG1 HRL
  have hnn : (nn : Int) ≤ 9223372036854775807 := by omega
  have HTI := Lib.hid (And.intro ht104 ht110)
  clear hRES hone hK h hg hp hti ht104 ht110 hpc hpg hpv hci hI hn1
  go_enter Tryd.func87, Tryd.ntmps87
  go_wp2_with fail
  refine (HN.out).mono ?_
  rintro r w1 ⟨rfl, hr1⟩
  have HLS1 : Hid (LS DepthD.parts 4 203 ti cb g ib off ci w [] (.slice none 0 0) s1 w1) := Lib.hid (by
    have h0 := HLS0.out
    exact ⟨h0.cr.to_ hr1, h0.blk.grown hr1.only (by simpa using h0.hg), World.ownsRow_nil _ _ _ _, h0.tw.trans (Tw.of_only hr1.only), h0.hib, h0.hg, h0.hc, h0.off, h0.t98, h0.t83, h0.tti⟩)
  have HI1 : Hid (Inv w1) := Lib.hid (HK.out.tw w w1 ib ti _ st HI.out HLS0.out.cr.rd HLS0.out.blk HTI.out.1 HTI.out.2 (Tw.of_only hr1.only))
  clear hr1 HN HI HLS0 cin
  go_wp2_with fail
  go_loopw [8] (fun vn wr => ∃ (kk : Nat) (ys : List DepthD) (v : Value) (sx : St), vn = .int .i64 kk ∧ (kk : Int) ≤ 9223372036854775807 ∧ Hid (LS DepthD.parts 4 203 ti cb g ib off ci w ys v sx wr) ∧ Hid (Came rDepth 1048576 nn s1 kk (ys.map DepthD.pl) sx) ∧ Hid sx.Good ∧ Hid (Inv wr)) (fun vn _ => (intOf vn).toNat)
  case atStart => exact ⟨nn, [], _, s1, rfl, hnn, HLS1, Came.start (by omega), HG1, HI1⟩
  case round =>
    clear HLS1 HG1 HI1
    obtain ⟨kk, ys, v, sx, rfl, hkk, HLS, HCA, HG, HI⟩ := hrel
    obtain ⟨A, c, rfl⟩ := own_shape HLS.out.own
    have hyl := HCA.out.len
    rw [List.length_map] at hyl
    have hrl := HCA.out.rest
    have cp := HLS.out.cell
    have HFA := Lib.hid (failed_any cb g sx wr HLS.out.cr HG.out)
    by_cases hk0 : kk = 0
    · have HST := Lib.hid (HCA.out.stop (.inl hk0))
      subst hk0
      go_wp2
      go_end0
      exact ⟨rfl, ⟨A, c, ys⟩, by rw [HRL.out, HST.out], HLS.out.own, HLS.out.blk, by rw [HRL.out, HST.out]; exact HLS.out.cr, HLS.out.tw⟩
    · have hk1 : 1 ≤ kk := by omega
      have hki : (0 : Int) < (kk : Int) := by omega
      cases hb : sx.bad with
      | true =>
        have HST := Lib.hid (HCA.out.stop (.inr hb))
        rw [hb] at HFA
        clear hb hk0
        go_wp2_with fail
        refine (HFA.out).mono ?_
        rintro r w2 ⟨rfl, rfl⟩
        go_wp2
        go_end0
        exact ⟨rfl, ⟨A, c, ys⟩, by rw [HRL.out, HST.out], HLS.out.own, HLS.out.blk, by rw [HRL.out, HST.out]; exact HLS.out.cr, HLS.out.tw⟩
      | false =>
        obtain ⟨k', rfl⟩ : ∃ k', kk = k' + 1 := ⟨kk - 1, by omega⟩
        have HC2 := Lib.hid (HCA.out.step rDepth_less rDepth_rok.le hb)
        have HG2 := Lib.hid (rDepth_rok.good sx HG.out)
        rw [hb] at HFA
        have HXB := Lib.hid (HONE.out (wr.alloc (.cells #[.int .i64 0, .int .i64 0, .int .i64 0, .int .i64 0] 203)) sx wr.heap.size (HK.out.below _ _ HI.out ((Below.refl _ _).alloc (Nat.le_refl _) _)) (HLS.out.cr.alloc _) HG.out hrl (Blk.new _ _ _) (by have := HLS.out.cr.blk.lt; omega) (by have := HLS.out.cr.rd.lt; omega))
        have HIa := Lib.hid (HK.out.below _ _ HI.out ((Below.refl wr.heap.size wr).alloc (Nat.le_refl _) (.cells #[.int .i64 0, .int .i64 0, .int .i64 0, .int .i64 0] 203)))
        have hsz0 := HLS.out.size
        clear hb hk0 HCA HG
        go_wp2_with fail
        refine (HFA.out).mono ?_
        rintro r w2 ⟨rfl, rfl⟩
        go_wp2_with fail
        refine (HXB.out).mono ?_
        rintro r w5 ⟨rfl, y, hpl, hc5, hx5, ht5⟩
        have HLS5 := Lib.hid ((HLS.out.elem hc5 ht5).keep (Below.drew (Below.refl _ _)))
        have HX5 : Hid (Blk w5.drew wr.heap.size 203 y.parts.toArray) := hx5
        have HI5 : Hid (Inv w5.drew) := Lib.hid (HK.out.below _ _ (HK.out.tw _ _ wr.heap.size 203 _ sx HIa.out (Blk.alloc HLS.out.cr.rd _) (Blk.new _ _ _) (by decide) (by decide) ht5) (Below.drew (Below.refl _ _)))
        rw [← hpl] at HC2
        have HPN := Lib.hid (show (ys ++ [y]).map DepthD.pl = ys.map DepthD.pl ++ [y.pl] by simp)
        rw [← HPN.out] at HC2
        have QB := Lib.hid (DepthD.one y)
        have QC : Hid (ys.length + 1 ≤ maxLen) := by show _ ≤ _; unfold maxLen; omega
        have QD : Hid ((ys.length + 1) * 32 ≤ 140737488355328) := by show _ ≤ _; omega
        have QE : Hid (w.heap.size ≤ w5.heap.size) := Lib.hid (Nat.le_trans hsz0 (Nat.le_trans (by simp) ht5.size))
        clear hpl hc5 hx5 ht5 HXB HIa HLS HI cp HFA  
        have cx := HX5.out.cell
        obtain ⟨y0, y1, y2, y3⟩ := y
        simp only [DepthD.parts] at HX5 QB
        have d0 : w5.cell? ⟨wr.heap.size, 0, none⟩ = some (.int .i64 y0) := HX5.out.cell 0
        have d1 : w5.cell? ⟨wr.heap.size, 1, none⟩ = some (.int .i64 y1) := HX5.out.cell 1
        have d2 : w5.cell? ⟨wr.heap.size, 2, none⟩ = some (.int .i64 y2) := HX5.out.cell 2
        have d3 : w5.cell? ⟨wr.heap.size, 3, none⟩ = some (.int .i64 y3) := HX5.out.cell 3
        clear cx
        have cp5 : w5.cell? ⟨ib, off, none⟩ = some (.slice A ys.length c) := HLS5.out.cell
        have cp6 : (w5.alloc (.cells #[.int .i64 y0, .int .i64 y1, .int .i64 y2, .int .i64 y3] 203)).cell? ⟨ib, off, none⟩ = some (.slice A ys.length c) := HLS5.out.cellA _
        go_wp2_with fail
        go_region_law
          ((have h5 := HLS5.out.own.alloc (.cells #[.int .i64 y0, .int .i64 y1, .int .i64 y2, .int .i64 y3] 203); refine step_append_own (by rfl) _ _ 45 (by rfl) w.heap.size 203 k0 (.agg #[.int .i64 0, .int .i64 0, .int .i64 0, .int .i64 0]) 4 32 Tryd.underlying45 hk hy0 hy1 hy2 rfl (by decide) _ _ _ (by rfl) h5 ⟨w5.heap.size, 0, none⟩ 1 1 [.int .i64 y0, .int .i64 y1, .int .i64 y2, .int .i64 y3] (by rfl) (by rfl) (World.news_of_block (heap_alloc_new w5.drew _)) QB.out QC.out QD.out (Nat.le_trans QE.out (by simp [World.drew])) ?_; intro v6 w6 hown6 hgrow6; obtain ⟨A6, c6, rfl⟩ := own_shape hown6; have hap := LS.app (y := ⟨y0, y1, y2, y3⟩) HLS5.out hgrow6 hown6; have HB6 := Lib.hid hap.1; have HLS6 := Lib.hid hap.2; have HI6 := Lib.hid (HK.out.below _ _ HI5.out ((Below.refl _ _).alloc (Nat.le_refl _) (.cells #[.int .i64 y0, .int .i64 y1, .int .i64 y2, .int .i64 y3] 203))); have HG6 := Lib.hid hgrow6; have f6 := HB6.out.frozen off; have c6' : w6.cell? ⟨ib, off, none⟩ = some (.slice A ys.length c) := (HB6.out.cell off).trans (by simp [hoff]); clear hown6 hap h5 hgrow6))
        all_goals
          clear cp5 cp6 d0 d1 d2 d3
          have HI7 : Hid (Inv (w6.setCell ⟨ib, off, none⟩ (.slice A6 (ys.length + 1) c6))) := Lib.hid (by
            exact HK.out.app HI6.out HG6.out HLS5.out.own HB6.out HTI.out.1 HTI.out.2 (by decide) (by decide))
          go_wp2
          go_roundw
          case rel => exact ⟨k', ys ++ [⟨y0, y1, y2, y3⟩], _, _, by go_num, by omega, HLS6, HC2, HG2, HI7⟩
          case measure => simp [intOf]

end Go.Proofs.YtefgajipakjpeaaDoor
