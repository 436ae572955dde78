/-
  image.coder that reads: contracts of the functions for one element of each list. Conditions: what is left is at most 2^20 bytes.
-/
import Derived.Test.YtefgajipakjpeaaDoorListR2
namespace Go.Proofs.YtefgajipakjpeaaDoor
open Go.RowKit

theorem own_zero {w : World} {B s n : Nat} {e : TypeId} {v : Value} {xs : List Value} (h : w.ownsRow B e s v n xs) : w.ownsRow 0 e s v n xs := by
  refine ⟨h.1, ?_⟩
  rcases h.2 with hn | ⟨gg, cap, cur, hv, _, rest⟩
  · exact .inl hn
  · exact .inr ⟨gg, cap, cur, hv, Nat.zero_le _, rest⟩
theorem Inv0.keepsR (g bx cb : Nat) : KeepsR g (Inv0 bx cb) where
  tw := fun _ _ _ _ _ _ h hr hb ht _ k => ⟨h.1.tw k (Blk.ne_ h.1 hr (by decide)) (Blk.ne_ h.1 hb (Ne.symm ht)), h.2⟩
  below := fun _ _ h hb => ⟨h.1.below hb h.1.lt, h.2⟩
  grown := fun _ _ _ _ _ _ _ _ h hg ho he _ => ⟨h.1.grown hg (fun e => own_ne ho h.1 (Ne.symm he) e.symm), h.2⟩
  set_ := fun _ _ _ _ _ _ h hb ht _ => ⟨h.1.far (Blk.ne_ h.1 hb (Ne.symm ht)) _, h.2⟩
theorem Inv1.keepsR (g bx tx cb : Nat) : KeepsR g (Inv1 bx tx cb) where
  tw := fun _ _ _ _ _ _ h hr hb ht ht2 k => ⟨(Inv0.keepsR g bx cb).tw _ _ _ _ _ _ h.1 hr hb ht ht2 k, h.2.1.tw k (Blk.ne_ h.2.1 hr (by decide)) (Blk.ne_ h.2.1 hb (Ne.symm ht2)), h.2.2⟩
  below := fun _ _ h hb => ⟨(Inv0.keepsR g bx cb).below _ _ h.1 hb, h.2.1.below hb h.2.1.lt, h.2.2⟩
  grown := fun _ _ _ _ _ _ _ _ h hg ho he he2 => ⟨(Inv0.keepsR g bx cb).grown _ _ _ _ _ _ _ _ h.1 hg ho he he2, h.2.1.grown hg (fun e => own_ne ho h.2.1 (Ne.symm he2) e.symm), h.2.2⟩
  set_ := fun _ _ _ _ _ _ h hb ht ht2 => ⟨(Inv0.keepsR g bx cb).set_ _ _ _ _ _ _ h.1 hb ht ht2, h.2.1.far (Blk.ne_ h.2.1 hb (Ne.symm ht2)) _, h.2.2⟩

set_option maxHeartbeats 8000000 in
set_option maxRecDepth 100000 in
theorem cloInt__r {cb g bx : Nat} {w : World} {st : St} (xb : Nat) (hI : Inv0 bx cb w) (h : CR cb g st w) (hg : st.Good) (hl : st.rest.length ≤ 1048576) (hx : Blk w xb 3 #[.int .i64 0]) (hxc : xb ≠ cb) (hxg : xb ≠ g) :
    Calls Tryd.prog 50 #[.pointer (some ⟨xb, 0, none⟩), .pointer (some ⟨bx, 0, none⟩)] w (fun e w2 => e = .returned (.tuple #[]) ∧ ∃ y : Int_D, y.pl = (rInt_ st).1 ∧ CR cb g (rInt_ st).2 w2 ∧ Blk w2 xb 3 y.parts.toArray ∧ Tw g xb w w2) := by
  have HC0 := Lib.hid h
  have HX0 := Lib.hid hx
  have HI0 := Lib.hid hI
  have HT0 := Lib.hid (Tw.refl g xb w)
  have hc0 := hI.cell
  obtain ⟨z0, hz0⟩ : ∃ z, z = rInt st := ⟨_, rfl⟩
  have hl0 := rInt_rest_le st
  rw [← hz0] at hl0
  have hg0 := rInt_good st hg
  rw [← hz0] at hg0
  have HRX : Hid (rInt_ st = (⟨z0.1⟩, z0.2)) := Lib.hid (by simp only [rInt_, bR, ← hz0])
  have HZ0 := Lib.hid hz0
  clear hz0
  have HG0 := Lib.hid hg0
  clear hg0
  have HG := Lib.hid hg
  clear h hx hI hg
  rw [HRX.out]
  go_enter Tryd.func50, Tryd.ntmps50
  have HCd0 : Hid (CR cb g st w) := HC0.out
  have HXd0 : Hid (Blk w xb 3 #[.int .i64 0]) := HX0.out
  have HId0 : Hid (Inv0 bx cb w) := HI0
  have HTd0 : Hid (Tw g xb w w) := HT0.out
  have hq0 := ints_rn (cb := cb) (g := g) (xb := xb) (w := w) (T := 3) [0] HCd0.out HXd0.out hxc hxg (by simp) (by simp) (by omega)
  simp only [rIs, ← HZ0.out, List.setIfInBounds_toArray, List.set_cons_zero, List.set_cons_succ, List.map_cons, List.map_nil, List.length_cons, List.length_nil, Nat.zero_add, Nat.reduceAdd] at hq0
  have HQ0 := Lib.hid hq0
  clear hq0
  unfold GetPost at HQ0
  go_wp2_with fail
  refine (HQ0.out).mono ?_
  rintro r w1 ⟨rfl, hc, hx, ht⟩
  have HJ1 := Lib.hid ((Inv0.keepsR g bx cb).tw _ _ xb 3 _ _ HId0.out HCd0.out.rd HXd0.out (by decide) (by decide) ht)
  have HC1 : Hid (CR cb g z0.2 w1) := hc
  have HX1 : Hid (Blk w1 xb 3 #[.int .i64 z0.1]) := hx
  have HT1 : Hid (Tw g xb w w1) := HTd0.out.trans ht
  have HI1 : Hid (Inv0 bx cb w1) := HJ1
  clear hc hx ht HQ0 HCd0 HXd0 HTd0 HId0 HJ1 hc0 HC0 HX0 HT0 HI0
  go_wp2
  go_end0
  exact ⟨rfl, ⟨z0.1⟩, rfl, HC1.out, HX1.out, HT1.out⟩

set_option maxHeartbeats 8000000 in
set_option maxRecDepth 100000 in
theorem cloStr_r {cb g bx : Nat} {w : World} {st : St} (xb : Nat) (hI : Inv0 bx cb w) (h : CR cb g st w) (hg : st.Good) (hl : st.rest.length ≤ 1048576) (hx : Blk w xb 9 #[.string ⟨#[]⟩]) (hxc : xb ≠ cb) (hxg : xb ≠ g) :
    Calls Tryd.prog 52 #[.pointer (some ⟨xb, 0, none⟩), .pointer (some ⟨bx, 0, none⟩)] w (fun e w2 => e = .returned (.tuple #[]) ∧ ∃ y : StrD, y.pl = (rStr st).1 ∧ CR cb g (rStr st).2 w2 ∧ Blk w2 xb 9 y.parts.toArray ∧ Tw g xb w w2) := by
  have HC0 := Lib.hid h
  have HX0 := Lib.hid hx
  have HI0 := Lib.hid hI
  have HT0 := Lib.hid (Tw.refl g xb w)
  have hc0 := hI.cell
  obtain ⟨z0, hz0⟩ : ∃ z, z = rText st := ⟨_, rfl⟩
  have hl0 := rText_rest_le st
  rw [← hz0] at hl0
  have hg0 := rText_good st hg
  rw [← hz0] at hg0
  have HRX : Hid (rStr st = (⟨z0.1⟩, z0.2)) := Lib.hid (by simp only [rStr, bR, ← hz0])
  have HZ0 := Lib.hid hz0
  clear hz0
  have HG0 := Lib.hid hg0
  clear hg0
  have HG := Lib.hid hg
  clear h hx hI hg
  rw [HRX.out]
  go_enter Tryd.func52, Tryd.ntmps52
  have HCd0 : Hid (CR cb g st w) := HC0.out
  have HXd0 : Hid (Blk w xb 9 #[.string ⟨#[]⟩]) := HX0.out
  have HId0 : Hid (Inv0 bx cb w) := HI0
  have HTd0 : Hid (Tw g xb w w) := HT0.out
  have hq0 := texts_rn (cb := cb) (g := g) (xb := xb) (w := w) (T := 9) [0] HCd0.out HXd0.out hxc hxg (by simp) (by simp) (by omega)
  simp only [rTs, ← HZ0.out, List.setIfInBounds_toArray, List.set_cons_zero, List.set_cons_succ, List.map_cons, List.map_nil, List.length_cons, List.length_nil, Nat.zero_add, Nat.reduceAdd] at hq0
  have HQ0 := Lib.hid hq0
  clear hq0
  unfold GetPost at HQ0
  go_wp2_with fail
  refine (HQ0.out).mono ?_
  rintro r w1 ⟨rfl, hc, hx, ht⟩
  have HJ1 := Lib.hid ((Inv0.keepsR g bx cb).tw _ _ xb 9 _ _ HId0.out HCd0.out.rd HXd0.out (by decide) (by decide) ht)
  have HC1 : Hid (CR cb g z0.2 w1) := hc
  have HX1 : Hid (Blk w1 xb 9 #[.string ⟨z0.1.toArray⟩]) := hx
  have HT1 : Hid (Tw g xb w w1) := HTd0.out.trans ht
  have HI1 : Hid (Inv0 bx cb w1) := HJ1
  clear hc hx ht HQ0 HCd0 HXd0 HTd0 HId0 HJ1 hc0 HC0 HX0 HT0 HI0
  go_wp2
  go_end0
  exact ⟨rfl, ⟨z0.1⟩, rfl, HC1.out, HX1.out, HT1.out⟩

set_option maxHeartbeats 8000000 in
set_option maxRecDepth 100000 in
theorem cloPiece_r {cb g bx : Nat} {w : World} {st : St} (xb : Nat) (hI : Inv0 bx cb w) (h : CR cb g st w) (hg : st.Good) (hl : st.rest.length ≤ 1048576) (hx : Blk w xb 157 #[.int .i64 0, .int .i64 0, .int .i64 0]) (hxc : xb ≠ cb) (hxg : xb ≠ g) :
    Calls Tryd.prog 71 #[.pointer (some ⟨xb, 0, none⟩), .pointer (some ⟨bx, 0, none⟩)] w (fun e w2 => e = .returned (.tuple #[]) ∧ ∃ y : PieceD, y.pl = (rPiece st).1 ∧ CR cb g (rPiece st).2 w2 ∧ Blk w2 xb 157 y.parts.toArray ∧ Tw g xb w w2) := by
  have HC0 := Lib.hid h
  have HX0 := Lib.hid hx
  have HI0 := Lib.hid hI
  have HT0 := Lib.hid (Tw.refl g xb w)
  have hc0 := hI.cell
  obtain ⟨z0, hz0⟩ : ∃ z, z = rInt st := ⟨_, rfl⟩
  have hl0 := rInt_rest_le st
  rw [← hz0] at hl0
  have hg0 := rInt_good st hg
  rw [← hz0] at hg0
  obtain ⟨z1, hz1⟩ : ∃ z, z = rInt z0.2 := ⟨_, rfl⟩
  have hl1 := rInt_rest_le z0.2
  rw [← hz1] at hl1
  have hg1 := rInt_good z0.2 hg0
  rw [← hz1] at hg1
  obtain ⟨z2, hz2⟩ : ∃ z, z = rInt z1.2 := ⟨_, rfl⟩
  have hl2 := rInt_rest_le z1.2
  rw [← hz2] at hl2
  have hg2 := rInt_good z1.2 hg1
  rw [← hz2] at hg2
  have HRX : Hid (rPiece st = (⟨z0.1, z1.1, z2.1⟩, z2.2)) := Lib.hid (by simp only [rPiece, bR, ← hz0, ← hz1, ← hz2])
  have HZ0 := Lib.hid hz0
  clear hz0
  have HZ1 := Lib.hid hz1
  clear hz1
  have HZ2 := Lib.hid hz2
  clear hz2
  have HG0 := Lib.hid hg0
  clear hg0
  have HG1 := Lib.hid hg1
  clear hg1
  have HG2 := Lib.hid hg2
  clear hg2
  have HG := Lib.hid hg
  clear h hx hI hg
  rw [HRX.out]
  go_enter Tryd.func71, Tryd.ntmps71
  have HCd0 : Hid (CR cb g st w.drew) := HC0.out.drew
  have HXd0 : Hid (Blk w.drew xb 157 #[.int .i64 0, .int .i64 0, .int .i64 0]) := HX0.out
  have HId0 : Hid (Inv0 bx cb w.drew) := Lib.hid ((Inv0.keepsR g bx cb).below _ _ HI0.out (Below.drew (Below.refl _ _)))
  have HTd0 : Hid (Tw g xb w w.drew) := HT0.out.drew
  have hq0 := ints_rn (cb := cb) (g := g) (xb := xb) (w := w.drew) (T := 157) [0, 1, 2] HCd0.out HXd0.out hxc hxg (by simp) (by simp) (by omega)
  simp only [rIs, ← HZ0.out, ← HZ1.out, ← HZ2.out, List.setIfInBounds_toArray, List.set_cons_zero, List.set_cons_succ, List.map_cons, List.map_nil, List.length_cons, List.length_nil, Nat.zero_add, Nat.reduceAdd] at hq0
  have HQ0 := Lib.hid hq0
  clear hq0
  unfold GetPost at HQ0
  go_wp2_with fail
  go_region_held3 (fun w' => w'.cell? ⟨bx, 0, none⟩ = some (.pointer (some ⟨cb, 0, none⟩)))
    (first | exact HJ1.out.cell | exact HId0.out.cell | exact ((Inv0.keepsR g bx cb).below _ _ HId0.out ((Below.refl _ _).alloc (Nat.le_refl _) (.cells #[.pointer (some ⟨xb, 0, none⟩), .pointer (some ⟨xb, 1, none⟩), .pointer (some ⟨xb, 2, none⟩)] 105))).cell)
    (first
      | (go_at_call 51; refine Calls.mono HQ0.out ?_; rintro r w1 ⟨rfl, hc, hx, ht⟩; have HJ1 := Lib.hid ((Inv0.keepsR g bx cb).tw _ _ xb 157 _ _ HId0.out HCd0.out.rd HXd0.out (by decide) (by decide) ht)))
  have HC1 : Hid (CR cb g z2.2 w1) := hc
  have HX1 : Hid (Blk w1 xb 157 #[.int .i64 z0.1, .int .i64 z1.1, .int .i64 z2.1]) := hx
  have HT1 : Hid (Tw g xb w w1) := HTd0.out.trans ht
  have HI1 : Hid (Inv0 bx cb w1) := HJ1
  clear hc hx ht HQ0 HCd0 HXd0 HTd0 HId0 HJ1 hc0 HC0 HX0 HT0 HI0
  go_wp2
  go_end0
  exact ⟨rfl, ⟨z0.1, z1.1, z2.1⟩, rfl, HC1.out, HX1.out, HT1.out⟩

set_option maxHeartbeats 8000000 in
set_option maxRecDepth 100000 in
theorem cloPlaced_r {cb g bx : Nat} {w : World} {st : St} (xb : Nat) (hI : Inv0 bx cb w) (h : CR cb g st w) (hg : st.Good) (hl : st.rest.length ≤ 1048576) (hx : Blk w xb 115 #[.string ⟨#[]⟩, .string ⟨#[]⟩, .int .i64 0, .int .i64 0, .int .i64 0, .string ⟨#[]⟩, .string ⟨#[]⟩]) (hxc : xb ≠ cb) (hxg : xb ≠ g) :
    Calls Tryd.prog 56 #[.pointer (some ⟨xb, 0, none⟩), .pointer (some ⟨bx, 0, none⟩)] w (fun e w2 => e = .returned (.tuple #[]) ∧ ∃ y : PlacedD, y.pl = (rPlaced st).1 ∧ CR cb g (rPlaced st).2 w2 ∧ Blk w2 xb 115 y.parts.toArray ∧ Tw g xb w w2) := by
  have HC0 := Lib.hid h
  have HX0 := Lib.hid hx
  have HI0 := Lib.hid hI
  have HT0 := Lib.hid (Tw.refl g xb w)
  have hc0 := hI.cell
  obtain ⟨z0, hz0⟩ : ∃ z, z = rText st := ⟨_, rfl⟩
  have hl0 := rText_rest_le st
  rw [← hz0] at hl0
  have hg0 := rText_good st hg
  rw [← hz0] at hg0
  obtain ⟨z1, hz1⟩ : ∃ z, z = rText z0.2 := ⟨_, rfl⟩
  have hl1 := rText_rest_le z0.2
  rw [← hz1] at hl1
  have hg1 := rText_good z0.2 hg0
  rw [← hz1] at hg1
  obtain ⟨z2, hz2⟩ : ∃ z, z = rInt z1.2 := ⟨_, rfl⟩
  have hl2 := rInt_rest_le z1.2
  rw [← hz2] at hl2
  have hg2 := rInt_good z1.2 hg1
  rw [← hz2] at hg2
  obtain ⟨z3, hz3⟩ : ∃ z, z = rInt z2.2 := ⟨_, rfl⟩
  have hl3 := rInt_rest_le z2.2
  rw [← hz3] at hl3
  have hg3 := rInt_good z2.2 hg2
  rw [← hz3] at hg3
  obtain ⟨z4, hz4⟩ : ∃ z, z = rInt z3.2 := ⟨_, rfl⟩
  have hl4 := rInt_rest_le z3.2
  rw [← hz4] at hl4
  have hg4 := rInt_good z3.2 hg3
  rw [← hz4] at hg4
  obtain ⟨z5, hz5⟩ : ∃ z, z = rText z4.2 := ⟨_, rfl⟩
  have hl5 := rText_rest_le z4.2
  rw [← hz5] at hl5
  have hg5 := rText_good z4.2 hg4
  rw [← hz5] at hg5
  obtain ⟨z6, hz6⟩ : ∃ z, z = rText z5.2 := ⟨_, rfl⟩
  have hl6 := rText_rest_le z5.2
  rw [← hz6] at hl6
  have hg6 := rText_good z5.2 hg5
  rw [← hz6] at hg6
  have HRX : Hid (rPlaced st = (⟨z0.1, z1.1, z2.1, z3.1, z4.1, z5.1, z6.1⟩, z6.2)) := Lib.hid (by simp only [rPlaced, bR, ← hz0, ← hz1, ← hz2, ← hz3, ← hz4, ← hz5, ← hz6])
  have HZ0 := Lib.hid hz0
  clear hz0
  have HZ1 := Lib.hid hz1
  clear hz1
  have HZ2 := Lib.hid hz2
  clear hz2
  have HZ3 := Lib.hid hz3
  clear hz3
  have HZ4 := Lib.hid hz4
  clear hz4
  have HZ5 := Lib.hid hz5
  clear hz5
  have HZ6 := Lib.hid hz6
  clear hz6
  have HG0 := Lib.hid hg0
  clear hg0
  have HG1 := Lib.hid hg1
  clear hg1
  have HG2 := Lib.hid hg2
  clear hg2
  have HG3 := Lib.hid hg3
  clear hg3
  have HG4 := Lib.hid hg4
  clear hg4
  have HG5 := Lib.hid hg5
  clear hg5
  have HG6 := Lib.hid hg6
  clear hg6
  have HG := Lib.hid hg
  clear h hx hI hg
  rw [HRX.out]
  go_enter Tryd.func56, Tryd.ntmps56
  have HCd0 : Hid (CR cb g st w.drew) := HC0.out.drew
  have HXd0 : Hid (Blk w.drew xb 115 #[.string ⟨#[]⟩, .string ⟨#[]⟩, .int .i64 0, .int .i64 0, .int .i64 0, .string ⟨#[]⟩, .string ⟨#[]⟩]) := HX0.out
  have HId0 : Hid (Inv0 bx cb w.drew) := Lib.hid ((Inv0.keepsR g bx cb).below _ _ HI0.out (Below.drew (Below.refl _ _)))
  have HTd0 : Hid (Tw g xb w w.drew) := HT0.out.drew
  have hq0 := texts_rn (cb := cb) (g := g) (xb := xb) (w := w.drew) (T := 115) [0, 1] HCd0.out HXd0.out hxc hxg (by simp) (by simp) (by omega)
  simp only [rTs, ← HZ0.out, ← HZ1.out, List.setIfInBounds_toArray, List.set_cons_zero, List.set_cons_succ, List.map_cons, List.map_nil, List.length_cons, List.length_nil, Nat.zero_add, Nat.reduceAdd] at hq0
  have HQ0 := Lib.hid hq0
  clear hq0
  unfold GetPost at HQ0
  go_wp2_with fail
  go_region_held3 (fun w' => w'.cell? ⟨bx, 0, none⟩ = some (.pointer (some ⟨cb, 0, none⟩)))
    (first | exact HJ1.out.cell | exact HId0.out.cell | exact ((Inv0.keepsR g bx cb).below _ _ HId0.out ((Below.refl _ _).alloc (Nat.le_refl _) (.cells #[.pointer (some ⟨xb, 0, none⟩), .pointer (some ⟨xb, 1, none⟩)] 108))).cell)
    (first
      | (go_at_call 53; refine Calls.mono HQ0.out ?_; rintro r w1 ⟨rfl, hc, hx, ht⟩; have HJ1 := Lib.hid ((Inv0.keepsR g bx cb).tw _ _ xb 115 _ _ HId0.out HCd0.out.rd HXd0.out (by decide) (by decide) ht)))
  have HC1 : Hid (CR cb g z1.2 w1) := hc
  have HX1 : Hid (Blk w1 xb 115 #[.string ⟨z0.1.toArray⟩, .string ⟨z1.1.toArray⟩, .int .i64 0, .int .i64 0, .int .i64 0, .string ⟨#[]⟩, .string ⟨#[]⟩]) := hx
  have HT1 : Hid (Tw g xb w w1) := HTd0.out.trans ht
  have HI1 : Hid (Inv0 bx cb w1) := HJ1
  clear hc hx ht HQ0 HCd0 HXd0 HTd0 HId0 HJ1 hc0 HC0 HX0 HT0 HI0
  have HCd1 : Hid (CR cb g z1.2 w1.drew) := HC1.out.drew
  have HXd1 : Hid (Blk w1.drew xb 115 #[.string ⟨z0.1.toArray⟩, .string ⟨z1.1.toArray⟩, .int .i64 0, .int .i64 0, .int .i64 0, .string ⟨#[]⟩, .string ⟨#[]⟩]) := HX1.out
  have HId1 : Hid (Inv0 bx cb w1.drew) := Lib.hid ((Inv0.keepsR g bx cb).below _ _ HI1.out (Below.drew (Below.refl _ _)))
  have HTd1 : Hid (Tw g xb w w1.drew) := HT1.out.drew
  have hq1 := ints_rn (cb := cb) (g := g) (xb := xb) (w := w1.drew) (T := 115) [2, 3, 4] HCd1.out HXd1.out hxc hxg (by simp) (by simp) (by omega)
  simp only [rIs, ← HZ2.out, ← HZ3.out, ← HZ4.out, List.setIfInBounds_toArray, List.set_cons_zero, List.set_cons_succ, List.map_cons, List.map_nil, List.length_cons, List.length_nil, Nat.zero_add, Nat.reduceAdd] at hq1
  have HQ1 := Lib.hid hq1
  clear hq1
  unfold GetPost at HQ1
  have hc1 := HI1.out.cell
  go_wp2_with fail
  go_region_held3 (fun w' => w'.cell? ⟨bx, 0, none⟩ = some (.pointer (some ⟨cb, 0, none⟩)))
    (first | exact HJ2.out.cell | exact HId1.out.cell | exact ((Inv0.keepsR g bx cb).below _ _ HId1.out ((Below.refl _ _).alloc (Nat.le_refl _) (.cells #[.pointer (some ⟨xb, 2, none⟩), .pointer (some ⟨xb, 3, none⟩), .pointer (some ⟨xb, 4, none⟩)] 105))).cell)
    (first
      | (go_at_call 51; refine Calls.mono HQ1.out ?_; rintro r w2 ⟨rfl, hc, hx, ht⟩; have HJ2 := Lib.hid ((Inv0.keepsR g bx cb).tw _ _ xb 115 _ _ HId1.out HCd1.out.rd HXd1.out (by decide) (by decide) ht)))
  have HC2 : Hid (CR cb g z4.2 w2) := hc
  have HX2 : Hid (Blk w2 xb 115 #[.string ⟨z0.1.toArray⟩, .string ⟨z1.1.toArray⟩, .int .i64 z2.1, .int .i64 z3.1, .int .i64 z4.1, .string ⟨#[]⟩, .string ⟨#[]⟩]) := hx
  have HT2 : Hid (Tw g xb w w2) := HTd1.out.trans ht
  have HI2 : Hid (Inv0 bx cb w2) := HJ2
  clear hc hx ht HQ1 HCd1 HXd1 HTd1 HId1 HJ2 hc1 HC1 HX1 HT1 HI1
  have HCd2 : Hid (CR cb g z4.2 w2.drew) := HC2.out.drew
  have HXd2 : Hid (Blk w2.drew xb 115 #[.string ⟨z0.1.toArray⟩, .string ⟨z1.1.toArray⟩, .int .i64 z2.1, .int .i64 z3.1, .int .i64 z4.1, .string ⟨#[]⟩, .string ⟨#[]⟩]) := HX2.out
  have HId2 : Hid (Inv0 bx cb w2.drew) := Lib.hid ((Inv0.keepsR g bx cb).below _ _ HI2.out (Below.drew (Below.refl _ _)))
  have HTd2 : Hid (Tw g xb w w2.drew) := HT2.out.drew
  have hq2 := texts_rn (cb := cb) (g := g) (xb := xb) (w := w2.drew) (T := 115) [5, 6] HCd2.out HXd2.out hxc hxg (by simp) (by simp) (by omega)
  simp only [rTs, ← HZ5.out, ← HZ6.out, List.setIfInBounds_toArray, List.set_cons_zero, List.set_cons_succ, List.map_cons, List.map_nil, List.length_cons, List.length_nil, Nat.zero_add, Nat.reduceAdd] at hq2
  have HQ2 := Lib.hid hq2
  clear hq2
  unfold GetPost at HQ2
  have hc2 := HI2.out.cell
  go_wp2_with fail
  go_region_held3 (fun w' => w'.cell? ⟨bx, 0, none⟩ = some (.pointer (some ⟨cb, 0, none⟩)))
    (first | exact HJ3.out.cell | exact HId2.out.cell | exact ((Inv0.keepsR g bx cb).below _ _ HId2.out ((Below.refl _ _).alloc (Nat.le_refl _) (.cells #[.pointer (some ⟨xb, 5, none⟩), .pointer (some ⟨xb, 6, none⟩)] 108))).cell)
    (first
      | (go_at_call 53; refine Calls.mono HQ2.out ?_; rintro r w3 ⟨rfl, hc, hx, ht⟩; have HJ3 := Lib.hid ((Inv0.keepsR g bx cb).tw _ _ xb 115 _ _ HId2.out HCd2.out.rd HXd2.out (by decide) (by decide) ht)))
  have HC3 : Hid (CR cb g z6.2 w3) := hc
  have HX3 : Hid (Blk w3 xb 115 #[.string ⟨z0.1.toArray⟩, .string ⟨z1.1.toArray⟩, .int .i64 z2.1, .int .i64 z3.1, .int .i64 z4.1, .string ⟨z5.1.toArray⟩, .string ⟨z6.1.toArray⟩]) := hx
  have HT3 : Hid (Tw g xb w w3) := HTd2.out.trans ht
  have HI3 : Hid (Inv0 bx cb w3) := HJ3
  clear hc hx ht HQ2 HCd2 HXd2 HTd2 HId2 HJ3 hc2 HC2 HX2 HT2 HI2
  go_wp2
  go_end0
  exact ⟨rfl, ⟨z0.1, z1.1, z2.1, z3.1, z4.1, z5.1, z6.1⟩, rfl, HC3.out, HX3.out, HT3.out⟩

set_option maxHeartbeats 8000000 in
set_option maxRecDepth 100000 in
theorem cloExport_r {cb g bx : Nat} {w : World} {st : St} (xb : Nat) (hI : Inv0 bx cb w) (h : CR cb g st w) (hg : st.Good) (hl : st.rest.length ≤ 1048576) (hx : Blk w xb 121 #[.string ⟨#[]⟩, .string ⟨#[]⟩, .bool false, .int .i64 0, .int .i64 0, .int .i64 0]) (hxc : xb ≠ cb) (hxg : xb ≠ g) :
    Calls Tryd.prog 58 #[.pointer (some ⟨xb, 0, none⟩), .pointer (some ⟨bx, 0, none⟩)] w (fun e w2 => e = .returned (.tuple #[]) ∧ ∃ y : ExportD, y.pl = (rExport st).1 ∧ CR cb g (rExport st).2 w2 ∧ Blk w2 xb 121 y.parts.toArray ∧ Tw g xb w w2) := by
  have HC0 := Lib.hid h
  have HX0 := Lib.hid hx
  have HI0 := Lib.hid hI
  have HT0 := Lib.hid (Tw.refl g xb w)
  have hc0 := hI.cell
  obtain ⟨z0, hz0⟩ : ∃ z, z = rText st := ⟨_, rfl⟩
  have hl0 := rText_rest_le st
  rw [← hz0] at hl0
  have hg0 := rText_good st hg
  rw [← hz0] at hg0
  obtain ⟨z1, hz1⟩ : ∃ z, z = rText z0.2 := ⟨_, rfl⟩
  have hl1 := rText_rest_le z0.2
  rw [← hz1] at hl1
  have hg1 := rText_good z0.2 hg0
  rw [← hz1] at hg1
  obtain ⟨z2, hz2⟩ : ∃ z, z = rInt z1.2 := ⟨_, rfl⟩
  have hl2 := rInt_rest_le z1.2
  rw [← hz2] at hl2
  have hg2 := rInt_good z1.2 hg1
  rw [← hz2] at hg2
  obtain ⟨z3, hz3⟩ : ∃ z, z = rInt z2.2 := ⟨_, rfl⟩
  have hl3 := rInt_rest_le z2.2
  rw [← hz3] at hl3
  have hg3 := rInt_good z2.2 hg2
  rw [← hz3] at hg3
  obtain ⟨z4, hz4⟩ : ∃ z, z = rInt z3.2 := ⟨_, rfl⟩
  have hl4 := rInt_rest_le z3.2
  rw [← hz4] at hl4
  have hg4 := rInt_good z3.2 hg3
  rw [← hz4] at hg4
  obtain ⟨z5, hz5⟩ : ∃ z, z = rInt z4.2 := ⟨_, rfl⟩
  have hl5 := rInt_rest_le z4.2
  rw [← hz5] at hl5
  have hg5 := rInt_good z4.2 hg4
  rw [← hz5] at hg5
  have HRX : Hid (rExport st = (⟨z0.1, z1.1, z2.1 != 0, z3.1, z4.1, z5.1⟩, z5.2)) := Lib.hid (by simp only [rExport, bR, ← hz0, ← hz1, ← hz2, ← hz3, ← hz4, ← hz5])
  have HZ0 := Lib.hid hz0
  clear hz0
  have HZ1 := Lib.hid hz1
  clear hz1
  have HZ2 := Lib.hid hz2
  clear hz2
  have HZ3 := Lib.hid hz3
  clear hz3
  have HZ4 := Lib.hid hz4
  clear hz4
  have HZ5 := Lib.hid hz5
  clear hz5
  have HG0 := Lib.hid hg0
  clear hg0
  have HG1 := Lib.hid hg1
  clear hg1
  have HG2 := Lib.hid hg2
  clear hg2
  have HG3 := Lib.hid hg3
  clear hg3
  have HG4 := Lib.hid hg4
  clear hg4
  have HG5 := Lib.hid hg5
  clear hg5
  have HG := Lib.hid hg
  clear h hx hI hg
  rw [HRX.out]
  go_enter Tryd.func58, Tryd.ntmps58
  have HCd0 : Hid (CR cb g st w.drew) := HC0.out.drew
  have HXd0 : Hid (Blk w.drew xb 121 #[.string ⟨#[]⟩, .string ⟨#[]⟩, .bool false, .int .i64 0, .int .i64 0, .int .i64 0]) := HX0.out
  have HId0 : Hid (Inv0 bx cb w.drew) := Lib.hid ((Inv0.keepsR g bx cb).below _ _ HI0.out (Below.drew (Below.refl _ _)))
  have HTd0 : Hid (Tw g xb w w.drew) := HT0.out.drew
  have hq0 := texts_rn (cb := cb) (g := g) (xb := xb) (w := w.drew) (T := 121) [0, 1] HCd0.out HXd0.out hxc hxg (by simp) (by simp) (by omega)
  simp only [rTs, ← HZ0.out, ← HZ1.out, List.setIfInBounds_toArray, List.set_cons_zero, List.set_cons_succ, List.map_cons, List.map_nil, List.length_cons, List.length_nil, Nat.zero_add, Nat.reduceAdd] at hq0
  have HQ0 := Lib.hid hq0
  clear hq0
  unfold GetPost at HQ0
  go_wp2_with fail
  go_region_held3 (fun w' => w'.cell? ⟨bx, 0, none⟩ = some (.pointer (some ⟨cb, 0, none⟩)))
    (first | exact HJ1.out.cell | exact HId0.out.cell | exact ((Inv0.keepsR g bx cb).below _ _ HId0.out ((Below.refl _ _).alloc (Nat.le_refl _) (.cells #[.pointer (some ⟨xb, 0, none⟩), .pointer (some ⟨xb, 1, none⟩)] 108))).cell)
    (first
      | (go_at_call 53; refine Calls.mono HQ0.out ?_; rintro r w1 ⟨rfl, hc, hx, ht⟩; have HJ1 := Lib.hid ((Inv0.keepsR g bx cb).tw _ _ xb 121 _ _ HId0.out HCd0.out.rd HXd0.out (by decide) (by decide) ht)))
  have HC1 : Hid (CR cb g z1.2 w1) := hc
  have HX1 : Hid (Blk w1 xb 121 #[.string ⟨z0.1.toArray⟩, .string ⟨z1.1.toArray⟩, .bool false, .int .i64 0, .int .i64 0, .int .i64 0]) := hx
  have HT1 : Hid (Tw g xb w w1) := HTd0.out.trans ht
  have HI1 : Hid (Inv0 bx cb w1) := HJ1
  clear hc hx ht HQ0 HCd0 HXd0 HTd0 HId0 HJ1 hc0 HC0 HX0 HT0 HI0
  have HCd1 : Hid (CR cb g z1.2 w1.drew) := HC1.out.drew
  have HXd1 : Hid (Blk w1.drew xb 121 #[.string ⟨z0.1.toArray⟩, .string ⟨z1.1.toArray⟩, .bool false, .int .i64 0, .int .i64 0, .int .i64 0]) := HX1.out
  have HId1 : Hid (Inv0 bx cb w1.drew) := Lib.hid ((Inv0.keepsR g bx cb).below _ _ HI1.out (Below.drew (Below.refl _ _)))
  have HTd1 : Hid (Tw g xb w w1.drew) := HT1.out.drew
  have hq1 := bool_r (cb := cb) (g := g) (xb := xb) (i := 2) (w := w1.drew) (T := 121) HCd1.out HXd1.out hxc hxg rfl (by omega)
  simp only [← HZ2.out, List.setIfInBounds_toArray, List.set_cons_zero, List.set_cons_succ] at hq1
  have HQ1 := Lib.hid hq1
  clear hq1
  unfold GetPost at HQ1
  have hc1 := HI1.out.cell
  go_wp2_with fail
  go_region_held3 (fun w' => w'.cell? ⟨bx, 0, none⟩ = some (.pointer (some ⟨cb, 0, none⟩)))
    (first | exact HJ2.out.cell | exact HId1.out.cell)
    (first
      | (go_at_call 54; refine Calls.mono HQ1.out ?_; rintro r w2 ⟨rfl, hc, hx, ht⟩; have HJ2 := Lib.hid ((Inv0.keepsR g bx cb).tw _ _ xb 121 _ _ HId1.out HCd1.out.rd HXd1.out (by decide) (by decide) ht)))
  have HC2 : Hid (CR cb g z2.2 w2) := hc
  have HX2 : Hid (Blk w2 xb 121 #[.string ⟨z0.1.toArray⟩, .string ⟨z1.1.toArray⟩, .bool (z2.1 != 0), .int .i64 0, .int .i64 0, .int .i64 0]) := hx
  have HT2 : Hid (Tw g xb w w2) := HTd1.out.trans ht
  have HI2 : Hid (Inv0 bx cb w2) := HJ2
  clear hc hx ht HQ1 HCd1 HXd1 HTd1 HId1 HJ2 hc1 HC1 HX1 HT1 HI1
  have HCd2 : Hid (CR cb g z2.2 w2.drew) := HC2.out.drew
  have HXd2 : Hid (Blk w2.drew xb 121 #[.string ⟨z0.1.toArray⟩, .string ⟨z1.1.toArray⟩, .bool (z2.1 != 0), .int .i64 0, .int .i64 0, .int .i64 0]) := HX2.out
  have HId2 : Hid (Inv0 bx cb w2.drew) := Lib.hid ((Inv0.keepsR g bx cb).below _ _ HI2.out (Below.drew (Below.refl _ _)))
  have HTd2 : Hid (Tw g xb w w2.drew) := HT2.out.drew
  have hq2 := ints_rn (cb := cb) (g := g) (xb := xb) (w := w2.drew) (T := 121) [3, 4, 5] HCd2.out HXd2.out hxc hxg (by simp) (by simp) (by omega)
  simp only [rIs, ← HZ3.out, ← HZ4.out, ← HZ5.out, List.setIfInBounds_toArray, List.set_cons_zero, List.set_cons_succ, List.map_cons, List.map_nil, List.length_cons, List.length_nil, Nat.zero_add, Nat.reduceAdd] at hq2
  have HQ2 := Lib.hid hq2
  clear hq2
  unfold GetPost at HQ2
  have hc2 := HI2.out.cell
  go_wp2_with fail
  go_region_held3 (fun w' => w'.cell? ⟨bx, 0, none⟩ = some (.pointer (some ⟨cb, 0, none⟩)))
    (first | exact HJ3.out.cell | exact HId2.out.cell | exact ((Inv0.keepsR g bx cb).below _ _ HId2.out ((Below.refl _ _).alloc (Nat.le_refl _) (.cells #[.pointer (some ⟨xb, 3, none⟩), .pointer (some ⟨xb, 4, none⟩), .pointer (some ⟨xb, 5, none⟩)] 105))).cell)
    (first
      | (go_at_call 51; refine Calls.mono HQ2.out ?_; rintro r w3 ⟨rfl, hc, hx, ht⟩; have HJ3 := Lib.hid ((Inv0.keepsR g bx cb).tw _ _ xb 121 _ _ HId2.out HCd2.out.rd HXd2.out (by decide) (by decide) ht)))
  have HC3 : Hid (CR cb g z5.2 w3) := hc
  have HX3 : Hid (Blk w3 xb 121 #[.string ⟨z0.1.toArray⟩, .string ⟨z1.1.toArray⟩, .bool (z2.1 != 0), .int .i64 z3.1, .int .i64 z4.1, .int .i64 z5.1]) := hx
  have HT3 : Hid (Tw g xb w w3) := HTd2.out.trans ht
  have HI3 : Hid (Inv0 bx cb w3) := HJ3
  clear hc hx ht HQ2 HCd2 HXd2 HTd2 HId2 HJ3 hc2 HC2 HX2 HT2 HI2
  go_wp2
  go_end0
  exact ⟨rfl, ⟨z0.1, z1.1, z2.1 != 0, z3.1, z4.1, z5.1⟩, rfl, HC3.out, HX3.out, HT3.out⟩

set_option maxHeartbeats 8000000 in
set_option maxRecDepth 100000 in
theorem cloImport_r {cb g bx : Nat} {w : World} {st : St} (xb : Nat) (hI : Inv0 bx cb w) (h : CR cb g st w) (hg : st.Good) (hl : st.rest.length ≤ 1048576) (hx : Blk w xb 127 #[.string ⟨#[]⟩, .string ⟨#[]⟩, .int .i64 0, .bool false, .bool false]) (hxc : xb ≠ cb) (hxg : xb ≠ g) :
    Calls Tryd.prog 60 #[.pointer (some ⟨xb, 0, none⟩), .pointer (some ⟨bx, 0, none⟩)] w (fun e w2 => e = .returned (.tuple #[]) ∧ ∃ y : ImportD, y.pl = (rImport st).1 ∧ CR cb g (rImport st).2 w2 ∧ Blk w2 xb 127 y.parts.toArray ∧ Tw g xb w w2) := by
  have HC0 := Lib.hid h
  have HX0 := Lib.hid hx
  have HI0 := Lib.hid hI
  have HT0 := Lib.hid (Tw.refl g xb w)
  have hc0 := hI.cell
  obtain ⟨z0, hz0⟩ : ∃ z, z = rText st := ⟨_, rfl⟩
  have hl0 := rText_rest_le st
  rw [← hz0] at hl0
  have hg0 := rText_good st hg
  rw [← hz0] at hg0
  obtain ⟨z1, hz1⟩ : ∃ z, z = rText z0.2 := ⟨_, rfl⟩
  have hl1 := rText_rest_le z0.2
  rw [← hz1] at hl1
  have hg1 := rText_good z0.2 hg0
  rw [← hz1] at hg1
  obtain ⟨z2, hz2⟩ : ∃ z, z = rInt z1.2 := ⟨_, rfl⟩
  have hl2 := rInt_rest_le z1.2
  rw [← hz2] at hl2
  have hg2 := rInt_good z1.2 hg1
  rw [← hz2] at hg2
  obtain ⟨z3, hz3⟩ : ∃ z, z = rInt z2.2 := ⟨_, rfl⟩
  have hl3 := rInt_rest_le z2.2
  rw [← hz3] at hl3
  have hg3 := rInt_good z2.2 hg2
  rw [← hz3] at hg3
  obtain ⟨z4, hz4⟩ : ∃ z, z = rInt z3.2 := ⟨_, rfl⟩
  have hl4 := rInt_rest_le z3.2
  rw [← hz4] at hl4
  have hg4 := rInt_good z3.2 hg3
  rw [← hz4] at hg4
  have HRX : Hid (rImport st = (⟨z0.1, z1.1, z2.1, z3.1 != 0, z4.1 != 0⟩, z4.2)) := Lib.hid (by simp only [rImport, bR, ← hz0, ← hz1, ← hz2, ← hz3, ← hz4])
  have HZ0 := Lib.hid hz0
  clear hz0
  have HZ1 := Lib.hid hz1
  clear hz1
  have HZ2 := Lib.hid hz2
  clear hz2
  have HZ3 := Lib.hid hz3
  clear hz3
  have HZ4 := Lib.hid hz4
  clear hz4
  have HG0 := Lib.hid hg0
  clear hg0
  have HG1 := Lib.hid hg1
  clear hg1
  have HG2 := Lib.hid hg2
  clear hg2
  have HG3 := Lib.hid hg3
  clear hg3
  have HG4 := Lib.hid hg4
  clear hg4
  have HG := Lib.hid hg
  clear h hx hI hg
  rw [HRX.out]
  go_enter Tryd.func60, Tryd.ntmps60
  have HCd0 : Hid (CR cb g st w.drew) := HC0.out.drew
  have HXd0 : Hid (Blk w.drew xb 127 #[.string ⟨#[]⟩, .string ⟨#[]⟩, .int .i64 0, .bool false, .bool false]) := HX0.out
  have HId0 : Hid (Inv0 bx cb w.drew) := Lib.hid ((Inv0.keepsR g bx cb).below _ _ HI0.out (Below.drew (Below.refl _ _)))
  have HTd0 : Hid (Tw g xb w w.drew) := HT0.out.drew
  have hq0 := texts_rn (cb := cb) (g := g) (xb := xb) (w := w.drew) (T := 127) [0, 1] HCd0.out HXd0.out hxc hxg (by simp) (by simp) (by omega)
  simp only [rTs, ← HZ0.out, ← HZ1.out, List.setIfInBounds_toArray, List.set_cons_zero, List.set_cons_succ, List.map_cons, List.map_nil, List.length_cons, List.length_nil, Nat.zero_add, Nat.reduceAdd] at hq0
  have HQ0 := Lib.hid hq0
  clear hq0
  unfold GetPost at HQ0
  go_wp2_with fail
  go_region_held3 (fun w' => w'.cell? ⟨bx, 0, none⟩ = some (.pointer (some ⟨cb, 0, none⟩)))
    (first | exact HJ1.out.cell | exact HId0.out.cell | exact ((Inv0.keepsR g bx cb).below _ _ HId0.out ((Below.refl _ _).alloc (Nat.le_refl _) (.cells #[.pointer (some ⟨xb, 0, none⟩), .pointer (some ⟨xb, 1, none⟩)] 108))).cell)
    (first
      | (go_at_call 53; refine Calls.mono HQ0.out ?_; rintro r w1 ⟨rfl, hc, hx, ht⟩; have HJ1 := Lib.hid ((Inv0.keepsR g bx cb).tw _ _ xb 127 _ _ HId0.out HCd0.out.rd HXd0.out (by decide) (by decide) ht)))
  have HC1 : Hid (CR cb g z1.2 w1) := hc
  have HX1 : Hid (Blk w1 xb 127 #[.string ⟨z0.1.toArray⟩, .string ⟨z1.1.toArray⟩, .int .i64 0, .bool false, .bool false]) := hx
  have HT1 : Hid (Tw g xb w w1) := HTd0.out.trans ht
  have HI1 : Hid (Inv0 bx cb w1) := HJ1
  clear hc hx ht HQ0 HCd0 HXd0 HTd0 HId0 HJ1 hc0 HC0 HX0 HT0 HI0
  have HCd1 : Hid (CR cb g z1.2 w1.drew) := HC1.out.drew
  have HXd1 : Hid (Blk w1.drew xb 127 #[.string ⟨z0.1.toArray⟩, .string ⟨z1.1.toArray⟩, .int .i64 0, .bool false, .bool false]) := HX1.out
  have HId1 : Hid (Inv0 bx cb w1.drew) := Lib.hid ((Inv0.keepsR g bx cb).below _ _ HI1.out (Below.drew (Below.refl _ _)))
  have HTd1 : Hid (Tw g xb w w1.drew) := HT1.out.drew
  have hq1 := ints_rn (cb := cb) (g := g) (xb := xb) (w := w1.drew) (T := 127) [2] HCd1.out HXd1.out hxc hxg (by simp) (by simp) (by omega)
  simp only [rIs, ← HZ2.out, List.setIfInBounds_toArray, List.set_cons_zero, List.set_cons_succ, List.map_cons, List.map_nil, List.length_cons, List.length_nil, Nat.zero_add, Nat.reduceAdd] at hq1
  have HQ1 := Lib.hid hq1
  clear hq1
  unfold GetPost at HQ1
  have hc1 := HI1.out.cell
  go_wp2_with fail
  go_region_held3 (fun w' => w'.cell? ⟨bx, 0, none⟩ = some (.pointer (some ⟨cb, 0, none⟩)))
    (first | exact HJ2.out.cell | exact HId1.out.cell | exact ((Inv0.keepsR g bx cb).below _ _ HId1.out ((Below.refl _ _).alloc (Nat.le_refl _) (.cells #[.pointer (some ⟨xb, 2, none⟩)] 105))).cell)
    (first
      | (go_at_call 51; refine Calls.mono HQ1.out ?_; rintro r w2 ⟨rfl, hc, hx, ht⟩; have HJ2 := Lib.hid ((Inv0.keepsR g bx cb).tw _ _ xb 127 _ _ HId1.out HCd1.out.rd HXd1.out (by decide) (by decide) ht)))
  have HC2 : Hid (CR cb g z2.2 w2) := hc
  have HX2 : Hid (Blk w2 xb 127 #[.string ⟨z0.1.toArray⟩, .string ⟨z1.1.toArray⟩, .int .i64 z2.1, .bool false, .bool false]) := hx
  have HT2 : Hid (Tw g xb w w2) := HTd1.out.trans ht
  have HI2 : Hid (Inv0 bx cb w2) := HJ2
  clear hc hx ht HQ1 HCd1 HXd1 HTd1 HId1 HJ2 hc1 HC1 HX1 HT1 HI1
  have HCd2 : Hid (CR cb g z2.2 w2.drew) := HC2.out.drew
  have HXd2 : Hid (Blk w2.drew xb 127 #[.string ⟨z0.1.toArray⟩, .string ⟨z1.1.toArray⟩, .int .i64 z2.1, .bool false, .bool false]) := HX2.out
  have HId2 : Hid (Inv0 bx cb w2.drew) := Lib.hid ((Inv0.keepsR g bx cb).below _ _ HI2.out (Below.drew (Below.refl _ _)))
  have HTd2 : Hid (Tw g xb w w2.drew) := HT2.out.drew
  have hq2 := bool_r (cb := cb) (g := g) (xb := xb) (i := 3) (w := w2.drew) (T := 127) HCd2.out HXd2.out hxc hxg rfl (by omega)
  simp only [← HZ3.out, List.setIfInBounds_toArray, List.set_cons_zero, List.set_cons_succ] at hq2
  have HQ2 := Lib.hid hq2
  clear hq2
  unfold GetPost at HQ2
  have hc2 := HI2.out.cell
  go_wp2_with fail
  go_region_held3 (fun w' => w'.cell? ⟨bx, 0, none⟩ = some (.pointer (some ⟨cb, 0, none⟩)))
    (first | exact HJ3.out.cell | exact HId2.out.cell)
    (first
      | (go_at_call 54; refine Calls.mono HQ2.out ?_; rintro r w3 ⟨rfl, hc, hx, ht⟩; have HJ3 := Lib.hid ((Inv0.keepsR g bx cb).tw _ _ xb 127 _ _ HId2.out HCd2.out.rd HXd2.out (by decide) (by decide) ht)))
  have HC3 : Hid (CR cb g z3.2 w3) := hc
  have HX3 : Hid (Blk w3 xb 127 #[.string ⟨z0.1.toArray⟩, .string ⟨z1.1.toArray⟩, .int .i64 z2.1, .bool (z3.1 != 0), .bool false]) := hx
  have HT3 : Hid (Tw g xb w w3) := HTd2.out.trans ht
  have HI3 : Hid (Inv0 bx cb w3) := HJ3
  clear hc hx ht HQ2 HCd2 HXd2 HTd2 HId2 HJ3 hc2 HC2 HX2 HT2 HI2
  have HCd3 : Hid (CR cb g z3.2 w3.drew) := HC3.out.drew
  have HXd3 : Hid (Blk w3.drew xb 127 #[.string ⟨z0.1.toArray⟩, .string ⟨z1.1.toArray⟩, .int .i64 z2.1, .bool (z3.1 != 0), .bool false]) := HX3.out
  have HId3 : Hid (Inv0 bx cb w3.drew) := Lib.hid ((Inv0.keepsR g bx cb).below _ _ HI3.out (Below.drew (Below.refl _ _)))
  have HTd3 : Hid (Tw g xb w w3.drew) := HT3.out.drew
  have hq3 := bool_r (cb := cb) (g := g) (xb := xb) (i := 4) (w := w3.drew) (T := 127) HCd3.out HXd3.out hxc hxg rfl (by omega)
  simp only [← HZ4.out, List.setIfInBounds_toArray, List.set_cons_zero, List.set_cons_succ] at hq3
  have HQ3 := Lib.hid hq3
  clear hq3
  unfold GetPost at HQ3
  have hc3 := HI3.out.cell
  go_wp2_with fail
  go_region_held3 (fun w' => w'.cell? ⟨bx, 0, none⟩ = some (.pointer (some ⟨cb, 0, none⟩)))
    (first | exact HJ4.out.cell | exact HId3.out.cell)
    (first
      | (go_at_call 54; refine Calls.mono HQ3.out ?_; rintro r w4 ⟨rfl, hc, hx, ht⟩; have HJ4 := Lib.hid ((Inv0.keepsR g bx cb).tw _ _ xb 127 _ _ HId3.out HCd3.out.rd HXd3.out (by decide) (by decide) ht)))
  have HC4 : Hid (CR cb g z4.2 w4) := hc
  have HX4 : Hid (Blk w4 xb 127 #[.string ⟨z0.1.toArray⟩, .string ⟨z1.1.toArray⟩, .int .i64 z2.1, .bool (z3.1 != 0), .bool (z4.1 != 0)]) := hx
  have HT4 : Hid (Tw g xb w w4) := HTd3.out.trans ht
  have HI4 : Hid (Inv0 bx cb w4) := HJ4
  clear hc hx ht HQ3 HCd3 HXd3 HTd3 HId3 HJ4 hc3 HC3 HX3 HT3 HI3
  go_wp2
  go_end0
  exact ⟨rfl, ⟨z0.1, z1.1, z2.1, z3.1 != 0, z4.1 != 0⟩, rfl, HC4.out, HX4.out, HT4.out⟩

set_option maxHeartbeats 8000000 in
set_option maxRecDepth 100000 in
theorem cloDyn_r {cb g bx : Nat} {w : World} {st : St} (xb : Nat) (hI : Inv0 bx cb w) (h : CR cb g st w) (hg : st.Good) (hl : st.rest.length ≤ 1048576) (hx : Blk w xb 135 #[.int .i64 0, .int .i64 0, .int .i64 0, .int .i64 0]) (hxc : xb ≠ cb) (hxg : xb ≠ g) :
    Calls Tryd.prog 63 #[.pointer (some ⟨xb, 0, none⟩), .pointer (some ⟨bx, 0, none⟩)] w (fun e w2 => e = .returned (.tuple #[]) ∧ ∃ y : DynD, y.pl = (rDyn st).1 ∧ CR cb g (rDyn st).2 w2 ∧ Blk w2 xb 135 y.parts.toArray ∧ Tw g xb w w2) := by
  have HC0 := Lib.hid h
  have HX0 := Lib.hid hx
  have HI0 := Lib.hid hI
  have HT0 := Lib.hid (Tw.refl g xb w)
  have hc0 := hI.cell
  obtain ⟨z0, hz0⟩ : ∃ z, z = rInt st := ⟨_, rfl⟩
  have hl0 := rInt_rest_le st
  rw [← hz0] at hl0
  have hg0 := rInt_good st hg
  rw [← hz0] at hg0
  obtain ⟨z1, hz1⟩ : ∃ z, z = rInt z0.2 := ⟨_, rfl⟩
  have hl1 := rInt_rest_le z0.2
  rw [← hz1] at hl1
  have hg1 := rInt_good z0.2 hg0
  rw [← hz1] at hg1
  obtain ⟨z2, hz2⟩ : ∃ z, z = rInt z1.2 := ⟨_, rfl⟩
  have hl2 := rInt_rest_le z1.2
  rw [← hz2] at hl2
  have hg2 := rInt_good z1.2 hg1
  rw [← hz2] at hg2
  obtain ⟨z3, hz3⟩ : ∃ z, z = rInt z2.2 := ⟨_, rfl⟩
  have hl3 := rInt_rest_le z2.2
  rw [← hz3] at hl3
  have hg3 := rInt_good z2.2 hg2
  rw [← hz3] at hg3
  have HRX : Hid (rDyn st = (⟨z0.1, z1.1, z2.1, z3.1⟩, z3.2)) := Lib.hid (by simp only [rDyn, bR, ← hz0, ← hz1, ← hz2, ← hz3])
  have HZ0 := Lib.hid hz0
  clear hz0
  have HZ1 := Lib.hid hz1
  clear hz1
  have HZ2 := Lib.hid hz2
  clear hz2
  have HZ3 := Lib.hid hz3
  clear hz3
  have HG0 := Lib.hid hg0
  clear hg0
  have HG1 := Lib.hid hg1
  clear hg1
  have HG2 := Lib.hid hg2
  clear hg2
  have HG3 := Lib.hid hg3
  clear hg3
  have HG := Lib.hid hg
  clear h hx hI hg
  rw [HRX.out]
  go_enter Tryd.func63, Tryd.ntmps63
  have HCd0 : Hid (CR cb g st w.drew) := HC0.out.drew
  have HXd0 : Hid (Blk w.drew xb 135 #[.int .i64 0, .int .i64 0, .int .i64 0, .int .i64 0]) := HX0.out
  have HId0 : Hid (Inv0 bx cb w.drew) := Lib.hid ((Inv0.keepsR g bx cb).below _ _ HI0.out (Below.drew (Below.refl _ _)))
  have HTd0 : Hid (Tw g xb w w.drew) := HT0.out.drew
  have hq0 := ints_rn (cb := cb) (g := g) (xb := xb) (w := w.drew) (T := 135) [0, 1, 2, 3] HCd0.out HXd0.out hxc hxg (by simp) (by simp) (by omega)
  simp only [rIs, ← HZ0.out, ← HZ1.out, ← HZ2.out, ← HZ3.out, List.setIfInBounds_toArray, List.set_cons_zero, List.set_cons_succ, List.map_cons, List.map_nil, List.length_cons, List.length_nil, Nat.zero_add, Nat.reduceAdd] at hq0
  have HQ0 := Lib.hid hq0
  clear hq0
  unfold GetPost at HQ0
  go_wp2_with fail
  go_region_held3 (fun w' => w'.cell? ⟨bx, 0, none⟩ = some (.pointer (some ⟨cb, 0, none⟩)))
    (first | exact HJ1.out.cell | exact HId0.out.cell | exact ((Inv0.keepsR g bx cb).below _ _ HId0.out ((Below.refl _ _).alloc (Nat.le_refl _) (.cells #[.pointer (some ⟨xb, 0, none⟩), .pointer (some ⟨xb, 1, none⟩), .pointer (some ⟨xb, 2, none⟩), .pointer (some ⟨xb, 3, none⟩)] 105))).cell)
    (first
      | (go_at_call 51; refine Calls.mono HQ0.out ?_; rintro r w1 ⟨rfl, hc, hx, ht⟩; have HJ1 := Lib.hid ((Inv0.keepsR g bx cb).tw _ _ xb 135 _ _ HId0.out HCd0.out.rd HXd0.out (by decide) (by decide) ht)))
  have HC1 : Hid (CR cb g z3.2 w1) := hc
  have HX1 : Hid (Blk w1 xb 135 #[.int .i64 z0.1, .int .i64 z1.1, .int .i64 z2.1, .int .i64 z3.1]) := hx
  have HT1 : Hid (Tw g xb w w1) := HTd0.out.trans ht
  have HI1 : Hid (Inv0 bx cb w1) := HJ1
  clear hc hx ht HQ0 HCd0 HXd0 HTd0 HId0 HJ1 hc0 HC0 HX0 HT0 HI0
  go_wp2
  go_end0
  exact ⟨rfl, ⟨z0.1, z1.1, z2.1, z3.1⟩, rfl, HC1.out, HX1.out, HT1.out⟩

set_option maxHeartbeats 8000000 in
set_option maxRecDepth 100000 in
theorem cloVerDef_r {cb g bx tx : Nat} {w : World} {st : St} (xb : Nat) (hI : Inv1 bx tx cb w) (h : CR cb g st w) (hg : st.Good) (hl : st.rest.length ≤ 1048576) (hx : Blk w xb 143 #[.string ⟨#[]⟩, .slice none 0 0]) (hxc : xb ≠ cb) (hxg : xb ≠ g) :
    Calls Tryd.prog 66 #[.pointer (some ⟨xb, 0, none⟩), .pointer (some ⟨bx, 0, none⟩), .pointer (some ⟨tx, 0, none⟩)] w (fun e w2 => e = .returned (.tuple #[]) ∧ ∃ y : VerDefD, y.pl = (rVerDef st).1 ∧ CR cb g (rVerDef st).2 w2 ∧ Blk w2 xb 143 y.parts.toArray ∧ Tw g xb w w2 ∧ w2.ownsRow 0 9 1 (.slice y.f1.A y.f1.xs.length y.f1.c) y.f1.xs.length (y.f1.xs.flatMap StrD.parts)) := by
  have HC0 := Lib.hid h
  have HX0 := Lib.hid hx
  have HI0 := Lib.hid hI
  have HT0 := Lib.hid (Tw.refl g xb w)
  have hc0 := hI.cell
  obtain ⟨z0, hz0⟩ : ∃ z, z = rText st := ⟨_, rfl⟩
  have hl0 := rText_rest_le st
  rw [← hz0] at hl0
  have hg0 := rText_good st hg
  rw [← hz0] at hg0
  obtain ⟨z1, hz1⟩ : ∃ z, z = rLst rStr z0.2 := ⟨_, rfl⟩
  have hl1 := rLst_rest_le rStr rStr_rok.le z0.2
  rw [← hz1] at hl1
  have hg1 := rLst_good rStr rStr_rok.good z0.2 hg0
  rw [← hz1] at hg1
  have HRX : Hid (rVerDef st = (⟨z0.1, z1.1⟩, z1.2)) := Lib.hid (by simp only [rVerDef, bR, ← hz0, ← hz1])
  have HZ0 := Lib.hid hz0
  clear hz0
  have HZ1 := Lib.hid hz1
  clear hz1
  have HG0 := Lib.hid hg0
  clear hg0
  have HG1 := Lib.hid hg1
  clear hg1
  have HG := Lib.hid hg
  clear h hx hI hg
  rw [HRX.out]
  go_enter Tryd.func66, Tryd.ntmps66
  have HCd0 : Hid (CR cb g st w.drew) := HC0.out.drew
  have HXd0 : Hid (Blk w.drew xb 143 #[.string ⟨#[]⟩, .slice none 0 0]) := HX0.out
  have HId0 : Hid (Inv1 bx tx cb w.drew) := Lib.hid ((Inv1.keepsR g bx tx cb).below _ _ HI0.out (Below.drew (Below.refl _ _)))
  have HTd0 : Hid (Tw g xb w w.drew) := HT0.out.drew
  have hq0 := texts_rn (cb := cb) (g := g) (xb := xb) (w := w.drew) (T := 143) [0] HCd0.out HXd0.out hxc hxg (by simp) (by simp) (by omega)
  simp only [rTs, ← HZ0.out, List.setIfInBounds_toArray, List.set_cons_zero, List.set_cons_succ, List.map_cons, List.map_nil, List.length_cons, List.length_nil, Nat.zero_add, Nat.reduceAdd] at hq0
  have HQ0 := Lib.hid hq0
  clear hq0
  unfold GetPost at HQ0
  go_wp2_with fail
  go_region_held3 (fun w' => w'.cell? ⟨bx, 0, none⟩ = some (.pointer (some ⟨cb, 0, none⟩)) ∧ w'.cell? ⟨tx, 0, none⟩ = some (.func (.func 52) #[] #[.pointer (some ⟨bx, 0, none⟩)]))
    (first | exact ⟨HJ1.out.cell, HJ1.out.tcell⟩ | exact ⟨HId0.out.cell, HId0.out.tcell⟩ | exact ⟨((Inv1.keepsR g bx tx cb).below _ _ HId0.out ((Below.refl _ _).alloc (Nat.le_refl _) (.cells #[.pointer (some ⟨xb, 0, none⟩)] 108))).cell, ((Inv1.keepsR g bx tx cb).below _ _ HId0.out ((Below.refl _ _).alloc (Nat.le_refl _) (.cells #[.pointer (some ⟨xb, 0, none⟩)] 108))).tcell⟩)
    (first
      | (go_at_call 53; refine Calls.mono HQ0.out ?_; rintro r w1 ⟨rfl, hc, hx, ht⟩; have HJ1 := Lib.hid ((Inv1.keepsR g bx tx cb).tw _ _ xb 143 _ _ HId0.out HCd0.out.rd HXd0.out (by decide) (by decide) ht)))
  have HC1 : Hid (CR cb g z0.2 w1) := hc
  have HX1 : Hid (Blk w1 xb 143 #[.string ⟨z0.1.toArray⟩, .slice none 0 0]) := hx
  have HT1 : Hid (Tw g xb w w1) := HTd0.out.trans ht
  have HI1 : Hid (Inv1 bx tx cb w1) := HJ1
  clear hc hx ht HQ0 HCd0 HXd0 HTd0 HId0 HJ1 hc0 HC0 HX0 HT0 HI0
  have HCd1 : Hid (CR cb g z0.2 w1.drew) := HC1.out.drew
  have HXd1 : Hid (Blk w1.drew xb 143 #[.string ⟨z0.1.toArray⟩, .slice none 0 0]) := HX1.out
  have HId1 : Hid (Inv1 bx tx cb w1.drew) := Lib.hid ((Inv1.keepsR g bx tx cb).below _ _ HI1.out (Below.drew (Below.refl _ _)))
  have HTd1 : Hid (Tw g xb w w1.drew) := HT1.out.drew
  have HQ1 := Lib.hid (listStr_r (cb := cb) (g := g) (ib := xb) (off := 1) (w := w1.drew) (ti := 143) (st := z0.2) (Inv0 bx cb) ⟨bx, 0, none⟩ (Inv0.keepsR g bx cb) HId1.out.1 HCd1.out HG0.out (by omega) HXd1.out (by decide) (by decide) (by decide) hxc hxg rfl (fun wx sx xb2 i2 c2 g2 l2 b2 k2 n2 => cloStr_r xb2 i2 c2 g2 l2 b2 k2 n2))
  unfold GotListStr at HQ1
  rw [← HZ1.out] at HQ1
  have hc1 := HI1.out.cell
  go_wp2_with fail
  go_region_held3 (fun w' => w'.cell? ⟨bx, 0, none⟩ = some (.pointer (some ⟨cb, 0, none⟩)) ∧ w'.cell? ⟨tx, 0, none⟩ = some (.func (.func 52) #[] #[.pointer (some ⟨bx, 0, none⟩)]))
    (first | exact ⟨HJ2.out.cell, HJ2.out.tcell⟩ | exact ⟨HId1.out.cell, HId1.out.tcell⟩)
    (first
      | (go_at_call 64; refine Calls.mono HQ1.out ?_; rintro r w2 ⟨rfl, s1, hs1, ho1, hx, hc, ht⟩; have HJ2 := Lib.hid ((Inv1.keepsR g bx tx cb).tw _ _ xb 143 _ _ HId1.out HCd1.out.rd HXd1.out (by decide) (by decide) ht)))
  have HC2 : Hid (CR cb g z1.2 w2) := hc
  have HX2 : Hid (Blk w2 xb 143 #[.string ⟨z0.1.toArray⟩, .slice s1.A s1.xs.length s1.c]) := hx
  have HT2 : Hid (Tw g xb w w2) := HTd1.out.trans ht
  have HI2 : Hid (Inv1 bx tx cb w2) := HJ2
  have HO1_2 := Lib.hid (own_zero ho1)
  have HS1 := Lib.hid hs1
  clear ho1 hs1
  clear hc hx ht HQ1 HCd1 HXd1 HTd1 HId1 HJ2 hc1 HC1 HX1 HT1 HI1
  have hpl : s1.xs = z1.1 := by have h := HS1.out; rw [show List.map StrD.pl s1.xs = s1.xs from List.map_id s1.xs] at h; exact h
  go_wp2
  go_end0
  exact ⟨rfl, ⟨z0.1, s1⟩, by show (⟨z0.1, s1.xs⟩ : VerDefP) = _; rw [hpl], HC2.out, HX2.out, HT2.out, HO1_2.out⟩

set_option maxHeartbeats 8000000 in
set_option maxRecDepth 100000 in
theorem cloConv_r {cb g bx : Nat} {w : World} {st : St} (xb : Nat) (hI : Inv0 bx cb w) (h : CR cb g st w) (hg : st.Good) (hl : st.rest.length ≤ 1048576) (hx : Blk w xb 152 #[.string ⟨#[]⟩, .string ⟨#[]⟩, .string ⟨#[]⟩, .slice none 0 0, .int .i64 0]) (hxc : xb ≠ cb) (hxg : xb ≠ g) :
    Calls Tryd.prog 69 #[.pointer (some ⟨xb, 0, none⟩), .pointer (some ⟨bx, 0, none⟩)] w (fun e w2 => e = .returned (.tuple #[]) ∧ ∃ y : ConvD, y.pl = (rConv st).1 ∧ CR cb g (rConv st).2 w2 ∧ Blk w2 xb 152 y.parts.toArray ∧ Tw g xb w w2 ∧ w2.ownsRow 0 157 3 (.slice y.f3.A y.f3.xs.length y.f3.c) y.f3.xs.length (y.f3.xs.flatMap PieceD.parts)) := by
  have HC0 := Lib.hid h
  have HX0 := Lib.hid hx
  have HI0 := Lib.hid hI
  have HT0 := Lib.hid (Tw.refl g xb w)
  have hc0 := hI.cell
  obtain ⟨z0, hz0⟩ : ∃ z, z = rText st := ⟨_, rfl⟩
  have hl0 := rText_rest_le st
  rw [← hz0] at hl0
  have hg0 := rText_good st hg
  rw [← hz0] at hg0
  obtain ⟨z1, hz1⟩ : ∃ z, z = rText z0.2 := ⟨_, rfl⟩
  have hl1 := rText_rest_le z0.2
  rw [← hz1] at hl1
  have hg1 := rText_good z0.2 hg0
  rw [← hz1] at hg1
  obtain ⟨z2, hz2⟩ : ∃ z, z = rText z1.2 := ⟨_, rfl⟩
  have hl2 := rText_rest_le z1.2
  rw [← hz2] at hl2
  have hg2 := rText_good z1.2 hg1
  rw [← hz2] at hg2
  obtain ⟨z3, hz3⟩ : ∃ z, z = rLst rPiece z2.2 := ⟨_, rfl⟩
  have hl3 := rLst_rest_le rPiece rPiece_rok.le z2.2
  rw [← hz3] at hl3
  have hg3 := rLst_good rPiece rPiece_rok.good z2.2 hg2
  rw [← hz3] at hg3
  obtain ⟨z4, hz4⟩ : ∃ z, z = rInt z3.2 := ⟨_, rfl⟩
  have hl4 := rInt_rest_le z3.2
  rw [← hz4] at hl4
  have hg4 := rInt_good z3.2 hg3
  rw [← hz4] at hg4
  have HRX : Hid (rConv st = (⟨z0.1, z1.1, z2.1, z3.1, z4.1⟩, z4.2)) := Lib.hid (by simp only [rConv, bR, ← hz0, ← hz1, ← hz2, ← hz3, ← hz4])
  have HZ0 := Lib.hid hz0
  clear hz0
  have HZ1 := Lib.hid hz1
  clear hz1
  have HZ2 := Lib.hid hz2
  clear hz2
  have HZ3 := Lib.hid hz3
  clear hz3
  have HZ4 := Lib.hid hz4
  clear hz4
  have HG0 := Lib.hid hg0
  clear hg0
  have HG1 := Lib.hid hg1
  clear hg1
  have HG2 := Lib.hid hg2
  clear hg2
  have HG3 := Lib.hid hg3
  clear hg3
  have HG4 := Lib.hid hg4
  clear hg4
  have HG := Lib.hid hg
  clear h hx hI hg
  rw [HRX.out]
  go_enter Tryd.func69, Tryd.ntmps69
  have HCd0 : Hid (CR cb g st w.drew) := HC0.out.drew
  have HXd0 : Hid (Blk w.drew xb 152 #[.string ⟨#[]⟩, .string ⟨#[]⟩, .string ⟨#[]⟩, .slice none 0 0, .int .i64 0]) := HX0.out
  have HId0 : Hid (Inv0 bx cb w.drew) := Lib.hid ((Inv0.keepsR g bx cb).below _ _ HI0.out (Below.drew (Below.refl _ _)))
  have HTd0 : Hid (Tw g xb w w.drew) := HT0.out.drew
  have hq0 := texts_rn (cb := cb) (g := g) (xb := xb) (w := w.drew) (T := 152) [0, 1, 2] HCd0.out HXd0.out hxc hxg (by simp) (by simp) (by omega)
  simp only [rTs, ← HZ0.out, ← HZ1.out, ← HZ2.out, List.setIfInBounds_toArray, List.set_cons_zero, List.set_cons_succ, List.map_cons, List.map_nil, List.length_cons, List.length_nil, Nat.zero_add, Nat.reduceAdd] at hq0
  have HQ0 := Lib.hid hq0
  clear hq0
  unfold GetPost at HQ0
  go_wp2_with fail
  go_region_held3 (fun w' => w'.cell? ⟨bx, 0, none⟩ = some (.pointer (some ⟨cb, 0, none⟩)))
    (first | exact HJ1.out.cell | exact HId0.out.cell | exact ((Inv0.keepsR g bx cb).below _ _ HId0.out ((Below.refl _ _).alloc (Nat.le_refl _) (.cells #[.pointer (some ⟨xb, 0, none⟩), .pointer (some ⟨xb, 1, none⟩), .pointer (some ⟨xb, 2, none⟩)] 108))).cell)
    (first
      | (go_at_call 53; refine Calls.mono HQ0.out ?_; rintro r w1 ⟨rfl, hc, hx, ht⟩; have HJ1 := Lib.hid ((Inv0.keepsR g bx cb).tw _ _ xb 152 _ _ HId0.out HCd0.out.rd HXd0.out (by decide) (by decide) ht)))
  have HC1 : Hid (CR cb g z2.2 w1) := hc
  have HX1 : Hid (Blk w1 xb 152 #[.string ⟨z0.1.toArray⟩, .string ⟨z1.1.toArray⟩, .string ⟨z2.1.toArray⟩, .slice none 0 0, .int .i64 0]) := hx
  have HT1 : Hid (Tw g xb w w1) := HTd0.out.trans ht
  have HI1 : Hid (Inv0 bx cb w1) := HJ1
  clear hc hx ht HQ0 HCd0 HXd0 HTd0 HId0 HJ1 hc0 HC0 HX0 HT0 HI0
  have HCd1 : Hid (CR cb g z2.2 w1.drew) := HC1.out.drew
  have HXd1 : Hid (Blk w1.drew xb 152 #[.string ⟨z0.1.toArray⟩, .string ⟨z1.1.toArray⟩, .string ⟨z2.1.toArray⟩, .slice none 0 0, .int .i64 0]) := HX1.out
  have HId1 : Hid (Inv0 bx cb w1.drew) := Lib.hid ((Inv0.keepsR g bx cb).below _ _ HI1.out (Below.drew (Below.refl _ _)))
  have HTd1 : Hid (Tw g xb w w1.drew) := HT1.out.drew
  have HQ1 := Lib.hid (listPiece_r (cb := cb) (g := g) (ib := xb) (off := 3) (w := w1.drew) (ti := 152) (st := z2.2) (Inv0 bx cb) ⟨bx, 0, none⟩ (Inv0.keepsR g bx cb) HId1.out HCd1.out HG2.out (by omega) HXd1.out (by decide) (by decide) (by decide) hxc hxg rfl (fun wx sx xb2 i2 c2 g2 l2 b2 k2 n2 => cloPiece_r xb2 i2 c2 g2 l2 b2 k2 n2))
  unfold GotListPiece at HQ1
  rw [← HZ3.out] at HQ1
  have hc1 := HI1.out.cell
  go_wp2_with fail
  go_region_held3 (fun w' => w'.cell? ⟨bx, 0, none⟩ = some (.pointer (some ⟨cb, 0, none⟩)))
    (first | exact HJ2.out.cell | exact HId1.out.cell)
    (first
      | (go_at_call 70; refine Calls.mono HQ1.out ?_; rintro r w2 ⟨rfl, s3, hs3, ho3, hx, hc, ht⟩; have HJ2 := Lib.hid ((Inv0.keepsR g bx cb).tw _ _ xb 152 _ _ HId1.out HCd1.out.rd HXd1.out (by decide) (by decide) ht)))
  have HC2 : Hid (CR cb g z3.2 w2) := hc
  have HX2 : Hid (Blk w2 xb 152 #[.string ⟨z0.1.toArray⟩, .string ⟨z1.1.toArray⟩, .string ⟨z2.1.toArray⟩, .slice s3.A s3.xs.length s3.c, .int .i64 0]) := hx
  have HT2 : Hid (Tw g xb w w2) := HTd1.out.trans ht
  have HI2 : Hid (Inv0 bx cb w2) := HJ2
  have HO3_2 := Lib.hid (own_zero ho3)
  have HS3 := Lib.hid hs3
  clear ho3 hs3
  clear hc hx ht HQ1 HCd1 HXd1 HTd1 HId1 HJ2 hc1 HC1 HX1 HT1 HI1
  have HCd2 : Hid (CR cb g z3.2 w2.drew) := HC2.out.drew
  have HXd2 : Hid (Blk w2.drew xb 152 #[.string ⟨z0.1.toArray⟩, .string ⟨z1.1.toArray⟩, .string ⟨z2.1.toArray⟩, .slice s3.A s3.xs.length s3.c, .int .i64 0]) := HX2.out
  have HId2 : Hid (Inv0 bx cb w2.drew) := Lib.hid ((Inv0.keepsR g bx cb).below _ _ HI2.out (Below.drew (Below.refl _ _)))
  have HTd2 : Hid (Tw g xb w w2.drew) := HT2.out.drew
  have hq2 := ints_rn (cb := cb) (g := g) (xb := xb) (w := w2.drew) (T := 152) [4] HCd2.out HXd2.out hxc hxg (by simp) (by simp) (by omega)
  simp only [rIs, ← HZ4.out, List.setIfInBounds_toArray, List.set_cons_zero, List.set_cons_succ, List.map_cons, List.map_nil, List.length_cons, List.length_nil, Nat.zero_add, Nat.reduceAdd] at hq2
  have HQ2 := Lib.hid hq2
  clear hq2
  unfold GetPost at HQ2
  have hc2 := HI2.out.cell
  go_wp2_with fail
  go_region_held3 (fun w' => w'.cell? ⟨bx, 0, none⟩ = some (.pointer (some ⟨cb, 0, none⟩)))
    (first | exact HJ3.out.cell | exact HId2.out.cell | exact ((Inv0.keepsR g bx cb).below _ _ HId2.out ((Below.refl _ _).alloc (Nat.le_refl _) (.cells #[.pointer (some ⟨xb, 4, none⟩)] 105))).cell)
    (first
      | (go_at_call 51; refine Calls.mono HQ2.out ?_; rintro r w3 ⟨rfl, hc, hx, ht⟩; have HJ3 := Lib.hid ((Inv0.keepsR g bx cb).tw _ _ xb 152 _ _ HId2.out HCd2.out.rd HXd2.out (by decide) (by decide) ht)))
  have HC3 : Hid (CR cb g z4.2 w3) := hc
  have HX3 : Hid (Blk w3 xb 152 #[.string ⟨z0.1.toArray⟩, .string ⟨z1.1.toArray⟩, .string ⟨z2.1.toArray⟩, .slice s3.A s3.xs.length s3.c, .int .i64 z4.1]) := hx
  have HT3 : Hid (Tw g xb w w3) := HTd2.out.trans ht
  have HI3 : Hid (Inv0 bx cb w3) := HJ3
  have HO3_3 := Lib.hid (own_tw (own_below HO3_2.out (Below.drew (Below.refl _ _)) (Nat.le_refl _)) HCd2.out.rd (by decide) HXd2.out (by decide) ht)
  clear HO3_2
  clear hc hx ht HQ2 HCd2 HXd2 HTd2 HId2 HJ3 hc2 HC2 HX2 HT2 HI2
  have hpl : s3.xs = z3.1 := by have h := HS3.out; rw [show List.map PieceD.pl s3.xs = s3.xs from List.map_id s3.xs] at h; exact h
  go_wp2
  go_end0
  exact ⟨rfl, ⟨z0.1, z1.1, z2.1, s3, z4.1⟩, by show (⟨z0.1, z1.1, z2.1, s3.xs, z4.1⟩ : ConvP) = _; rw [hpl], HC3.out, HX3.out, HT3.out, HO3_3.out⟩

set_option maxHeartbeats 8000000 in
set_option maxRecDepth 100000 in
theorem cloMark_r {cb g bx : Nat} {w : World} {st : St} (xb : Nat) (hI : Inv0 bx cb w) (h : CR cb g st w) (hg : st.Good) (hl : st.rest.length ≤ 1048576) (hx : Blk w xb 173 #[.string ⟨#[]⟩, .int .i64 0, .int .i64 0, .int .i64 0]) (hxc : xb ≠ cb) (hxg : xb ≠ g) :
    Calls Tryd.prog 78 #[.pointer (some ⟨xb, 0, none⟩), .pointer (some ⟨bx, 0, none⟩)] w (fun e w2 => e = .returned (.tuple #[]) ∧ ∃ y : MarkD, y.pl = (rMark st).1 ∧ CR cb g (rMark st).2 w2 ∧ Blk w2 xb 173 y.parts.toArray ∧ Tw g xb w w2) := by
  have HC0 := Lib.hid h
  have HX0 := Lib.hid hx
  have HI0 := Lib.hid hI
  have HT0 := Lib.hid (Tw.refl g xb w)
  have hc0 := hI.cell
  obtain ⟨z0, hz0⟩ : ∃ z, z = rText st := ⟨_, rfl⟩
  have hl0 := rText_rest_le st
  rw [← hz0] at hl0
  have hg0 := rText_good st hg
  rw [← hz0] at hg0
  obtain ⟨z1, hz1⟩ : ∃ z, z = rInt z0.2 := ⟨_, rfl⟩
  have hl1 := rInt_rest_le z0.2
  rw [← hz1] at hl1
  have hg1 := rInt_good z0.2 hg0
  rw [← hz1] at hg1
  obtain ⟨z2, hz2⟩ : ∃ z, z = rInt z1.2 := ⟨_, rfl⟩
  have hl2 := rInt_rest_le z1.2
  rw [← hz2] at hl2
  have hg2 := rInt_good z1.2 hg1
  rw [← hz2] at hg2
  obtain ⟨z3, hz3⟩ : ∃ z, z = rInt z2.2 := ⟨_, rfl⟩
  have hl3 := rInt_rest_le z2.2
  rw [← hz3] at hl3
  have hg3 := rInt_good z2.2 hg2
  rw [← hz3] at hg3
  have HRX : Hid (rMark st = (⟨z0.1, z1.1, z2.1, z3.1⟩, z3.2)) := Lib.hid (by simp only [rMark, bR, ← hz0, ← hz1, ← hz2, ← hz3])
  have HZ0 := Lib.hid hz0
  clear hz0
  have HZ1 := Lib.hid hz1
  clear hz1
  have HZ2 := Lib.hid hz2
  clear hz2
  have HZ3 := Lib.hid hz3
  clear hz3
  have HG0 := Lib.hid hg0
  clear hg0
  have HG1 := Lib.hid hg1
  clear hg1
  have HG2 := Lib.hid hg2
  clear hg2
  have HG3 := Lib.hid hg3
  clear hg3
  have HG := Lib.hid hg
  clear h hx hI hg
  rw [HRX.out]
  go_enter Tryd.func78, Tryd.ntmps78
  have HCd0 : Hid (CR cb g st w.drew) := HC0.out.drew
  have HXd0 : Hid (Blk w.drew xb 173 #[.string ⟨#[]⟩, .int .i64 0, .int .i64 0, .int .i64 0]) := HX0.out
  have HId0 : Hid (Inv0 bx cb w.drew) := Lib.hid ((Inv0.keepsR g bx cb).below _ _ HI0.out (Below.drew (Below.refl _ _)))
  have HTd0 : Hid (Tw g xb w w.drew) := HT0.out.drew
  have hq0 := texts_rn (cb := cb) (g := g) (xb := xb) (w := w.drew) (T := 173) [0] HCd0.out HXd0.out hxc hxg (by simp) (by simp) (by omega)
  simp only [rTs, ← HZ0.out, List.setIfInBounds_toArray, List.set_cons_zero, List.set_cons_succ, List.map_cons, List.map_nil, List.length_cons, List.length_nil, Nat.zero_add, Nat.reduceAdd] at hq0
  have HQ0 := Lib.hid hq0
  clear hq0
  unfold GetPost at HQ0
  go_wp2_with fail
  go_region_held3 (fun w' => w'.cell? ⟨bx, 0, none⟩ = some (.pointer (some ⟨cb, 0, none⟩)))
    (first | exact HJ1.out.cell | exact HId0.out.cell | exact ((Inv0.keepsR g bx cb).below _ _ HId0.out ((Below.refl _ _).alloc (Nat.le_refl _) (.cells #[.pointer (some ⟨xb, 0, none⟩)] 108))).cell)
    (first
      | (go_at_call 53; refine Calls.mono HQ0.out ?_; rintro r w1 ⟨rfl, hc, hx, ht⟩; have HJ1 := Lib.hid ((Inv0.keepsR g bx cb).tw _ _ xb 173 _ _ HId0.out HCd0.out.rd HXd0.out (by decide) (by decide) ht)))
  have HC1 : Hid (CR cb g z0.2 w1) := hc
  have HX1 : Hid (Blk w1 xb 173 #[.string ⟨z0.1.toArray⟩, .int .i64 0, .int .i64 0, .int .i64 0]) := hx
  have HT1 : Hid (Tw g xb w w1) := HTd0.out.trans ht
  have HI1 : Hid (Inv0 bx cb w1) := HJ1
  clear hc hx ht HQ0 HCd0 HXd0 HTd0 HId0 HJ1 hc0 HC0 HX0 HT0 HI0
  have HCd1 : Hid (CR cb g z0.2 w1.drew) := HC1.out.drew
  have HXd1 : Hid (Blk w1.drew xb 173 #[.string ⟨z0.1.toArray⟩, .int .i64 0, .int .i64 0, .int .i64 0]) := HX1.out
  have HId1 : Hid (Inv0 bx cb w1.drew) := Lib.hid ((Inv0.keepsR g bx cb).below _ _ HI1.out (Below.drew (Below.refl _ _)))
  have HTd1 : Hid (Tw g xb w w1.drew) := HT1.out.drew
  have hq1 := ints_rn (cb := cb) (g := g) (xb := xb) (w := w1.drew) (T := 173) [1, 2, 3] HCd1.out HXd1.out hxc hxg (by simp) (by simp) (by omega)
  simp only [rIs, ← HZ1.out, ← HZ2.out, ← HZ3.out, List.setIfInBounds_toArray, List.set_cons_zero, List.set_cons_succ, List.map_cons, List.map_nil, List.length_cons, List.length_nil, Nat.zero_add, Nat.reduceAdd] at hq1
  have HQ1 := Lib.hid hq1
  clear hq1
  unfold GetPost at HQ1
  have hc1 := HI1.out.cell
  go_wp2_with fail
  go_region_held3 (fun w' => w'.cell? ⟨bx, 0, none⟩ = some (.pointer (some ⟨cb, 0, none⟩)))
    (first | exact HJ2.out.cell | exact HId1.out.cell | exact ((Inv0.keepsR g bx cb).below _ _ HId1.out ((Below.refl _ _).alloc (Nat.le_refl _) (.cells #[.pointer (some ⟨xb, 1, none⟩), .pointer (some ⟨xb, 2, none⟩), .pointer (some ⟨xb, 3, none⟩)] 105))).cell)
    (first
      | (go_at_call 51; refine Calls.mono HQ1.out ?_; rintro r w2 ⟨rfl, hc, hx, ht⟩; have HJ2 := Lib.hid ((Inv0.keepsR g bx cb).tw _ _ xb 173 _ _ HId1.out HCd1.out.rd HXd1.out (by decide) (by decide) ht)))
  have HC2 : Hid (CR cb g z3.2 w2) := hc
  have HX2 : Hid (Blk w2 xb 173 #[.string ⟨z0.1.toArray⟩, .int .i64 z1.1, .int .i64 z2.1, .int .i64 z3.1]) := hx
  have HT2 : Hid (Tw g xb w w2) := HTd1.out.trans ht
  have HI2 : Hid (Inv0 bx cb w2) := HJ2
  clear hc hx ht HQ1 HCd1 HXd1 HTd1 HId1 HJ2 hc1 HC1 HX1 HT1 HI1
  go_wp2
  go_end0
  exact ⟨rfl, ⟨z0.1, z1.1, z2.1, z3.1⟩, rfl, HC2.out, HX2.out, HT2.out⟩

set_option maxHeartbeats 8000000 in
set_option maxRecDepth 100000 in
theorem cloLine_r {cb g bx : Nat} {w : World} {st : St} (xb : Nat) (hI : Inv0 bx cb w) (h : CR cb g st w) (hg : st.Good) (hl : st.rest.length ≤ 1048576) (hx : Blk w xb 179 #[.int .i64 0, .int .i64 0, .string ⟨#[]⟩, .int .i64 0]) (hxc : xb ≠ cb) (hxg : xb ≠ g) :
    Calls Tryd.prog 80 #[.pointer (some ⟨xb, 0, none⟩), .pointer (some ⟨bx, 0, none⟩)] w (fun e w2 => e = .returned (.tuple #[]) ∧ ∃ y : LineD, y.pl = (rLine st).1 ∧ CR cb g (rLine st).2 w2 ∧ Blk w2 xb 179 y.parts.toArray ∧ Tw g xb w w2) := by
  have HC0 := Lib.hid h
  have HX0 := Lib.hid hx
  have HI0 := Lib.hid hI
  have HT0 := Lib.hid (Tw.refl g xb w)
  have hc0 := hI.cell
  obtain ⟨z0, hz0⟩ : ∃ z, z = rInt st := ⟨_, rfl⟩
  have hl0 := rInt_rest_le st
  rw [← hz0] at hl0
  have hg0 := rInt_good st hg
  rw [← hz0] at hg0
  obtain ⟨z1, hz1⟩ : ∃ z, z = rInt z0.2 := ⟨_, rfl⟩
  have hl1 := rInt_rest_le z0.2
  rw [← hz1] at hl1
  have hg1 := rInt_good z0.2 hg0
  rw [← hz1] at hg1
  obtain ⟨z2, hz2⟩ : ∃ z, z = rText z1.2 := ⟨_, rfl⟩
  have hl2 := rText_rest_le z1.2
  rw [← hz2] at hl2
  have hg2 := rText_good z1.2 hg1
  rw [← hz2] at hg2
  obtain ⟨z3, hz3⟩ : ∃ z, z = rInt z2.2 := ⟨_, rfl⟩
  have hl3 := rInt_rest_le z2.2
  rw [← hz3] at hl3
  have hg3 := rInt_good z2.2 hg2
  rw [← hz3] at hg3
  have HRX : Hid (rLine st = (⟨z0.1, z1.1, z2.1, z3.1⟩, z3.2)) := Lib.hid (by simp only [rLine, bR, ← hz0, ← hz1, ← hz2, ← hz3])
  have HZ0 := Lib.hid hz0
  clear hz0
  have HZ1 := Lib.hid hz1
  clear hz1
  have HZ2 := Lib.hid hz2
  clear hz2
  have HZ3 := Lib.hid hz3
  clear hz3
  have HG0 := Lib.hid hg0
  clear hg0
  have HG1 := Lib.hid hg1
  clear hg1
  have HG2 := Lib.hid hg2
  clear hg2
  have HG3 := Lib.hid hg3
  clear hg3
  have HG := Lib.hid hg
  clear h hx hI hg
  rw [HRX.out]
  go_enter Tryd.func80, Tryd.ntmps80
  have HCd0 : Hid (CR cb g st w.drew) := HC0.out.drew
  have HXd0 : Hid (Blk w.drew xb 179 #[.int .i64 0, .int .i64 0, .string ⟨#[]⟩, .int .i64 0]) := HX0.out
  have HId0 : Hid (Inv0 bx cb w.drew) := Lib.hid ((Inv0.keepsR g bx cb).below _ _ HI0.out (Below.drew (Below.refl _ _)))
  have HTd0 : Hid (Tw g xb w w.drew) := HT0.out.drew
  have hq0 := ints_rn (cb := cb) (g := g) (xb := xb) (w := w.drew) (T := 179) [0, 1] HCd0.out HXd0.out hxc hxg (by simp) (by simp) (by omega)
  simp only [rIs, ← HZ0.out, ← HZ1.out, List.setIfInBounds_toArray, List.set_cons_zero, List.set_cons_succ, List.map_cons, List.map_nil, List.length_cons, List.length_nil, Nat.zero_add, Nat.reduceAdd] at hq0
  have HQ0 := Lib.hid hq0
  clear hq0
  unfold GetPost at HQ0
  go_wp2_with fail
  go_region_held3 (fun w' => w'.cell? ⟨bx, 0, none⟩ = some (.pointer (some ⟨cb, 0, none⟩)))
    (first | exact HJ1.out.cell | exact HId0.out.cell | exact ((Inv0.keepsR g bx cb).below _ _ HId0.out ((Below.refl _ _).alloc (Nat.le_refl _) (.cells #[.pointer (some ⟨xb, 0, none⟩), .pointer (some ⟨xb, 1, none⟩)] 105))).cell)
    (first
      | (go_at_call 51; refine Calls.mono HQ0.out ?_; rintro r w1 ⟨rfl, hc, hx, ht⟩; have HJ1 := Lib.hid ((Inv0.keepsR g bx cb).tw _ _ xb 179 _ _ HId0.out HCd0.out.rd HXd0.out (by decide) (by decide) ht)))
  have HC1 : Hid (CR cb g z1.2 w1) := hc
  have HX1 : Hid (Blk w1 xb 179 #[.int .i64 z0.1, .int .i64 z1.1, .string ⟨#[]⟩, .int .i64 0]) := hx
  have HT1 : Hid (Tw g xb w w1) := HTd0.out.trans ht
  have HI1 : Hid (Inv0 bx cb w1) := HJ1
  clear hc hx ht HQ0 HCd0 HXd0 HTd0 HId0 HJ1 hc0 HC0 HX0 HT0 HI0
  have HCd1 : Hid (CR cb g z1.2 w1.drew) := HC1.out.drew
  have HXd1 : Hid (Blk w1.drew xb 179 #[.int .i64 z0.1, .int .i64 z1.1, .string ⟨#[]⟩, .int .i64 0]) := HX1.out
  have HId1 : Hid (Inv0 bx cb w1.drew) := Lib.hid ((Inv0.keepsR g bx cb).below _ _ HI1.out (Below.drew (Below.refl _ _)))
  have HTd1 : Hid (Tw g xb w w1.drew) := HT1.out.drew
  have hq1 := texts_rn (cb := cb) (g := g) (xb := xb) (w := w1.drew) (T := 179) [2] HCd1.out HXd1.out hxc hxg (by simp) (by simp) (by omega)
  simp only [rTs, ← HZ2.out, List.setIfInBounds_toArray, List.set_cons_zero, List.set_cons_succ, List.map_cons, List.map_nil, List.length_cons, List.length_nil, Nat.zero_add, Nat.reduceAdd] at hq1
  have HQ1 := Lib.hid hq1
  clear hq1
  unfold GetPost at HQ1
  have hc1 := HI1.out.cell
  go_wp2_with fail
  go_region_held3 (fun w' => w'.cell? ⟨bx, 0, none⟩ = some (.pointer (some ⟨cb, 0, none⟩)))
    (first | exact HJ2.out.cell | exact HId1.out.cell | exact ((Inv0.keepsR g bx cb).below _ _ HId1.out ((Below.refl _ _).alloc (Nat.le_refl _) (.cells #[.pointer (some ⟨xb, 2, none⟩)] 108))).cell)
    (first
      | (go_at_call 53; refine Calls.mono HQ1.out ?_; rintro r w2 ⟨rfl, hc, hx, ht⟩; have HJ2 := Lib.hid ((Inv0.keepsR g bx cb).tw _ _ xb 179 _ _ HId1.out HCd1.out.rd HXd1.out (by decide) (by decide) ht)))
  have HC2 : Hid (CR cb g z2.2 w2) := hc
  have HX2 : Hid (Blk w2 xb 179 #[.int .i64 z0.1, .int .i64 z1.1, .string ⟨z2.1.toArray⟩, .int .i64 0]) := hx
  have HT2 : Hid (Tw g xb w w2) := HTd1.out.trans ht
  have HI2 : Hid (Inv0 bx cb w2) := HJ2
  clear hc hx ht HQ1 HCd1 HXd1 HTd1 HId1 HJ2 hc1 HC1 HX1 HT1 HI1
  have HCd2 : Hid (CR cb g z2.2 w2.drew) := HC2.out.drew
  have HXd2 : Hid (Blk w2.drew xb 179 #[.int .i64 z0.1, .int .i64 z1.1, .string ⟨z2.1.toArray⟩, .int .i64 0]) := HX2.out
  have HId2 : Hid (Inv0 bx cb w2.drew) := Lib.hid ((Inv0.keepsR g bx cb).below _ _ HI2.out (Below.drew (Below.refl _ _)))
  have HTd2 : Hid (Tw g xb w w2.drew) := HT2.out.drew
  have hq2 := ints_rn (cb := cb) (g := g) (xb := xb) (w := w2.drew) (T := 179) [3] HCd2.out HXd2.out hxc hxg (by simp) (by simp) (by omega)
  simp only [rIs, ← HZ3.out, List.setIfInBounds_toArray, List.set_cons_zero, List.set_cons_succ, List.map_cons, List.map_nil, List.length_cons, List.length_nil, Nat.zero_add, Nat.reduceAdd] at hq2
  have HQ2 := Lib.hid hq2
  clear hq2
  unfold GetPost at HQ2
  have hc2 := HI2.out.cell
  go_wp2_with fail
  go_region_held3 (fun w' => w'.cell? ⟨bx, 0, none⟩ = some (.pointer (some ⟨cb, 0, none⟩)))
    (first | exact HJ3.out.cell | exact HId2.out.cell | exact ((Inv0.keepsR g bx cb).below _ _ HId2.out ((Below.refl _ _).alloc (Nat.le_refl _) (.cells #[.pointer (some ⟨xb, 3, none⟩)] 105))).cell)
    (first
      | (go_at_call 51; refine Calls.mono HQ2.out ?_; rintro r w3 ⟨rfl, hc, hx, ht⟩; have HJ3 := Lib.hid ((Inv0.keepsR g bx cb).tw _ _ xb 179 _ _ HId2.out HCd2.out.rd HXd2.out (by decide) (by decide) ht)))
  have HC3 : Hid (CR cb g z3.2 w3) := hc
  have HX3 : Hid (Blk w3 xb 179 #[.int .i64 z0.1, .int .i64 z1.1, .string ⟨z2.1.toArray⟩, .int .i64 z3.1]) := hx
  have HT3 : Hid (Tw g xb w w3) := HTd2.out.trans ht
  have HI3 : Hid (Inv0 bx cb w3) := HJ3
  clear hc hx ht HQ2 HCd2 HXd2 HTd2 HId2 HJ3 hc2 HC2 HX2 HT2 HI2
  go_wp2
  go_end0
  exact ⟨rfl, ⟨z0.1, z1.1, z2.1, z3.1⟩, rfl, HC3.out, HX3.out, HT3.out⟩

set_option maxHeartbeats 8000000 in
set_option maxRecDepth 100000 in
theorem cloSpan_r {cb g bx : Nat} {w : World} {st : St} (xb : Nat) (hI : Inv0 bx cb w) (h : CR cb g st w) (hg : st.Good) (hl : st.rest.length ≤ 1048576) (hx : Blk w xb 185 #[.int .i64 0, .int .i64 0]) (hxc : xb ≠ cb) (hxg : xb ≠ g) :
    Calls Tryd.prog 82 #[.pointer (some ⟨xb, 0, none⟩), .pointer (some ⟨bx, 0, none⟩)] w (fun e w2 => e = .returned (.tuple #[]) ∧ ∃ y : SpanD, y.pl = (rSpan st).1 ∧ CR cb g (rSpan st).2 w2 ∧ Blk w2 xb 185 y.parts.toArray ∧ Tw g xb w w2) := by
  have HC0 := Lib.hid h
  have HX0 := Lib.hid hx
  have HI0 := Lib.hid hI
  have HT0 := Lib.hid (Tw.refl g xb w)
  have hc0 := hI.cell
  obtain ⟨z0, hz0⟩ : ∃ z, z = rInt st := ⟨_, rfl⟩
  have hl0 := rInt_rest_le st
  rw [← hz0] at hl0
  have hg0 := rInt_good st hg
  rw [← hz0] at hg0
  obtain ⟨z1, hz1⟩ : ∃ z, z = rInt z0.2 := ⟨_, rfl⟩
  have hl1 := rInt_rest_le z0.2
  rw [← hz1] at hl1
  have hg1 := rInt_good z0.2 hg0
  rw [← hz1] at hg1
  have HRX : Hid (rSpan st = (⟨z0.1, z1.1⟩, z1.2)) := Lib.hid (by simp only [rSpan, bR, ← hz0, ← hz1])
  have HZ0 := Lib.hid hz0
  clear hz0
  have HZ1 := Lib.hid hz1
  clear hz1
  have HG0 := Lib.hid hg0
  clear hg0
  have HG1 := Lib.hid hg1
  clear hg1
  have HG := Lib.hid hg
  clear h hx hI hg
  rw [HRX.out]
  go_enter Tryd.func82, Tryd.ntmps82
  have HCd0 : Hid (CR cb g st w.drew) := HC0.out.drew
  have HXd0 : Hid (Blk w.drew xb 185 #[.int .i64 0, .int .i64 0]) := HX0.out
  have HId0 : Hid (Inv0 bx cb w.drew) := Lib.hid ((Inv0.keepsR g bx cb).below _ _ HI0.out (Below.drew (Below.refl _ _)))
  have HTd0 : Hid (Tw g xb w w.drew) := HT0.out.drew
  have hq0 := ints_rn (cb := cb) (g := g) (xb := xb) (w := w.drew) (T := 185) [0, 1] HCd0.out HXd0.out hxc hxg (by simp) (by simp) (by omega)
  simp only [rIs, ← HZ0.out, ← HZ1.out, List.setIfInBounds_toArray, List.set_cons_zero, List.set_cons_succ, List.map_cons, List.map_nil, List.length_cons, List.length_nil, Nat.zero_add, Nat.reduceAdd] at hq0
  have HQ0 := Lib.hid hq0
  clear hq0
  unfold GetPost at HQ0
  go_wp2_with fail
  go_region_held3 (fun w' => w'.cell? ⟨bx, 0, none⟩ = some (.pointer (some ⟨cb, 0, none⟩)))
    (first | exact HJ1.out.cell | exact HId0.out.cell | exact ((Inv0.keepsR g bx cb).below _ _ HId0.out ((Below.refl _ _).alloc (Nat.le_refl _) (.cells #[.pointer (some ⟨xb, 0, none⟩), .pointer (some ⟨xb, 1, none⟩)] 105))).cell)
    (first
      | (go_at_call 51; refine Calls.mono HQ0.out ?_; rintro r w1 ⟨rfl, hc, hx, ht⟩; have HJ1 := Lib.hid ((Inv0.keepsR g bx cb).tw _ _ xb 185 _ _ HId0.out HCd0.out.rd HXd0.out (by decide) (by decide) ht)))
  have HC1 : Hid (CR cb g z1.2 w1) := hc
  have HX1 : Hid (Blk w1 xb 185 #[.int .i64 z0.1, .int .i64 z1.1]) := hx
  have HT1 : Hid (Tw g xb w w1) := HTd0.out.trans ht
  have HI1 : Hid (Inv0 bx cb w1) := HJ1
  clear hc hx ht HQ0 HCd0 HXd0 HTd0 HId0 HJ1 hc0 HC0 HX0 HT0 HI0
  go_wp2
  go_end0
  exact ⟨rfl, ⟨z0.1, z1.1⟩, rfl, HC1.out, HX1.out, HT1.out⟩

set_option maxHeartbeats 8000000 in
set_option maxRecDepth 100000 in
theorem cloInline_r {cb g bx : Nat} {w : World} {st : St} (xb : Nat) (hI : Inv0 bx cb w) (h : CR cb g st w) (hg : st.Good) (hl : st.rest.length ≤ 1048576) (hx : Blk w xb 191 #[.int .i64 0, .int .i64 0, .int .i64 0, .string ⟨#[]⟩, .string ⟨#[]⟩, .int .i64 0]) (hxc : xb ≠ cb) (hxg : xb ≠ g) :
    Calls Tryd.prog 84 #[.pointer (some ⟨xb, 0, none⟩), .pointer (some ⟨bx, 0, none⟩)] w (fun e w2 => e = .returned (.tuple #[]) ∧ ∃ y : InlineD, y.pl = (rInline st).1 ∧ CR cb g (rInline st).2 w2 ∧ Blk w2 xb 191 y.parts.toArray ∧ Tw g xb w w2) := by
  have HC0 := Lib.hid h
  have HX0 := Lib.hid hx
  have HI0 := Lib.hid hI
  have HT0 := Lib.hid (Tw.refl g xb w)
  have hc0 := hI.cell
  obtain ⟨z0, hz0⟩ : ∃ z, z = rInt st := ⟨_, rfl⟩
  have hl0 := rInt_rest_le st
  rw [← hz0] at hl0
  have hg0 := rInt_good st hg
  rw [← hz0] at hg0
  obtain ⟨z1, hz1⟩ : ∃ z, z = rInt z0.2 := ⟨_, rfl⟩
  have hl1 := rInt_rest_le z0.2
  rw [← hz1] at hl1
  have hg1 := rInt_good z0.2 hg0
  rw [← hz1] at hg1
  obtain ⟨z2, hz2⟩ : ∃ z, z = rInt z1.2 := ⟨_, rfl⟩
  have hl2 := rInt_rest_le z1.2
  rw [← hz2] at hl2
  have hg2 := rInt_good z1.2 hg1
  rw [← hz2] at hg2
  obtain ⟨z3, hz3⟩ : ∃ z, z = rText z2.2 := ⟨_, rfl⟩
  have hl3 := rText_rest_le z2.2
  rw [← hz3] at hl3
  have hg3 := rText_good z2.2 hg2
  rw [← hz3] at hg3
  obtain ⟨z4, hz4⟩ : ∃ z, z = rText z3.2 := ⟨_, rfl⟩
  have hl4 := rText_rest_le z3.2
  rw [← hz4] at hl4
  have hg4 := rText_good z3.2 hg3
  rw [← hz4] at hg4
  obtain ⟨z5, hz5⟩ : ∃ z, z = rInt z4.2 := ⟨_, rfl⟩
  have hl5 := rInt_rest_le z4.2
  rw [← hz5] at hl5
  have hg5 := rInt_good z4.2 hg4
  rw [← hz5] at hg5
  have HRX : Hid (rInline st = (⟨z0.1, z1.1, z2.1, z3.1, z4.1, z5.1⟩, z5.2)) := Lib.hid (by simp only [rInline, bR, ← hz0, ← hz1, ← hz2, ← hz3, ← hz4, ← hz5])
  have HZ0 := Lib.hid hz0
  clear hz0
  have HZ1 := Lib.hid hz1
  clear hz1
  have HZ2 := Lib.hid hz2
  clear hz2
  have HZ3 := Lib.hid hz3
  clear hz3
  have HZ4 := Lib.hid hz4
  clear hz4
  have HZ5 := Lib.hid hz5
  clear hz5
  have HG0 := Lib.hid hg0
  clear hg0
  have HG1 := Lib.hid hg1
  clear hg1
  have HG2 := Lib.hid hg2
  clear hg2
  have HG3 := Lib.hid hg3
  clear hg3
  have HG4 := Lib.hid hg4
  clear hg4
  have HG5 := Lib.hid hg5
  clear hg5
  have HG := Lib.hid hg
  clear h hx hI hg
  rw [HRX.out]
  go_enter Tryd.func84, Tryd.ntmps84
  have HCd0 : Hid (CR cb g st w.drew) := HC0.out.drew
  have HXd0 : Hid (Blk w.drew xb 191 #[.int .i64 0, .int .i64 0, .int .i64 0, .string ⟨#[]⟩, .string ⟨#[]⟩, .int .i64 0]) := HX0.out
  have HId0 : Hid (Inv0 bx cb w.drew) := Lib.hid ((Inv0.keepsR g bx cb).below _ _ HI0.out (Below.drew (Below.refl _ _)))
  have HTd0 : Hid (Tw g xb w w.drew) := HT0.out.drew
  have hq0 := ints_rn (cb := cb) (g := g) (xb := xb) (w := w.drew) (T := 191) [0, 1, 2] HCd0.out HXd0.out hxc hxg (by simp) (by simp) (by omega)
  simp only [rIs, ← HZ0.out, ← HZ1.out, ← HZ2.out, List.setIfInBounds_toArray, List.set_cons_zero, List.set_cons_succ, List.map_cons, List.map_nil, List.length_cons, List.length_nil, Nat.zero_add, Nat.reduceAdd] at hq0
  have HQ0 := Lib.hid hq0
  clear hq0
  unfold GetPost at HQ0
  go_wp2_with fail
  go_region_held3 (fun w' => w'.cell? ⟨bx, 0, none⟩ = some (.pointer (some ⟨cb, 0, none⟩)))
    (first | exact HJ1.out.cell | exact HId0.out.cell | exact ((Inv0.keepsR g bx cb).below _ _ HId0.out ((Below.refl _ _).alloc (Nat.le_refl _) (.cells #[.pointer (some ⟨xb, 0, none⟩), .pointer (some ⟨xb, 1, none⟩), .pointer (some ⟨xb, 2, none⟩)] 105))).cell)
    (first
      | (go_at_call 51; refine Calls.mono HQ0.out ?_; rintro r w1 ⟨rfl, hc, hx, ht⟩; have HJ1 := Lib.hid ((Inv0.keepsR g bx cb).tw _ _ xb 191 _ _ HId0.out HCd0.out.rd HXd0.out (by decide) (by decide) ht)))
  have HC1 : Hid (CR cb g z2.2 w1) := hc
  have HX1 : Hid (Blk w1 xb 191 #[.int .i64 z0.1, .int .i64 z1.1, .int .i64 z2.1, .string ⟨#[]⟩, .string ⟨#[]⟩, .int .i64 0]) := hx
  have HT1 : Hid (Tw g xb w w1) := HTd0.out.trans ht
  have HI1 : Hid (Inv0 bx cb w1) := HJ1
  clear hc hx ht HQ0 HCd0 HXd0 HTd0 HId0 HJ1 hc0 HC0 HX0 HT0 HI0
  have HCd1 : Hid (CR cb g z2.2 w1.drew) := HC1.out.drew
  have HXd1 : Hid (Blk w1.drew xb 191 #[.int .i64 z0.1, .int .i64 z1.1, .int .i64 z2.1, .string ⟨#[]⟩, .string ⟨#[]⟩, .int .i64 0]) := HX1.out
  have HId1 : Hid (Inv0 bx cb w1.drew) := Lib.hid ((Inv0.keepsR g bx cb).below _ _ HI1.out (Below.drew (Below.refl _ _)))
  have HTd1 : Hid (Tw g xb w w1.drew) := HT1.out.drew
  have hq1 := texts_rn (cb := cb) (g := g) (xb := xb) (w := w1.drew) (T := 191) [3, 4] HCd1.out HXd1.out hxc hxg (by simp) (by simp) (by omega)
  simp only [rTs, ← HZ3.out, ← HZ4.out, List.setIfInBounds_toArray, List.set_cons_zero, List.set_cons_succ, List.map_cons, List.map_nil, List.length_cons, List.length_nil, Nat.zero_add, Nat.reduceAdd] at hq1
  have HQ1 := Lib.hid hq1
  clear hq1
  unfold GetPost at HQ1
  have hc1 := HI1.out.cell
  go_wp2_with fail
  go_region_held3 (fun w' => w'.cell? ⟨bx, 0, none⟩ = some (.pointer (some ⟨cb, 0, none⟩)))
    (first | exact HJ2.out.cell | exact HId1.out.cell | exact ((Inv0.keepsR g bx cb).below _ _ HId1.out ((Below.refl _ _).alloc (Nat.le_refl _) (.cells #[.pointer (some ⟨xb, 3, none⟩), .pointer (some ⟨xb, 4, none⟩)] 108))).cell)
    (first
      | (go_at_call 53; refine Calls.mono HQ1.out ?_; rintro r w2 ⟨rfl, hc, hx, ht⟩; have HJ2 := Lib.hid ((Inv0.keepsR g bx cb).tw _ _ xb 191 _ _ HId1.out HCd1.out.rd HXd1.out (by decide) (by decide) ht)))
  have HC2 : Hid (CR cb g z4.2 w2) := hc
  have HX2 : Hid (Blk w2 xb 191 #[.int .i64 z0.1, .int .i64 z1.1, .int .i64 z2.1, .string ⟨z3.1.toArray⟩, .string ⟨z4.1.toArray⟩, .int .i64 0]) := hx
  have HT2 : Hid (Tw g xb w w2) := HTd1.out.trans ht
  have HI2 : Hid (Inv0 bx cb w2) := HJ2
  clear hc hx ht HQ1 HCd1 HXd1 HTd1 HId1 HJ2 hc1 HC1 HX1 HT1 HI1
  have HCd2 : Hid (CR cb g z4.2 w2.drew) := HC2.out.drew
  have HXd2 : Hid (Blk w2.drew xb 191 #[.int .i64 z0.1, .int .i64 z1.1, .int .i64 z2.1, .string ⟨z3.1.toArray⟩, .string ⟨z4.1.toArray⟩, .int .i64 0]) := HX2.out
  have HId2 : Hid (Inv0 bx cb w2.drew) := Lib.hid ((Inv0.keepsR g bx cb).below _ _ HI2.out (Below.drew (Below.refl _ _)))
  have HTd2 : Hid (Tw g xb w w2.drew) := HT2.out.drew
  have hq2 := ints_rn (cb := cb) (g := g) (xb := xb) (w := w2.drew) (T := 191) [5] HCd2.out HXd2.out hxc hxg (by simp) (by simp) (by omega)
  simp only [rIs, ← HZ5.out, List.setIfInBounds_toArray, List.set_cons_zero, List.set_cons_succ, List.map_cons, List.map_nil, List.length_cons, List.length_nil, Nat.zero_add, Nat.reduceAdd] at hq2
  have HQ2 := Lib.hid hq2
  clear hq2
  unfold GetPost at HQ2
  have hc2 := HI2.out.cell
  go_wp2_with fail
  go_region_held3 (fun w' => w'.cell? ⟨bx, 0, none⟩ = some (.pointer (some ⟨cb, 0, none⟩)))
    (first | exact HJ3.out.cell | exact HId2.out.cell | exact ((Inv0.keepsR g bx cb).below _ _ HId2.out ((Below.refl _ _).alloc (Nat.le_refl _) (.cells #[.pointer (some ⟨xb, 5, none⟩)] 105))).cell)
    (first
      | (go_at_call 51; refine Calls.mono HQ2.out ?_; rintro r w3 ⟨rfl, hc, hx, ht⟩; have HJ3 := Lib.hid ((Inv0.keepsR g bx cb).tw _ _ xb 191 _ _ HId2.out HCd2.out.rd HXd2.out (by decide) (by decide) ht)))
  have HC3 : Hid (CR cb g z5.2 w3) := hc
  have HX3 : Hid (Blk w3 xb 191 #[.int .i64 z0.1, .int .i64 z1.1, .int .i64 z2.1, .string ⟨z3.1.toArray⟩, .string ⟨z4.1.toArray⟩, .int .i64 z5.1]) := hx
  have HT3 : Hid (Tw g xb w w3) := HTd2.out.trans ht
  have HI3 : Hid (Inv0 bx cb w3) := HJ3
  clear hc hx ht HQ2 HCd2 HXd2 HTd2 HId2 HJ3 hc2 HC2 HX2 HT2 HI2
  go_wp2
  go_end0
  exact ⟨rfl, ⟨z0.1, z1.1, z2.1, z3.1, z4.1, z5.1⟩, rfl, HC3.out, HX3.out, HT3.out⟩

set_option maxHeartbeats 8000000 in
set_option maxRecDepth 100000 in
theorem cloVarI_r {cb g bx : Nat} {w : World} {st : St} (xb : Nat) (hI : Inv0 bx cb w) (h : CR cb g st w) (hg : st.Good) (hl : st.rest.length ≤ 1048576) (hx : Blk w xb 197 #[.int .i64 0, .int .i64 0, .int .i64 0, .string ⟨#[]⟩, .int .i64 0, .int .i64 0]) (hxc : xb ≠ cb) (hxg : xb ≠ g) :
    Calls Tryd.prog 86 #[.pointer (some ⟨xb, 0, none⟩), .pointer (some ⟨bx, 0, none⟩)] w (fun e w2 => e = .returned (.tuple #[]) ∧ ∃ y : VarID, y.pl = (rVarI st).1 ∧ CR cb g (rVarI st).2 w2 ∧ Blk w2 xb 197 y.parts.toArray ∧ Tw g xb w w2) := by
  have HC0 := Lib.hid h
  have HX0 := Lib.hid hx
  have HI0 := Lib.hid hI
  have HT0 := Lib.hid (Tw.refl g xb w)
  have hc0 := hI.cell
  obtain ⟨z0, hz0⟩ : ∃ z, z = rInt st := ⟨_, rfl⟩
  have hl0 := rInt_rest_le st
  rw [← hz0] at hl0
  have hg0 := rInt_good st hg
  rw [← hz0] at hg0
  obtain ⟨z1, hz1⟩ : ∃ z, z = rInt z0.2 := ⟨_, rfl⟩
  have hl1 := rInt_rest_le z0.2
  rw [← hz1] at hl1
  have hg1 := rInt_good z0.2 hg0
  rw [← hz1] at hg1
  obtain ⟨z2, hz2⟩ : ∃ z, z = rInt z1.2 := ⟨_, rfl⟩
  have hl2 := rInt_rest_le z1.2
  rw [← hz2] at hl2
  have hg2 := rInt_good z1.2 hg1
  rw [← hz2] at hg2
  obtain ⟨z3, hz3⟩ : ∃ z, z = rText z2.2 := ⟨_, rfl⟩
  have hl3 := rText_rest_le z2.2
  rw [← hz3] at hl3
  have hg3 := rText_good z2.2 hg2
  rw [← hz3] at hg3
  obtain ⟨z4, hz4⟩ : ∃ z, z = rInt z3.2 := ⟨_, rfl⟩
  have hl4 := rInt_rest_le z3.2
  rw [← hz4] at hl4
  have hg4 := rInt_good z3.2 hg3
  rw [← hz4] at hg4
  obtain ⟨z5, hz5⟩ : ∃ z, z = rInt z4.2 := ⟨_, rfl⟩
  have hl5 := rInt_rest_le z4.2
  rw [← hz5] at hl5
  have hg5 := rInt_good z4.2 hg4
  rw [← hz5] at hg5
  have HRX : Hid (rVarI st = (⟨z0.1, z1.1, z2.1, z3.1, z4.1, z5.1⟩, z5.2)) := Lib.hid (by simp only [rVarI, bR, ← hz0, ← hz1, ← hz2, ← hz3, ← hz4, ← hz5])
  have HZ0 := Lib.hid hz0
  clear hz0
  have HZ1 := Lib.hid hz1
  clear hz1
  have HZ2 := Lib.hid hz2
  clear hz2
  have HZ3 := Lib.hid hz3
  clear hz3
  have HZ4 := Lib.hid hz4
  clear hz4
  have HZ5 := Lib.hid hz5
  clear hz5
  have HG0 := Lib.hid hg0
  clear hg0
  have HG1 := Lib.hid hg1
  clear hg1
  have HG2 := Lib.hid hg2
  clear hg2
  have HG3 := Lib.hid hg3
  clear hg3
  have HG4 := Lib.hid hg4
  clear hg4
  have HG5 := Lib.hid hg5
  clear hg5
  have HG := Lib.hid hg
  clear h hx hI hg
  rw [HRX.out]
  go_enter Tryd.func86, Tryd.ntmps86
  have HCd0 : Hid (CR cb g st w.drew) := HC0.out.drew
  have HXd0 : Hid (Blk w.drew xb 197 #[.int .i64 0, .int .i64 0, .int .i64 0, .string ⟨#[]⟩, .int .i64 0, .int .i64 0]) := HX0.out
  have HId0 : Hid (Inv0 bx cb w.drew) := Lib.hid ((Inv0.keepsR g bx cb).below _ _ HI0.out (Below.drew (Below.refl _ _)))
  have HTd0 : Hid (Tw g xb w w.drew) := HT0.out.drew
  have hq0 := ints_rn (cb := cb) (g := g) (xb := xb) (w := w.drew) (T := 197) [0, 1, 2] HCd0.out HXd0.out hxc hxg (by simp) (by simp) (by omega)
  simp only [rIs, ← HZ0.out, ← HZ1.out, ← HZ2.out, List.setIfInBounds_toArray, List.set_cons_zero, List.set_cons_succ, List.map_cons, List.map_nil, List.length_cons, List.length_nil, Nat.zero_add, Nat.reduceAdd] at hq0
  have HQ0 := Lib.hid hq0
  clear hq0
  unfold GetPost at HQ0
  go_wp2_with fail
  go_region_held3 (fun w' => w'.cell? ⟨bx, 0, none⟩ = some (.pointer (some ⟨cb, 0, none⟩)))
    (first | exact HJ1.out.cell | exact HId0.out.cell | exact ((Inv0.keepsR g bx cb).below _ _ HId0.out ((Below.refl _ _).alloc (Nat.le_refl _) (.cells #[.pointer (some ⟨xb, 0, none⟩), .pointer (some ⟨xb, 1, none⟩), .pointer (some ⟨xb, 2, none⟩)] 105))).cell)
    (first
      | (go_at_call 51; refine Calls.mono HQ0.out ?_; rintro r w1 ⟨rfl, hc, hx, ht⟩; have HJ1 := Lib.hid ((Inv0.keepsR g bx cb).tw _ _ xb 197 _ _ HId0.out HCd0.out.rd HXd0.out (by decide) (by decide) ht)))
  have HC1 : Hid (CR cb g z2.2 w1) := hc
  have HX1 : Hid (Blk w1 xb 197 #[.int .i64 z0.1, .int .i64 z1.1, .int .i64 z2.1, .string ⟨#[]⟩, .int .i64 0, .int .i64 0]) := hx
  have HT1 : Hid (Tw g xb w w1) := HTd0.out.trans ht
  have HI1 : Hid (Inv0 bx cb w1) := HJ1
  clear hc hx ht HQ0 HCd0 HXd0 HTd0 HId0 HJ1 hc0 HC0 HX0 HT0 HI0
  have HCd1 : Hid (CR cb g z2.2 w1.drew) := HC1.out.drew
  have HXd1 : Hid (Blk w1.drew xb 197 #[.int .i64 z0.1, .int .i64 z1.1, .int .i64 z2.1, .string ⟨#[]⟩, .int .i64 0, .int .i64 0]) := HX1.out
  have HId1 : Hid (Inv0 bx cb w1.drew) := Lib.hid ((Inv0.keepsR g bx cb).below _ _ HI1.out (Below.drew (Below.refl _ _)))
  have HTd1 : Hid (Tw g xb w w1.drew) := HT1.out.drew
  have hq1 := texts_rn (cb := cb) (g := g) (xb := xb) (w := w1.drew) (T := 197) [3] HCd1.out HXd1.out hxc hxg (by simp) (by simp) (by omega)
  simp only [rTs, ← HZ3.out, List.setIfInBounds_toArray, List.set_cons_zero, List.set_cons_succ, List.map_cons, List.map_nil, List.length_cons, List.length_nil, Nat.zero_add, Nat.reduceAdd] at hq1
  have HQ1 := Lib.hid hq1
  clear hq1
  unfold GetPost at HQ1
  have hc1 := HI1.out.cell
  go_wp2_with fail
  go_region_held3 (fun w' => w'.cell? ⟨bx, 0, none⟩ = some (.pointer (some ⟨cb, 0, none⟩)))
    (first | exact HJ2.out.cell | exact HId1.out.cell | exact ((Inv0.keepsR g bx cb).below _ _ HId1.out ((Below.refl _ _).alloc (Nat.le_refl _) (.cells #[.pointer (some ⟨xb, 3, none⟩)] 108))).cell)
    (first
      | (go_at_call 53; refine Calls.mono HQ1.out ?_; rintro r w2 ⟨rfl, hc, hx, ht⟩; have HJ2 := Lib.hid ((Inv0.keepsR g bx cb).tw _ _ xb 197 _ _ HId1.out HCd1.out.rd HXd1.out (by decide) (by decide) ht)))
  have HC2 : Hid (CR cb g z3.2 w2) := hc
  have HX2 : Hid (Blk w2 xb 197 #[.int .i64 z0.1, .int .i64 z1.1, .int .i64 z2.1, .string ⟨z3.1.toArray⟩, .int .i64 0, .int .i64 0]) := hx
  have HT2 : Hid (Tw g xb w w2) := HTd1.out.trans ht
  have HI2 : Hid (Inv0 bx cb w2) := HJ2
  clear hc hx ht HQ1 HCd1 HXd1 HTd1 HId1 HJ2 hc1 HC1 HX1 HT1 HI1
  have HCd2 : Hid (CR cb g z3.2 w2.drew) := HC2.out.drew
  have HXd2 : Hid (Blk w2.drew xb 197 #[.int .i64 z0.1, .int .i64 z1.1, .int .i64 z2.1, .string ⟨z3.1.toArray⟩, .int .i64 0, .int .i64 0]) := HX2.out
  have HId2 : Hid (Inv0 bx cb w2.drew) := Lib.hid ((Inv0.keepsR g bx cb).below _ _ HI2.out (Below.drew (Below.refl _ _)))
  have HTd2 : Hid (Tw g xb w w2.drew) := HT2.out.drew
  have hq2 := ints_rn (cb := cb) (g := g) (xb := xb) (w := w2.drew) (T := 197) [4, 5] HCd2.out HXd2.out hxc hxg (by simp) (by simp) (by omega)
  simp only [rIs, ← HZ4.out, ← HZ5.out, List.setIfInBounds_toArray, List.set_cons_zero, List.set_cons_succ, List.map_cons, List.map_nil, List.length_cons, List.length_nil, Nat.zero_add, Nat.reduceAdd] at hq2
  have HQ2 := Lib.hid hq2
  clear hq2
  unfold GetPost at HQ2
  have hc2 := HI2.out.cell
  go_wp2_with fail
  go_region_held3 (fun w' => w'.cell? ⟨bx, 0, none⟩ = some (.pointer (some ⟨cb, 0, none⟩)))
    (first | exact HJ3.out.cell | exact HId2.out.cell | exact ((Inv0.keepsR g bx cb).below _ _ HId2.out ((Below.refl _ _).alloc (Nat.le_refl _) (.cells #[.pointer (some ⟨xb, 4, none⟩), .pointer (some ⟨xb, 5, none⟩)] 105))).cell)
    (first
      | (go_at_call 51; refine Calls.mono HQ2.out ?_; rintro r w3 ⟨rfl, hc, hx, ht⟩; have HJ3 := Lib.hid ((Inv0.keepsR g bx cb).tw _ _ xb 197 _ _ HId2.out HCd2.out.rd HXd2.out (by decide) (by decide) ht)))
  have HC3 : Hid (CR cb g z5.2 w3) := hc
  have HX3 : Hid (Blk w3 xb 197 #[.int .i64 z0.1, .int .i64 z1.1, .int .i64 z2.1, .string ⟨z3.1.toArray⟩, .int .i64 z4.1, .int .i64 z5.1]) := hx
  have HT3 : Hid (Tw g xb w w3) := HTd2.out.trans ht
  have HI3 : Hid (Inv0 bx cb w3) := HJ3
  clear hc hx ht HQ2 HCd2 HXd2 HTd2 HId2 HJ3 hc2 HC2 HX2 HT2 HI2
  go_wp2
  go_end0
  exact ⟨rfl, ⟨z0.1, z1.1, z2.1, z3.1, z4.1, z5.1⟩, rfl, HC3.out, HX3.out, HT3.out⟩

set_option maxHeartbeats 8000000 in
set_option maxRecDepth 100000 in
theorem cloDepth_r {cb g bx : Nat} {w : World} {st : St} (xb : Nat) (hI : Inv0 bx cb w) (h : CR cb g st w) (hg : st.Good) (hl : st.rest.length ≤ 1048576) (hx : Blk w xb 203 #[.int .i64 0, .int .i64 0, .int .i64 0, .int .i64 0]) (hxc : xb ≠ cb) (hxg : xb ≠ g) :
    Calls Tryd.prog 88 #[.pointer (some ⟨xb, 0, none⟩), .pointer (some ⟨bx, 0, none⟩)] w (fun e w2 => e = .returned (.tuple #[]) ∧ ∃ y : DepthD, y.pl = (rDepth st).1 ∧ CR cb g (rDepth st).2 w2 ∧ Blk w2 xb 203 y.parts.toArray ∧ Tw g xb w w2) := by
  have HC0 := Lib.hid h
  have HX0 := Lib.hid hx
  have HI0 := Lib.hid hI
  have HT0 := Lib.hid (Tw.refl g xb w)
  have hc0 := hI.cell
  obtain ⟨z0, hz0⟩ : ∃ z, z = rInt st := ⟨_, rfl⟩
  have hl0 := rInt_rest_le st
  rw [← hz0] at hl0
  have hg0 := rInt_good st hg
  rw [← hz0] at hg0
  obtain ⟨z1, hz1⟩ : ∃ z, z = rInt z0.2 := ⟨_, rfl⟩
  have hl1 := rInt_rest_le z0.2
  rw [← hz1] at hl1
  have hg1 := rInt_good z0.2 hg0
  rw [← hz1] at hg1
  obtain ⟨z2, hz2⟩ : ∃ z, z = rInt z1.2 := ⟨_, rfl⟩
  have hl2 := rInt_rest_le z1.2
  rw [← hz2] at hl2
  have hg2 := rInt_good z1.2 hg1
  rw [← hz2] at hg2
  obtain ⟨z3, hz3⟩ : ∃ z, z = rInt z2.2 := ⟨_, rfl⟩
  have hl3 := rInt_rest_le z2.2
  rw [← hz3] at hl3
  have hg3 := rInt_good z2.2 hg2
  rw [← hz3] at hg3
  have HRX : Hid (rDepth st = (⟨z0.1, z1.1, z2.1, z3.1⟩, z3.2)) := Lib.hid (by simp only [rDepth, bR, ← hz0, ← hz1, ← hz2, ← hz3])
  have HZ0 := Lib.hid hz0
  clear hz0
  have HZ1 := Lib.hid hz1
  clear hz1
  have HZ2 := Lib.hid hz2
  clear hz2
  have HZ3 := Lib.hid hz3
  clear hz3
  have HG0 := Lib.hid hg0
  clear hg0
  have HG1 := Lib.hid hg1
  clear hg1
  have HG2 := Lib.hid hg2
  clear hg2
  have HG3 := Lib.hid hg3
  clear hg3
  have HG := Lib.hid hg
  clear h hx hI hg
  rw [HRX.out]
  go_enter Tryd.func88, Tryd.ntmps88
  have HCd0 : Hid (CR cb g st w.drew) := HC0.out.drew
  have HXd0 : Hid (Blk w.drew xb 203 #[.int .i64 0, .int .i64 0, .int .i64 0, .int .i64 0]) := HX0.out
  have HId0 : Hid (Inv0 bx cb w.drew) := Lib.hid ((Inv0.keepsR g bx cb).below _ _ HI0.out (Below.drew (Below.refl _ _)))
  have HTd0 : Hid (Tw g xb w w.drew) := HT0.out.drew
  have hq0 := ints_rn (cb := cb) (g := g) (xb := xb) (w := w.drew) (T := 203) [0, 1, 2, 3] HCd0.out HXd0.out hxc hxg (by simp) (by simp) (by omega)
  simp only [rIs, ← HZ0.out, ← HZ1.out, ← HZ2.out, ← HZ3.out, List.setIfInBounds_toArray, List.set_cons_zero, List.set_cons_succ, List.map_cons, List.map_nil, List.length_cons, List.length_nil, Nat.zero_add, Nat.reduceAdd] at hq0
  have HQ0 := Lib.hid hq0
  clear hq0
  unfold GetPost at HQ0
  go_wp2_with fail
  go_region_held3 (fun w' => w'.cell? ⟨bx, 0, none⟩ = some (.pointer (some ⟨cb, 0, none⟩)))
    (first | exact HJ1.out.cell | exact HId0.out.cell | exact ((Inv0.keepsR g bx cb).below _ _ HId0.out ((Below.refl _ _).alloc (Nat.le_refl _) (.cells #[.pointer (some ⟨xb, 0, none⟩), .pointer (some ⟨xb, 1, none⟩), .pointer (some ⟨xb, 2, none⟩), .pointer (some ⟨xb, 3, none⟩)] 105))).cell)
    (first
      | (go_at_call 51; refine Calls.mono HQ0.out ?_; rintro r w1 ⟨rfl, hc, hx, ht⟩; have HJ1 := Lib.hid ((Inv0.keepsR g bx cb).tw _ _ xb 203 _ _ HId0.out HCd0.out.rd HXd0.out (by decide) (by decide) ht)))
  have HC1 : Hid (CR cb g z3.2 w1) := hc
  have HX1 : Hid (Blk w1 xb 203 #[.int .i64 z0.1, .int .i64 z1.1, .int .i64 z2.1, .int .i64 z3.1]) := hx
  have HT1 : Hid (Tw g xb w w1) := HTd0.out.trans ht
  have HI1 : Hid (Inv0 bx cb w1) := HJ1
  clear hc hx ht HQ0 HCd0 HXd0 HTd0 HId0 HJ1 hc0 HC0 HX0 HT0 HI0
  go_wp2
  go_end0
  exact ⟨rfl, ⟨z0.1, z1.1, z2.1, z3.1⟩, rfl, HC1.out, HX1.out, HT1.out⟩

end Go.Proofs.YtefgajipakjpeaaDoor
