/-
  The small examples at the head of every statement have the documented results: 'small' returns true, and no memory that was there turns.
-/
import Derived.Test.YtcamfdmmcbimfaaLists
import Derived.Test.YtcamfdmmcbimfaaRead2
namespace Go.Proofs.Ytcamfdmmcbimfaa
open Go.RowKit

theorem uv0 : Lib.uvarint 0 = [0] := by rw [Lib.uvarint_small (by decide)]; rfl
theorem uv1 : Lib.uvarint 1 = [1] := by rw [Lib.uvarint_small (by decide)]; rfl
theorem uv2 : Lib.uvarint 2 = [2] := by rw [Lib.uvarint_small (by decide)]; rfl
theorem uv3 : Lib.uvarint 3 = [3] := by rw [Lib.uvarint_small (by decide)]; rfl
theorem uv127 : Lib.uvarint 127 = [127] := by rw [Lib.uvarint_small (by decide)]; rfl
theorem uv128 : Lib.uvarint 128 = [128, 1] := by rw [Lib.uvarint_big (by decide), Lib.uvarint_small (by decide)]; rfl
theorem uv300 : Lib.uvarint 300 = [172, 2] := by rw [Lib.uvarint_big (by decide), Lib.uvarint_small (by decide)]; rfl

def NumIs (f : FuncId) (n : Int) (a : Array UInt8) : Prop := ∀ w, Calls Try.prog f #[.int .i64 n] w fun e w' => e = .returned (.string ⟨a⟩) ∧ Below w.heap.size w w'
theorem num0 : NumIs 11 0 #[0] := by
  intro w
  have h := Num_any 0 ⟨by decide, by decide⟩ w
  rw [show wNum 0 = [0] from uv0] at h
  exact h
theorem num127 : NumIs 11 127 #[127] := by
  intro w
  have h := Num_any 127 ⟨by decide, by decide⟩ w
  rw [show wNum 127 = [127] from uv127] at h
  exact h
theorem num128 : NumIs 11 128 #[128, 1] := by
  intro w
  have h := Num_any 128 ⟨by decide, by decide⟩ w
  rw [show wNum 128 = [128, 1] from uv128] at h
  exact h
theorem num300 : NumIs 11 300 #[172, 2] := by
  intro w
  have h := Num_any 300 ⟨by decide, by decide⟩ w
  rw [show wNum 300 = [172, 2] from uv300] at h
  exact h
theorem int_1 : NumIs 13 (-1) #[1] := by
  intro w
  have h := Int_any (-1) ⟨by decide, by decide⟩ w
  rw [show wInt (-1) = [1] from uv1] at h
  exact h
theorem int1 : NumIs 13 1 #[2] := by
  intro w
  have h := Int_any 1 ⟨by decide, by decide⟩ w
  rw [show wInt 1 = [2] from uv2] at h
  exact h
theorem int_64 : NumIs 13 (-64) #[127] := by
  intro w
  have h := Int_any (-64) ⟨by decide, by decide⟩ w
  rw [show wInt (-64) = [127] from uv127] at h
  exact h
theorem int64 : NumIs 13 64 #[128, 1] := by
  intro w
  have h := Int_any 64 ⟨by decide, by decide⟩ w
  rw [show wInt 64 = [128, 1] from uv128] at h
  exact h
theorem text_ab (w : World) : Calls Try.prog 15 #[.string ⟨#[97, 0, 98]⟩] w fun e w' => e = .returned (.string ⟨#[3, 97, 0, 98]⟩) ∧ Below w.heap.size w w' := by
  have h := Text_any [97, 0, 98] (by decide) w
  rw [show wText [97, 0, 98] = [3, 97, 0, 98] from by unfold wText; rw [show ([97, 0, 98] : List UInt8).length = 3 from rfl, uv3]; rfl] at h
  exact h
theorem texts_nil (w : World) : Calls Try.prog 19 #[.slice none 0 0] w fun e w' => e = .returned (.string ⟨#[0]⟩) ∧ Below w.heap.size w w' := by
  have h := Texts_any none 0 w.heap.size [] w Reads.none_ (Nat.le_refl _) (by simp) (by simp)
  rw [show wTexts [] = [0] from by unfold wTexts wList; rw [show ([] : List (List UInt8)).length = 0 from rfl, uv0]; rfl] at h
  exact h
theorem nums_two (w : World) (b : Nat) (hb : Blk w b 3 #[.int .i64 1, .int .i64 (-1)]) : Calls Try.prog 17 #[.slice (some ⟨b, 0, none⟩) 2 2] w fun e w' => e = .returned (.string ⟨#[2, 2, 1]⟩) ∧ Below w.heap.size w w' := by
  have hr : Reads w w.heap.size 1 (some ⟨b, 0, none⟩) 2 (intCells [1, -1]) := by
    refine ⟨rfl, fun _ => ⟨_, rfl, hb.lt, fun j u hu => ?_⟩⟩
    have e : (⟨b, 0, none⟩ : Addr).add j = ⟨b, j, none⟩ := by unfold Addr.add; split <;> simp_all
    rw [e, hb.cell, ← hu]
    simp [intCells]
  have h := Nums_any (some ⟨b, 0, none⟩) 2 w.heap.size [1, -1] w hr (Nat.le_refl _) (by intro z hz; simp at hz; rcases hz with rfl | rfl <;> exact ⟨by decide, by decide⟩) (by decide)
  rw [show wNums [1, -1] = [2, 2, 1] from by unfold wNums wList; rw [show ([1, -1] : List Int).length = 2 from rfl, uv2]; simp only [List.flatMap_cons, List.flatMap_nil]; rw [show wInt 1 = [2] from uv2, show wInt (-1) = [1] from uv1]; rfl] at h
  exact h

theorem dec_80_00 : dec [128, 0] = none := by decide

set_option maxHeartbeats 4000000 in
set_option maxRecDepth 100000 in
theorem small_any (w : World) : Calls Try.prog 9 #[] w fun e w' => e = .returned (.bool true) ∧ Below w.heap.size w w' := by
  go_enter Try.func9, Try.ntmps9
  go_wp2_with fail
  refine (num0 _).mono ?_
  rintro e w1 ⟨rfl, hb1⟩
  go_wp2_with fail
  refine (num127 _).mono ?_
  rintro e w2 ⟨rfl, hb2⟩
  go_wp2_with fail
  refine (num128 _).mono ?_
  rintro e w3 ⟨rfl, hb3⟩
  go_wp2_with fail
  refine (num300 _).mono ?_
  rintro e w4 ⟨rfl, hb4⟩
  have B1 := hb1.trans (hb2.mono hb1.size)
  have B2 := B1.trans (hb3.mono B1.size)
  have B3 := B2.trans (hb4.mono B2.size)
  clear B1 B2 hb1 hb2 hb3 hb4
  go_wp2_with fail
  refine (int_1 _).mono ?_
  rintro e w1 ⟨rfl, hb1⟩
  go_wp2_with fail
  refine (int1 _).mono ?_
  rintro e w2 ⟨rfl, hb2⟩
  go_wp2_with fail
  refine (int_64 _).mono ?_
  rintro e w3 ⟨rfl, hb3⟩
  go_wp2_with fail
  refine (int64 _).mono ?_
  rintro e w4 ⟨rfl, hb4⟩
  have B4 := B3.trans (hb1.mono B3.size)
  have B5 := B4.trans (hb2.mono B4.size)
  have B6 := B5.trans (hb3.mono B5.size)
  have B7 := B6.trans (hb4.mono B6.size)
  clear B3 B4 B5 B6 hb1 hb2 hb3 hb4
  go_wp2_with fail
  refine (text_ab _).mono ?_
  rintro e w1 ⟨rfl, hb1⟩
  have B8 := B7.trans (hb1.mono B7.size)
  clear B7 hb1
  go_wp2_with fail
  refine (nums_two _ _ (Blk.new _ _ _)).mono ?_
  rintro e w2 ⟨rfl, hb2⟩
  have B9 := (B8.alloc B8.size _).trans (hb2.mono (Nat.le_trans B8.size (by simp)))
  clear B8 hb2
  go_wp2_with fail
  refine (texts_nil _).mono ?_
  rintro e w3 ⟨rfl, hb3⟩
  have B10 := B9.trans (hb3.mono B9.size)
  clear B9 hb3
  go_wp2_with fail
  refine (Open_any [128, 0] _).mono ?_
  rintro e w4 ⟨rfl, hrd, hb4⟩
  have B11 := B10.trans (hb4.mono B10.size)
  have hN := rNum_any _ _ _ hrd (by decide)
  have e1 : rNum ⟨[128, 0], false⟩ = (0, ⟨[], true⟩) := by
    unfold rNum
    rw [rU_none dec_80_00]
    rfl
  rw [e1] at hN
  have HN := Lib.hid hN
  have hsz := B10.size
  clear hN hrd B10 hb4 e1
  go_wp2_with fail
  refine (HN.out).mono ?_
  rintro e w5 ⟨rfl, hto⟩
  have HL := Lib.hid (Left_any _ _ _ hto.rd)
  have HD := Lib.hid (Done_any _ _ _ hto.rd)
  go_wp2_with fail
  refine (HL.out).mono ?_
  rintro e w' ⟨rfl, rfl⟩
  go_wp2_with fail
  refine (HD.out).mono ?_
  rintro e w' ⟨rfl, rfl⟩
  go_wp2
  go_ret
  exact ⟨rfl, B11.grown hto.only B11.size (fun k hk => by cases hk; exact hsz)⟩

end Go.Proofs.Ytcamfdmmcbimfaa
