/-
  The contracts that small calls, at its two images and their patches.
-/
import Derived.Test.YtefgajipakjpeaaDoorSmallP
namespace Go.Proofs.YtefgajipakjpeaaDoor
open Go.RowKit

theorem lenA : (wImage imgA).length ≤ 70368744177664 := by have := wImageA.2; omega
theorem lenB : (wImage imgB).length ≤ 70368744177664 := by have := wImageB_len; omega
theorem editsP_ok : (∀ e ∈ flushL [] (wImage imgB), e.Ok) ∧ (flushL [] (wImage imgB)).length ≤ 1000000 := by
  have h := wImageB_len
  generalize wImage imgB = n at h
  unfold flushL
  split
  · exact ⟨fun e he => (by cases he), by decide⟩
  · refine ⟨fun e he => ?_, by simp⟩
    simp only [List.nil_append, List.mem_singleton] at he
    subst he
    exact ⟨I64.zero, I64.zero, by unfold maxLen; show n.length ≤ _; omega⟩
theorem editsN_ok : (∀ e ∈ flushL [] (wImage imgA), e.Ok) ∧ (flushL [] (wImage imgA)).length ≤ 1000000 := by
  have h := wImageA.2
  generalize wImage imgA = n at h
  unfold flushL
  split
  · exact ⟨fun e he => (by cases he), by decide⟩
  · refine ⟨fun e he => ?_, by simp⟩
    simp only [List.nil_append, List.mem_singleton] at he
    subst he
    exact ⟨I64.zero, I64.zero, by unfold maxLen; show n.length ≤ _; omega⟩

theorem Diff_AB (PA PB : List Value) (hA : PA = imgA.parts) (hB : PB = imgB.parts) (w : World) (ht : Tabs w) : Calls Tryd.prog 13 #[.agg PA.toArray, .agg PB.toArray] w (PatchPost (smallP, 0) w) := by
  have h := Diff_any imgA imgB PA PB (flushL [] (wImage imgB)) hA hB w.heap.size w (imgS_in 97 _ _) (imgS_ok 97) (imgS_in 98 _ _) (imgS_ok 98) (Nat.le_refl _) ht lenA lenB (fun w' => edits_short (wImage imgA) (wImage imgB) w' wImageA.2 wImageB_len) editsP_ok.1 editsP_ok.2
  have e : fitR ⟨sumImg imgA, sumImg imgB, flushL [] (wImage imgB)⟩ = (smallP, 0) := by
    rw [← smallP_fit]
    unfold smallP
    rfl
  rw [e] at h
  exact h
theorem Diff_AA (PA : List Value) (hA : PA = imgA.parts) (w : World) (ht : Tabs w) : Calls Tryd.prog 13 #[.agg PA.toArray, .agg PA.toArray] w (PatchPost (smallN, 0) w) := by
  have h := Diff_any imgA imgA PA PA (flushL [] (wImage imgA)) hA hA w.heap.size w (imgS_in 97 _ _) (imgS_ok 97) (imgS_in 97 _ _) (imgS_ok 97) (Nat.le_refl _) ht lenA lenA (fun w' => edits_short (wImage imgA) (wImage imgA) w' wImageA.2 wImageA.2) editsN_ok.1 editsN_ok.2
  have e : fitR ⟨sumImg imgA, sumImg imgA, flushL [] (wImage imgA)⟩ = (smallN, 0) := by
    rw [← smallN_fit]
    unfold smallN
    rfl
  rw [e] at h
  exact h

theorem Apply_A (PA : List Value) (hA : PA = imgA.parts) (p : PatchD) (hpd : p.pd = smallP) (B : Nat) (w : World) (hp : p.Ok w B) (hB : B ≤ w.heap.size) (ht : Tabs w) :
    Calls Tryd.prog 15 #[.agg PA.toArray, .agg p.parts.toArray] w (fun r w' => ∃ y : ImageD, r = .returned (.tuple #[.agg y.parts.toArray, .int .i64 0]) ∧ y.pl = imgB.pl ∧ y.Rows w' ∧ y.Ok ∧ Below w.heap.size w w') := by
  have e1 : p.edits = smallP.edits := congrArg PD.edits hpd
  have e2 : p.from_ = smallP.from_ := congrArg PD.from_ hpd
  have e3 : p.to_ = smallP.to_ := congrArg PD.to_ hpd
  have hr : rightPB p = true := by rw [rightPB_pd, hpd]; exact smallP_right
  have hne : p.edits ≠ [] := by
    rw [e1]
    intro h
    have h2 : smallP.edits.length = 1 := by decide +kernel
    rw [h] at h2
    cases h2
  have h0 : smallP.from_ = sumImg imgA := by kernel_rfl
  have h1 : smallP.to_ = sumImg imgB := by kernel_rfl
  have hin : insideL (wImage imgA) p.edits := by
    rw [e1]
    intro e he hc
    have h2 : smallP.edits.all (fun e => !(copiedB e)) = true := by decide +kernel
    have h3 := List.all_eq_true.mp h2 e he
    rw [hc] at h3
    cases h3
  have h20 : (resL (wImage imgA) p.edits).length ≤ 1048576 := by rw [e1, small_res]; have := wImageB_len; omega
  have hro : readOk (resL (wImage imgA) p.edits) = true := by rw [e1]; exact small_read
  have hto : sumI (resL (wImage imgA) p.edits) = p.to_ := by rw [e1, small_res, e3, h1]; unfold sumImg; rfl
  have h := Apply_ok imgA PA p hA B w (imgS_in 97 _ _) (imgS_ok 97) hB hp ht lenA hr hne (by rw [e2, h0]) hin h20 hro hto
  rw [e1, small_res, small_pl] at h
  exact h
theorem Apply_B (PB : List Value) (hPB : PB = imgB.parts) (p : PatchD) (hpd : p.pd = smallP) (B : Nat) (w : World) (hp : p.Ok w B) (hB : B ≤ w.heap.size) (ht : Tabs w) :
    Calls Tryd.prog 15 #[.agg PB.toArray, .agg p.parts.toArray] w (fun r w' => r = .returned (.tuple #[.agg ImageD.nil.parts.toArray, .int .i64 1]) ∧ Below w.heap.size w w') := by
  have e2 : p.from_ = smallP.from_ := congrArg PD.from_ hpd
  have hr : rightPB p = true := by rw [rightPB_pd, hpd]; exact smallP_right
  have h0 : smallP.from_ = sumImg imgA := by kernel_rfl
  exact Apply_arg imgB PB p hPB B w (imgS_in 98 _ _) (imgS_ok 98) hB hp ht lenB hr (by rw [e2, h0]; exact Ne.symm sums_ne)

theorem Join_PN (p q : PatchD) (hp1 : p.pd = smallP) (hq1 : q.pd = smallN) (B : Nat) (w : World) (hp : p.Ok w B) (hq : q.Ok w B) (hB : B ≤ w.heap.size) :
    Calls Tryd.prog 17 #[.agg p.parts.toArray, .agg q.parts.toArray] w (PatchPost (PD.nil, 1) w) := by
  have h := Join_any p q B w hp hq hB
  rw [hp1, hq1, small_pq] at h
  exact h
theorem Join_NP (p q : PatchD) (hp1 : p.pd = smallN) (hq1 : q.pd = smallP) (B : Nat) (w : World) (hp : p.Ok w B) (hq : q.Ok w B) (hB : B ≤ w.heap.size) :
    Calls Tryd.prog 17 #[.agg p.parts.toArray, .agg q.parts.toArray] w (PatchPost (smallP, 0) w) := by
  have h := Join_any p q B w hp hq hB
  rw [hp1, hq1, small_qp] at h
  exact h
theorem smallP_ok : smallP.Ok := by
  have h := RightPD.mk (p := smallP)
  have h32 : smallP.from_.length = 32 ∧ smallP.to_.length = 32 ∧ smallP.edits.length = 1 := by decide +kernel
  refine ⟨by rw [h32.1]; decide, by rw [h32.2.1]; decide, by rw [h32.2.2]; decide, editsP_ok.1⟩
theorem smallP_len : (wPD smallP).length ≤ 1048576 := by decide +kernel
theorem Read_P (w : World) : Calls Tryd.prog 9 #[str (wPD smallP)] w (fun r w' => ∃ p : PatchD, r = .returned (.tuple #[.agg p.parts.toArray, .bool true]) ∧ p.pd = smallP ∧ p.Ok w' w'.heap.size ∧ Below w.heap.size w w') := by
  have h := Read_any (wPD smallP) w smallP_len
  unfold ReadPost at h
  rw [(rPD_w smallP smallP_ok).1, (rPD_w smallP smallP_ok).2] at h
  exact h

end Go.Proofs.YtefgajipakjpeaaDoor
