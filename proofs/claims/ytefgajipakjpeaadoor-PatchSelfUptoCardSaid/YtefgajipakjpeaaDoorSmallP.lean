/-
  The two small images of the layer's statements and their patches, in plain Lean.
-/
import Derived.Test.YtefgajipakjpeaaDoorApply
namespace Go.Proofs.YtefgajipakjpeaaDoor
open Go.RowKit

def imgS (c : UInt8) : ImageD := { ImageD.nil with i0 := [c], i16 := -1 }
theorem imgS_ok (c : UInt8) : (imgS c).Ok := by
  have h := ImageD.nil_ok
  exact { h with i0 := by show [c].length ≤ maxLen; simp [maxLen], i16 := by show I64 (-1); unfold I64; decide }
theorem imgS_in (c : UInt8) (w : World) (B : Nat) : (imgS c).In w B := by
  have h := ImageD.nil_in w B
  exact { h with }
def imgA : ImageD := imgS 97
def imgB : ImageD := imgS 98
theorem wImageA : wImage imgA = wImage imgA ∧ (wImage imgA).length < 32 := by
  refine ⟨rfl, ?_⟩
  decide +kernel
theorem wImageB_len : (wImage imgB).length < 32 := by decide +kernel
def smallP : PD := ⟨sumImg imgA, sumImg imgB, flushL [] (wImage imgB)⟩
def smallN : PD := ⟨sumImg imgA, sumImg imgA, flushL [] (wImage imgA)⟩
theorem sums_ne : sumImg imgA ≠ sumImg imgB := by decide +kernel
theorem smallP_right : rightPD smallP = true := by decide +kernel
theorem smallN_right : rightPD smallN = true := by decide +kernel
theorem smallP_fit : fitR smallP = (smallP, 0) := by
  have h : fitQ smallP = true := by decide +kernel
  unfold fitR
  rw [if_pos h]
theorem smallN_fit : fitR smallN = (smallN, 0) := by
  have h : fitQ smallN = true := by decide +kernel
  unfold fitR
  rw [if_pos h]
theorem smallN_one : smallN.edits.length = 1 := by decide +kernel
theorem small_pq : joinR smallP smallN = (PD.nil, 1) := by
  unfold joinR
  have h1 : smallP.to_ = sumImg imgB := by kernel_rfl
  have h2 : smallN.from_ = sumImg imgA := by kernel_rfl
  rw [if_neg (by rw [smallP_right, smallN_right]; decide), h1, h2, if_pos (Ne.symm sums_ne)]
set_option maxRecDepth 1000000 in
theorem small_qp : joinR smallN smallP = (smallP, 0) := by
  have hj : (joinF smallN.edits smallP.edits [] []).1 = true := by decide +kernel
  have hf : flushL (joinF smallN.edits smallP.edits [] []).2.1 (joinF smallN.edits smallP.edits [] []).2.2 = smallP.edits := by kernel_rfl
  unfold joinR
  rw [if_neg (by rw [smallP_right, smallN_right]; decide), if_neg (by show ¬ (sumImg imgA ≠ sumImg imgA); simp), if_pos hj, hf]
  exact smallP_fit
set_option maxRecDepth 1000000 in
theorem small_read : readOk (resL (wImage imgA) smallP.edits) = true := by decide +kernel
theorem small_res : resL (wImage imgA) smallP.edits = wImage imgB := by decide +kernel
theorem small_pl : (rImage ⟨wImage imgB, false⟩).1 = imgB.pl := by
  have h := rImage_w imgB (imgS_ok 98) (by constructor <;> decide) []
  rw [List.append_nil] at h
  rw [h]
theorem nil_right : rightPD PD.nil = false := by decide +kernel

end Go.Proofs.YtefgajipakjpeaaDoor
