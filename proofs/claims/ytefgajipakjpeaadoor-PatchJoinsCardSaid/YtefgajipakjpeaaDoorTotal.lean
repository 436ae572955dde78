/-
  Contracts of the reference's Length and Total, at lists of copies and texts. Conditions: those in each theorem's own statement.
-/
import Derived.Test.YtefgajipakjpeaaDoorComp
namespace Go.Proofs.YtefgajipakjpeaaDoor
open Go.RowKit

set_option maxHeartbeats 1000000 in
set_option maxRecDepth 100000 in
theorem Length_any (e : EditD) (he : EOk e) (w : World) : Calls Tryd.prog 42 #[.agg e.parts.toArray] w fun r w' => r = .returned (.int .i64 (lenI e)) ∧ Below w.heap.size w w' := by
  have HB := Lib.hid ((Below.refl w.heap.size w).alloc (Nat.le_refl _) (.cells e.parts.toArray 56))
  have HL : Hid (lenI e = if e.text.isEmpty then e.size else (e.text.length : Int)) := Lib.hid (by
    unfold lenI
    rcases he with ⟨a, b, c, d⟩ | ⟨a, b, c⟩
    · rw [if_pos (by simp [a]), a]
      simp
      omega
    · rw [if_neg (by simpa using a)]
      omega)
  obtain ⟨f, s, t⟩ := e
  generalize lenI ⟨f, s, t⟩ = L at HL
  clear he
  simp only [EditD.parts] at HB HL ⊢
  cases t with
  | nil =>
    go_enter Tryd.func42, Tryd.ntmps42
    go_wp2
    go_ret
    exact ⟨by rw [HL.out]; rfl, HB.out⟩
  | cons x t =>
    go_enter Tryd.func42, Tryd.ntmps42
    go_wp2
    go_ret
    exact ⟨by rw [HL.out]; rfl, HB.out⟩

set_option maxHeartbeats 2000000 in
set_option maxRecDepth 100000 in
theorem Total_any (A : Option Addr) (c : Nat) (es : List EditD) (B : Nat) (w : World) (hr : Reads w B 3 A es.length (es.flatMap EditD.parts)) (he : ∀ e ∈ es, EOk e) (hB : B ≤ w.heap.size) (ht : totalI es ≤ 1099511627776) :
    Calls Tryd.prog 19 #[.slice A es.length c] w fun r w' => r = .returned (.int .i64 (totalI es)) ∧ Below w.heap.size w w' := by
  have HP := Lib.hid hr
  have HE := Lib.hid he
  have hel : (es.length : Int) ≤ 1099511627776 := Int.le_trans (EOk.length_le he) ht
  have HB0 := Lib.hid (Below.refl w.heap.size w)
  have HTA := Lib.hid (fun (i : Nat) => show totalI (es.take i) ≤ totalI es by
    have h1 : totalI (es.take i) + totalI (es.drop i) = totalI es := by rw [← totalI_append, List.take_append_drop]
    have h2 := EOk.length_le (es := es.drop i) (fun e h => he e (List.mem_of_mem_drop h))
    omega)
  have HNN := Lib.hid (fun (i : Nat) => show 0 ≤ totalI (es.take i) by
    have h2 := EOk.length_le (es := es.take i) (fun e h => he e (List.mem_of_mem_take h))
    omega)
  have HT0 : Hid (totalI es = totalI es) := Lib.hid rfl
  have HTT := Lib.hid ht
  clear hr he ht
  generalize hT : totalI es = T at HT0 HTA ⊢
  have HTQ := Lib.hid hT
  clear hT HT0
  rw [HTQ.out] at HTT
  go_enter Tryd.func19, Tryd.ntmps19
  go_wp2_with fail
  go_loopw [3, 4] (fun vs vi wr => ∃ (i : Nat) (s : Int), vi = .int .i64 i ∧ vs = .int .i64 s ∧ i ≤ es.length ∧ Hid (s = totalI (es.take i)) ∧ 0 ≤ s ∧ s ≤ 1099511627776 ∧ Hid (Below w.heap.size w wr)) (fun _ vi _ => es.length - (intOf vi).toNat)
  case atStart => exact ⟨0, 0, rfl, rfl, Nat.zero_le _, Lib.hid rfl, by omega, by omega, HB0⟩
  case round =>
    obtain ⟨i, s, rfl, rfl, hi, HS, hs0, hs1, HB⟩ := hrel
    by_cases hil : i < es.length
    · obtain ⟨b, off, hA, _, d0, d1, d2⟩ := cells_of_edit (HP.out.below (HB.out.mono hB)) hil
      have HT := Lib.hid (List.take_succ_eq_append_getElem hil)
      have HEK := Lib.hid (HE.out (es[i]'hil) (List.getElem_mem hil))
      generalize es[i]'hil = e at d0 d1 d2 HT HEK
      have HLE := Lib.hid (Length_any e HEK.out)
      have hle := HEK.out.len
      have HSN : Hid (s + lenI e = totalI (es.take (i + 1))) := Lib.hid (by rw [HT.out, totalI_snoc, HS.out])
      have hsum : s + lenI e ≤ 1099511627776 := by
        rw [HSN.out]
        exact Int.le_trans (HTA.out (i + 1)) HTT.out
      obtain ⟨f, sz, t⟩ := e
      simp only at d0 d1 d2
      simp only [EditD.parts] at HLE
      clear HEK HT
      generalize lenI ⟨f, sz, t⟩ = le at HLE HSN hle hsum
      rw [hA]
      clear hA
      go_wp2_with fail
      refine (HLE.out _).mono ?_
      rintro r w1 ⟨rfl, hb1⟩
      have HB1 := Lib.hid (HB.out.trans (hb1.mono HB.out.size))
      clear hb1 d0 d1 d2
      go_wp2
      go_roundw
      case rel => exact ⟨i + 1, s + le, by go_num, by go_num, by omega, HSN, by omega, by omega, HB1⟩
      case measure => simp [intOf]; omega
    · obtain rfl : i = es.length := by omega
      rw [List.take_length] at HS
      go_wp2
      go_ret
      exact ⟨by rw [HS.out, HTQ.out]; rfl, HB.out⟩

end Go.Proofs.YtefgajipakjpeaaDoor
