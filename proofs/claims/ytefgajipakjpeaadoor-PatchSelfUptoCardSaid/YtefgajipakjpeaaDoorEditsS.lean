/-
  patch.edits at strings shorter than a block: one text, or nothing. Condition: both strings are shorter than 32 bytes.
-/
import Derived.Test.YtefgajipakjpeaaDoorImRd
namespace Go.Proofs.YtefgajipakjpeaaDoor
open Go.RowKit

/-- What edits leaves. -/
def EditsPost (es : List EditD) (w : World) (r : Ending) (w' : World) : Prop :=
  ∃ (A : Option Addr) (c : Nat), r = .returned (.slice A es.length c) ∧ w'.ownsRow w.heap.size 56 3 (.slice A es.length c) es.length (es.flatMap EditD.parts) ∧ Below w.heap.size w w'

set_option maxHeartbeats 4000000 in
set_option maxRecDepth 100000 in
theorem edits_short (o n : List UInt8) (w : World) (ho : o.length < 32) (hn : n.length < 32) :
    Calls Tryd.prog 34 #[str o, str n] w (EditsPost (flushL [] n) w) := by
  unfold EditsPost str
  obtain ⟨FL, hFL⟩ : ∃ F, flushL [] n = F := ⟨_, rfl⟩
  rw [hFL]
  have HFL : Hid (flushL [] n = FL) := hFL
  clear hFL
  have hmm := @run_makeMap Tryd.prog
  have hob : decide ((32 : Int) ≤ (o.length : Int)) = false := decide_eq_false (by omega)
  have HB0 : Hid (Below w.heap.size w (w.alloc (.map #[] 0))) := (Below.refl _ _).alloc (Nat.le_refl _) _
  go_enter Tryd.func34, Tryd.ntmps34
  go_wp2_with fail
  clear hmm
  go_loopw [6] (fun vo wr => vo = .int .i64 0 ∧ Hid (Below w.heap.size w wr)) (fun _ _ => 0)
  case atStart => exact ⟨rfl, HB0⟩
  case round =>
    obtain ⟨rfl, HB⟩ := hrel
    have HM0 := Lib.hid (MKat.new (B := w.heap.size) wr HB.out.size)
    have HB1 := Lib.hid (HB.out.alloc HB.out.size (.cells #[.slice none 0 0, .pointer none, .slice none 0 0] 90))
    go_wp2_with fail
    generalize (wr.alloc (.cells #[.slice none 0 0, .pointer none, .slice none 0 0] 90)) = w1 at HM0 HB1 ⊢
    generalize wr.heap.size = mb at HM0 ⊢
    clear hob
    go_loopw [10] (fun vi wr => ∃ i : Nat, vi = .int .i64 i ∧ i ≤ n.length ∧ Hid (MKat w.heap.size mb [] (n.take i) wr) ∧ Hid (Below w.heap.size w wr)) (fun vi _ => n.length - (intOf vi).toNat)
    case atStart => exact ⟨0, rfl, Nat.zero_le _, HM0, HB1⟩
    case round =>
      clear HM0 HB1 HB HB0
      obtain ⟨i, rfl, hi, HM, HB⟩ := hrel
      by_cases hil : i < n.length
      · have hib : decide ((i : Int) + 32 ≤ (n.length : Int)) = false := decide_eq_false (by omega)
        have HT := Lib.hid (List.take_succ_eq_append_getElem hil)
        have HW := Lib.hid (HM.out.writeByte (n[i]'hil) (by rw [List.length_take]; omega) HB.out.size)
        rw [← HT.out] at HW
        go_wp2_with fail
        refine Calls.mono HW.out ?_
        rintro r w5 ⟨rfl, hm5, hb5⟩
        have HM5 := Lib.hid hm5
        have HB5 := Lib.hid (HB.out.trans hb5)
        clear hm5 hb5 HW
        go_wp2
        go_roundw
        case rel => exact ⟨i + 1, by go_num, by omega, HM5, HB5⟩
        case measure => simp [intOf]; omega
      · obtain rfl : i = n.length := by omega
        rw [List.take_length] at HM
        have HF := Lib.hid (flush_any HM.out HB.out.size (by simp) (by omega))
        rw [HFL.out] at HF
        go_wp2_with fail
        refine (HF.out).mono ?_
        rintro r w5 ⟨rfl, hm5, hb5⟩
        have HB5 := Lib.hid (HB.out.trans hb5)
        obtain ⟨cs, v, hm⟩ := hm5
        obtain ⟨A, c, rfl⟩ := own_shape hm.own
        have c0 : w5.cell? ⟨mb, 0, none⟩ = some (.slice A FL.length c) := (hm.bat.blk.cell 0).trans hm.head
        have HO5 := Lib.hid hm.own
        clear hm hb5 HF
        go_wp2
        go_ret
        exact ⟨A, c, rfl, HO5.out, HB5.out⟩

end Go.Proofs.YtefgajipakjpeaaDoor
