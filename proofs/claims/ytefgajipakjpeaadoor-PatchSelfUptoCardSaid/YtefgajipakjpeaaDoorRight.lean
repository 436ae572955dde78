/-
  Contract of patch.Right. Conditions: none beyond the hypotheses.
-/
import Derived.Test.YtefgajipakjpeaaDoorEdit
namespace Go.Proofs.YtefgajipakjpeaaDoor
open Go.RowKit

def totalI (es : List EditD) : Int := (es.map lenI).sum
def rightPB (p : PatchD) : Bool := decide (p.from_.length = 32) && decide (p.to_.length = 32) && decide (p.edits.length ≤ 65536) && p.edits.all rightEB && decide (totalI p.edits ≤ 16777216)

theorem rightE_len {e : EditD} (h : rightEB e = true) : 0 ≤ lenI e ∧ lenI e ≤ 16777216 := by
  unfold rightEB at h
  unfold lenI
  cases hem : e.text with
  | nil =>
    simp [hem] at h ⊢
    omega
  | cons x t =>
    simp [hem] at h ⊢
    omega
theorem totalI_snoc (es : List EditD) (e : EditD) : totalI (es ++ [e]) = totalI es + lenI e := by simp [totalI]
theorem all_take_false {α : Type} (p : α → Bool) (l : List α) (i : Nat) (h : i < l.length) (hp : p (l[i]'h) = false) : l.all p = false := by
  rw [← Bool.not_eq_true]
  intro ha
  have := List.all_eq_true.1 ha _ (List.getElem_mem h)
  rw [hp] at this
  cases this

set_option maxHeartbeats 4000000 in
set_option maxRecDepth 100000 in
theorem Right_any (p : PatchD) (B : Nat) (w : World) (h : p.Ok w B) (hB : B ≤ w.heap.size) :
    Calls Tryd.prog 18 #[.agg p.parts.toArray] w fun r w' => r = .returned (.bool (rightPB p)) ∧ Below w.heap.size w w' := by
  have HP := Lib.hid h
  have hfl := h.from_
  have htl := h.to_
  have hel := h.len
  unfold maxLen at hfl htl
  clear h
  have HX0 := Lib.hid (Blk.new w 24 p.parts.toArray)
  have HB0 := Lib.hid ((Below.refl w.heap.size w).alloc (Nat.le_refl _) (.cells p.parts.toArray 24))
  have HR : Hid (rightPB p = (decide (p.from_.length = 32) && decide (p.to_.length = 32) && decide (p.edits.length ≤ 65536) && p.edits.all rightEB && decide (totalI p.edits ≤ 16777216))) := rfl
  generalize rightPB p = RB at HR
  simp only [PatchD.parts] at HX0 HB0 ⊢
  by_cases h1 : p.from_.length = 32
  · by_cases h2 : p.to_.length = 32
    · by_cases h3 : p.edits.length ≤ 65536
      · have h1b : ((p.from_.length : Int) != 32) = false := by simp [h1]
        have h2b : ((p.to_.length : Int) != 32) = false := by simp [h2]
        have h3b : decide ((65536 : Int) < (p.edits.length : Int)) = false := decide_eq_false (by omega)
        have H1 := Lib.hid h1
        have H2 := Lib.hid h2
        clear h1 h2
        go_enter Tryd.func18, Tryd.ntmps18
        go_wp2_with fail
        go_loopw [3, 25] (fun vs vi wr => ∃ (i : Nat) (s : Int), vi = .int .i64 i ∧ vs = .int .i64 s ∧ i ≤ p.edits.length ∧ Hid ((p.edits.take i).all rightEB = true) ∧ Hid (s = totalI (p.edits.take i)) ∧ 0 ≤ s ∧ s ≤ (i : Int) * 16777216 ∧ Hid (Below w.heap.size w wr)) (fun _ vi _ => p.edits.length - (intOf vi).toNat)
        case atStart => exact ⟨0, 0, rfl, rfl, Nat.zero_le _, Lib.hid rfl, Lib.hid rfl, by omega, by omega, HB0⟩
        case round =>
          obtain ⟨i, s, rfl, rfl, hi, HA, HS, hs0, hs1, HB⟩ := hrel
          by_cases hil : i < p.edits.length
          · obtain ⟨b, off, hA, _, d0, d1, d2⟩ := cells_of_edit (HP.out.cells.below (HB.out.mono hB)) hil
            have HT := Lib.hid (List.take_succ_eq_append_getElem hil)
            have HF := Lib.hid (all_take_false rightEB p.edits i hil)
            generalize p.edits[i]'hil = e at d0 d1 d2 HT HF
            have HRE := Lib.hid (rightEdit_any e)
            have HLE := Lib.hid (length_any e)
            have HLB := Lib.hid (rightE_len (e := e))
            obtain ⟨f, sz, t⟩ := e
            simp only at d0 d1 d2
            simp only [EditD.parts] at HRE HLE
            have HBA := Lib.hid (HB.out.alloc HB.out.size (.cells #[.int .i64 f, .int .i64 sz, .string ⟨t.toArray⟩] 56))
            have HXA := Lib.hid (Blk.new wr 56 #[.int .i64 f, .int .i64 sz, .string ⟨t.toArray⟩])
            rw [hA]
            clear hA
            cases hre : rightEB ⟨f, sz, t⟩ with
            | false =>
              rw [hre] at HRE
              have HV : Hid (RB = false) := Lib.hid (by rw [HR.out, HF.out hre]; simp)
              clear hre
              go_wp2_with fail
              refine (HRE.out _).mono ?_
              rintro r w1 ⟨rfl, hb1⟩
              have HB1 := Lib.hid (HBA.out.trans (hb1.mono HBA.out.size))
              clear hb1
              go_wp2
              go_ret
              exact ⟨by rw [HV.out]; rfl, HB1.out⟩
            | true =>
              rw [hre] at HRE
              have hlb := HLB.out hre
              have HAN : Hid ((p.edits.take (i + 1)).all rightEB = true) := Lib.hid (by rw [HT.out, List.all_append, HA.out]; simp [hre])
              have HSN : Hid (s + lenI ⟨f, sz, t⟩ = totalI (p.edits.take (i + 1))) := Lib.hid (by rw [HT.out, totalI_snoc, HS.out])
              clear hre HLB HF
              generalize lenI ⟨f, sz, t⟩ = le at HLE hlb HSN
              go_wp2_with fail
              refine (HRE.out _).mono ?_
              rintro r w1 ⟨rfl, hb1⟩
              have HB1 := Lib.hid (HBA.out.trans (hb1.mono HBA.out.size))
              have HX1 := Lib.hid (HXA.out.below hb1 HXA.out.lt)
              clear hb1 d0 d1 d2
              have e0 : w1.cell? ⟨wr.heap.size, 0, none⟩ = some (.int .i64 f) := HX1.out.cell 0
              have e1 : w1.cell? ⟨wr.heap.size, 1, none⟩ = some (.int .i64 sz) := HX1.out.cell 1
              have e2 : w1.cell? ⟨wr.heap.size, 2, none⟩ = some (.string ⟨t.toArray⟩) := HX1.out.cell 2
              go_wp2_with fail
              refine (HLE.out _).mono ?_
              rintro r w2 ⟨rfl, hb2⟩
              have HB2 := Lib.hid (HB1.out.trans (hb2.mono HB1.out.size))
              clear hb2 e0 e1 e2
              have hlb1 := hlb.1
              have hlb2 := hlb.2
              clear hlb
              go_wp2
              go_roundw
              case rel => exact ⟨i + 1, s + le, by go_num, by go_num, by omega, HAN, HSN, by omega, by omega, HB2⟩
              case measure => simp [intOf]; omega
          · obtain rfl : i = p.edits.length := by omega
            rw [List.take_length] at HA HS
            have HV : Hid (RB = decide (s ≤ 16777216)) := Lib.hid (by rw [HR.out, HA.out, H1.out, H2.out, HS.out]; simp [h3])
            go_wp2
            go_ret
            exact ⟨by rw [HV.out]; rfl, HB.out⟩
      · have h1b : ((p.from_.length : Int) != 32) = false := by simp [h1]
        have h2b : ((p.to_.length : Int) != 32) = false := by simp [h2]
        have h3b : decide ((65536 : Int) < (p.edits.length : Int)) = true := decide_eq_true (by omega)
        have HV : Hid (RB = false) := Lib.hid (by rw [HR.out]; simp [h3])
        clear h1 h2
        go_enter Tryd.func18, Tryd.ntmps18
        go_wp2
        go_ret
        exact ⟨by rw [HV.out]; rfl, HB0.out⟩
    · have h1b : ((p.from_.length : Int) != 32) = false := by simp [h1]
      have h2b : ((p.to_.length : Int) != 32) = true := by simp; omega
      have HV : Hid (RB = false) := Lib.hid (by rw [HR.out]; simp [h2])
      clear h1 h2
      go_enter Tryd.func18, Tryd.ntmps18
      go_wp2
      go_ret
      exact ⟨by rw [HV.out]; rfl, HB0.out⟩
  · have h1b : ((p.from_.length : Int) != 32) = true := by simp; omega
    have HV : Hid (RB = false) := Lib.hid (by rw [HR.out]; simp [h1])
    clear h1
    go_enter Tryd.func18, Tryd.ntmps18
    go_wp2
    go_ret
    exact ⟨by rw [HV.out]; rfl, HB0.out⟩

end Go.Proofs.YtefgajipakjpeaaDoor
