/-
  Contract of light. Conditions: none beyond the hypotheses.
-/
import Derived.Test.YtefgajipakjpeaaDoorBytes
namespace Go.Proofs.YtefgajipakjpeaaDoor
open Go.RowKit

def lightE (e : EditD) : Bool := decide (e.size ≤ 10000) && decide (e.text.length ≤ 10000)
def lightN (e : EditD) : Int := max e.size 0 + (e.text.length : Int)
def lightB (p : PatchD) : Bool := decide (p.edits.length ≤ 100) && decide (p.from_.length ≤ 100) && decide (p.to_.length ≤ 100) && p.edits.all lightE && decide ((p.edits.map lightN).sum ≤ 10000)

theorem lightN_le {e : EditD} (h : lightE e = true) : 0 ≤ lightN e ∧ lightN e ≤ 20000 := by
  simp only [lightE, Bool.and_eq_true, decide_eq_true_eq] at h
  unfold lightN
  omega

set_option maxHeartbeats 4000000 in
set_option maxRecDepth 100000 in
theorem light_any (p : PatchD) (B : Nat) (w : World) (h : p.Ok w B) (hB : B ≤ w.heap.size) :
    Calls Tryd.prog 7 #[.agg p.parts.toArray] w fun r w' => r = .returned (.bool (lightB p)) ∧ Below w.heap.size w w' := by
  have HP := Lib.hid h
  have hfl := h.from_
  have htl := h.to_
  have hel := h.len
  unfold maxLen at hfl htl
  clear h
  have HX0 := Lib.hid (Blk.new w 24 p.parts.toArray)
  have HB0 := Lib.hid ((Below.refl w.heap.size w).alloc (Nat.le_refl _) (.cells p.parts.toArray 24))
  have HR : Hid (lightB p = (decide (p.edits.length ≤ 100) && decide (p.from_.length ≤ 100) && decide (p.to_.length ≤ 100) && p.edits.all lightE && decide ((p.edits.map lightN).sum ≤ 10000))) := rfl
  generalize lightB p = RB at HR
  simp only [PatchD.parts] at HX0 HB0 ⊢
  by_cases h1 : p.edits.length ≤ 100
  · by_cases h2 : p.from_.length ≤ 100
    · by_cases h3 : p.to_.length ≤ 100
      · have h1b : decide ((100 : Int) < (p.edits.length : Int)) = false := decide_eq_false (by omega)
        have h2b : decide ((100 : Int) < (p.from_.length : Int)) = false := decide_eq_false (by omega)
        have h3b : decide ((100 : Int) < (p.to_.length : Int)) = false := decide_eq_false (by omega)
        go_enter Tryd.func7, Tryd.ntmps7
        go_wp2_with fail
        clear h1b h2b h3b
        go_loopw [3, 4] (fun vs vi wr => ∃ (i : Nat) (s : Int), vi = .int .i64 i ∧ vs = .int .i64 s ∧ i ≤ p.edits.length ∧ Hid ((p.edits.take i).all lightE = true) ∧ Hid (s = ((p.edits.take i).map lightN).sum) ∧ 0 ≤ s ∧ s ≤ (i : Int) * 20000 ∧ Hid (Blk wr w.heap.size 24 #[.string ⟨p.from_.toArray⟩, .string ⟨p.to_.toArray⟩, .slice p.A p.edits.length p.c]) ∧ Hid (Below w.heap.size w wr)) (fun _ vi _ => p.edits.length - (intOf vi).toNat)
        case atStart => exact ⟨0, 0, rfl, rfl, Nat.zero_le _, Lib.hid rfl, Lib.hid rfl, by omega, by omega, HX0, HB0⟩
        case round =>
          obtain ⟨i, s, rfl, rfl, hi, HA, HS, hs0, hs1, HX, HB⟩ := hrel
          have c2 : wr.cell? ⟨w.heap.size, 2, none⟩ = some (.slice p.A p.edits.length p.c) := HX.out.cell 2
          by_cases hil : i < p.edits.length
          · obtain ⟨b, off, hA, _, d0, d1, d2⟩ := cells_of_edit (HP.out.cells.below (HB.out.mono hB)) hil
            have HT := Lib.hid (List.take_succ_eq_append_getElem hil)
            have HF := Lib.hid (all_take_false lightE p.edits i hil)
            generalize p.edits[i]'hil = e at d0 d1 d2 HT HF
            have HLB := Lib.hid (lightN_le (e := e))
            have HE : Hid (lightE e = (decide (e.size ≤ 10000) && decide (e.text.length ≤ 10000))) := rfl
            have HN : Hid (lightN e = max e.size 0 + (e.text.length : Int)) := rfl
            have HAN : Hid (lightE e = true → (p.edits.take (i + 1)).all lightE = true) := fun h => by rw [HT.out, List.all_append, HA.out]; simp [h]
            have HSN : Hid (s + lightN e = ((p.edits.take (i + 1)).map lightN).sum) := Lib.hid (by rw [HT.out, List.map_append, List.sum_append, HS.out]; simp)
            obtain ⟨f, sz, t⟩ := e
            simp only at d0 d1 d2 HE HN
            rw [hA] at c2
            clear hA
            have hi0 : (0 : Int) ≤ (i : Int) := by omega
            have hiI : (i : Int) < (p.edits.length : Int) := by omega
            by_cases e1 : sz ≤ 10000
            · by_cases e2 : t.length ≤ 10000
              · have hle : lightE ⟨f, sz, t⟩ = true := by rw [HE.out]; simp [e1, e2]
                have HAN2 := Lib.hid (HAN.out hle)
                have hlb := HLB.out hle
                have hb1 : decide ((10000 : Int) < sz) = false := decide_eq_false (by omega)
                have hb2 : decide ((10000 : Int) < (t.length : Int)) = false := decide_eq_false (by omega)
                clear hle HLB HF HE HAN
                by_cases e3 : 0 ≤ sz
                · have hmx : max sz 0 = sz := Int.max_eq_left e3
                  rw [hmx] at HN
                  clear hmx
                  rw [HN.out] at hlb HSN
                  clear HN
                  go_wp2_with fail
                  go_quiet (fail)
                  go_wp2
                  exact ⟨⟨i + 1, s + (sz + (t.length : Int)), by go_num, (by congr 1; omega), by omega, HAN2, HSN, by omega, by omega, HX, below_drewN HB.out _⟩, by simp [intOf]; omega⟩
                · have hmx : max sz 0 = 0 := Int.max_eq_right (by omega)
                  rw [hmx] at HN
                  clear hmx
                  rw [HN.out] at hlb HSN
                  clear HN
                  go_wp2_with fail
                  go_quiet (fail)
                  go_wp2
                  exact ⟨⟨i + 1, s + (0 + (t.length : Int)), by go_num, (by congr 1; omega), by omega, HAN2, HSN, by omega, by omega, HX, below_drewN HB.out _⟩, by simp [intOf]; omega⟩
              · have hle : lightE ⟨f, sz, t⟩ = false := by rw [HE.out]; simp [e2]
                have HV : Hid (RB = false) := Lib.hid (by rw [HR.out, HF.out hle]; simp)
                have hb1 : decide ((10000 : Int) < sz) = false := decide_eq_false (by omega)
                have hb2 : decide ((10000 : Int) < (t.length : Int)) = true := decide_eq_true (by omega)
                clear hle HLB HF HE HAN HN
                go_wp2
                go_ret
                exact ⟨by rw [HV.out]; rfl, HB.out⟩
            · have hle : lightE ⟨f, sz, t⟩ = false := by rw [HE.out]; simp [e1]
              have HV : Hid (RB = false) := Lib.hid (by rw [HR.out, HF.out hle]; simp)
              have hb1 : decide ((10000 : Int) < sz) = true := decide_eq_true (by omega)
              clear hle HLB HF HE HAN HN
              go_wp2
              go_ret
              exact ⟨by rw [HV.out]; rfl, HB.out⟩
          · obtain rfl : i = p.edits.length := by omega
            rw [List.take_length] at HA HS
            have HV : Hid (RB = decide (s ≤ 10000)) := Lib.hid (by rw [HR.out, HA.out, HS.out]; simp [h1, h2, h3])
            go_wp2
            go_ret
            exact ⟨by rw [HV.out]; rfl, HB.out⟩
      · have HV : Hid (RB = false) := Lib.hid (by rw [HR.out]; simp [h3])
        have h1b : decide ((100 : Int) < (p.edits.length : Int)) = false := decide_eq_false (by omega)
        have h2b : decide ((100 : Int) < (p.from_.length : Int)) = false := decide_eq_false (by omega)
        have h3b : decide ((100 : Int) < (p.to_.length : Int)) = true := decide_eq_true (by omega)
        go_enter Tryd.func7, Tryd.ntmps7
        go_wp2
        go_ret
        exact ⟨by rw [HV.out]; rfl, HB0.out⟩
    · have HV : Hid (RB = false) := Lib.hid (by rw [HR.out]; simp [h2])
      have h1b : decide ((100 : Int) < (p.edits.length : Int)) = false := decide_eq_false (by omega)
      have h2b : decide ((100 : Int) < (p.from_.length : Int)) = true := decide_eq_true (by omega)
      go_enter Tryd.func7, Tryd.ntmps7
      go_wp2
      go_ret
      exact ⟨by rw [HV.out]; rfl, HB0.out⟩
  · have HV : Hid (RB = false) := Lib.hid (by rw [HR.out]; simp [h1])
    have h1b : decide ((100 : Int) < (p.edits.length : Int)) = true := decide_eq_true (by omega)
    go_enter Tryd.func7, Tryd.ntmps7
    go_wp2
    go_ret
    exact ⟨by rw [HV.out]; rfl, HB0.out⟩

end Go.Proofs.YtefgajipakjpeaaDoor
