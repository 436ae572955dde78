/-
  Contract of linchpinref27.Same. Conditions: none beyond the hypotheses.
-/
import Derived.Test.YtefgajipakjpeaaDoorReadP
import Derived.Laws.StructEq
namespace Go.Proofs.YtefgajipakjpeaaDoor
open Go.RowKit

instance : DecidableEq EditD := fun a b => by
  obtain ⟨f, s, t⟩ := a
  obtain ⟨f', s', t'⟩ := b
  exact if h : f = f' ∧ s = s' ∧ t = t' then isTrue (by obtain ⟨rfl, rfl, rfl⟩ := h; rfl) else isFalse (fun e => h (by injection e with a b c; exact ⟨a, b, c⟩))

def samePB (p q : PatchD) : Bool := decide (p.from_ = q.from_) && decide (p.to_ = q.to_) && decide (p.edits = q.edits)
theorem samePB_iff (p q : PatchD) : samePB p q = true ↔ p.pd = q.pd := by
  unfold samePB PatchD.pd
  simp [and_assoc]

set_option maxHeartbeats 8000000 in
set_option maxRecDepth 100000 in
theorem Same_any (p q : PatchD) (B : Nat) (w : World) (hp : p.Ok w B) (hq : q.Ok w B) (hB : B ≤ w.heap.size) :
    Calls Tryd.prog 10 #[.agg p.parts.toArray, .agg q.parts.toArray] w fun r w' => r = .returned (.bool (samePB p q)) ∧ Below w.heap.size w w' := by
  have HPO := Lib.hid hp
  have HQO := Lib.hid hq
  have hpl := hp.len
  have hql := hq.len
  clear hp hq
  have HB0 := Lib.hid (((Below.refl w.heap.size w).alloc (Nat.le_refl _) (.cells p.parts.toArray 24)).alloc (by simp) (.cells q.parts.toArray 24))
  have HX0 : Hid (Blk ((w.alloc (.cells p.parts.toArray 24)).alloc (.cells q.parts.toArray 24)) w.heap.size 24 p.parts.toArray) := (Blk.new w 24 _).alloc _
  have HY0 : Hid (Blk ((w.alloc (.cells p.parts.toArray 24)).alloc (.cells q.parts.toArray 24)) (w.heap.size + 1) 24 q.parts.toArray) := Blk.newAt (by simp)
  have HR : Hid (samePB p q = (decide (p.from_ = q.from_) && decide (p.to_ = q.to_) && decide (p.edits = q.edits))) := rfl
  generalize samePB p q = RB at HR
  simp only [PatchD.parts] at HB0 HX0 HY0 ⊢
  by_cases h1 : p.from_ = q.from_
  · have g1 : (p.from_ == q.from_) = true := by simp [h1]
    by_cases h2 : p.to_ = q.to_
    · have g2 : (p.to_ == q.to_) = true := by simp [h2]
      by_cases h3 : p.edits.length = q.edits.length
      · have g3 : ((p.edits.length : Int) != (q.edits.length : Int)) = false := by simp [h3]
        have HR2 : Hid (RB = decide (p.edits = q.edits)) := Lib.hid (by rw [HR.out]; simp [h1, h2])
        have H3 := Lib.hid h3
        clear h1 h2 h3 HR
        go_enter Tryd.func10, Tryd.ntmps10
        go_wp2_with fail
        generalize ((w.alloc (.cells #[.string ⟨p.from_.toArray⟩, .string ⟨p.to_.toArray⟩, .slice p.A p.edits.length p.c] 24)).alloc (.cells #[.string ⟨q.from_.toArray⟩, .string ⟨q.to_.toArray⟩, .slice q.A q.edits.length q.c] 24)) = w0 at HX0 HY0 HB0 ⊢
        go_loopw [5] (fun vi wr => ∃ i : Nat, vi = .int .i64 i ∧ i ≤ p.edits.length ∧ Hid (p.edits.take i = q.edits.take i) ∧ Hid (Below w0.heap.size w0 wr)) (fun vi _ => p.edits.length - (intOf vi).toNat)
        case atStart => exact ⟨0, rfl, Nat.zero_le _, Lib.hid rfl, Below.refl _ _⟩
        case round =>
          clear g1 g2 g3
          obtain ⟨i, rfl, hi, HT, HB⟩ := hrel
          have HB2 := Lib.hid (HB0.out.trans (HB.out.mono HB0.out.size))
          have c2 : wr.cell? ⟨w.heap.size, 2, none⟩ = some (.slice p.A p.edits.length p.c) := (HX0.out.below HB.out HX0.out.lt).cell 2
          have e2 : wr.cell? ⟨w.heap.size + 1, 2, none⟩ = some (.slice q.A q.edits.length q.c) := (HY0.out.below HB.out HY0.out.lt).cell 2
          by_cases hil : i < p.edits.length
          · have hjl : i < q.edits.length := by have := H3.out; omega
            obtain ⟨b, off, hA, _, d0, d1, d2⟩ := cells_of_edit (HPO.out.cells.below (HB2.out.mono hB)) hil
            obtain ⟨b', off', hA', _, x0, x1, x2⟩ := cells_of_edit (HQO.out.cells.below (HB2.out.mono hB)) hjl
            have HTS : Hid (p.edits[i]'hil = q.edits[i]'hjl → p.edits.take (i + 1) = q.edits.take (i + 1)) := fun h => by rw [List.take_succ_eq_append_getElem hil, List.take_succ_eq_append_getElem hjl, HT.out, h]
            have HNE : Hid (p.edits[i]'hil ≠ q.edits[i]'hjl → p.edits ≠ q.edits) := fun h e => h (by simp only [e])
            rw [hA] at c2
            rw [hA'] at e2
            clear hA hA'
            generalize p.edits[i]'hil = x at d0 d1 d2 HTS HNE
            generalize q.edits[i]'hjl = y at x0 x1 x2 HTS HNE
            obtain ⟨f, s, t⟩ := x
            obtain ⟨f', s', t'⟩ := y
            simp only at d0 d1 d2 x0 x1 x2
            have hi0 : (0 : Int) ≤ (i : Int) := by omega
            have hiI : (i : Int) < (p.edits.length : Int) := by omega
            have hiJ : (i : Int) < (q.edits.length : Int) := by omega
            by_cases k1 : f = f'
            · subst k1
              by_cases k2 : s = s'
              · subst k2
                by_cases k3 : t = t'
                · subst k3
                  have HTN := Lib.hid (HTS.out rfl)
                  clear HTS HNE
                  go_wp2_with fail
                  go_quiet (fail)
                  go_wp2
                  go_roundw
                  case rel => exact ⟨i + 1, by go_num, by omega, HTN, below_drewN HB.out _⟩
                  case measure => simp [intOf]; omega
                · have k3b : (t == t') = false := by simpa using k3
                  have HV : Hid (RB = false) := Lib.hid (by
                    have hne := HNE.out (fun e => by injection e with e1 e2 e3; exact k3 e3)
                    rw [HR2.out]; simp [hne])
                  clear HTS HNE k3
                  go_wp2_with fail
                  go_quiet (fail)
                  go_wp2
                  go_ret
                  exact ⟨by rw [HV.out]; rfl, below_drewN HB2.out _⟩
              · have k2b : (s == s') = false := by simpa using k2
                have HV : Hid (RB = false) := Lib.hid (by
                  have hne := HNE.out (fun e => by injection e with e1 e2 e3; exact k2 e2)
                  rw [HR2.out]; simp [hne])
                clear HTS HNE k2
                go_wp2_with fail
                go_quiet (fail)
                go_wp2
                go_ret
                exact ⟨by rw [HV.out]; rfl, below_drewN HB2.out _⟩
            · have k1b : (f == f') = false := by simpa using k1
              have HV : Hid (RB = false) := Lib.hid (by
                have hne := HNE.out (fun e => by injection e with e1 e2 e3; exact k1 e1)
                rw [HR2.out]; simp [hne])
              clear HTS HNE k1
              go_wp2_with fail
              go_quiet (fail)
              go_wp2
              go_ret
              exact ⟨by rw [HV.out]; rfl, below_drewN HB2.out _⟩
          · obtain rfl : i = p.edits.length := by omega
            have HV : Hid (RB = true) := Lib.hid (by
              rw [HR2.out]
              have h := HT.out
              rw [List.take_length, H3.out, List.take_length] at h
              simp [h])
            have hjl : ¬ p.edits.length < q.edits.length := by have := H3.out; omega
            go_wp2
            go_ret
            exact ⟨by rw [HV.out]; rfl, HB2.out⟩
      · have HV : Hid (RB = false) := Lib.hid (by rw [HR.out]; simp; intro _ _ e; exact h3 (by rw [e]))
        have g3 : ((p.edits.length : Int) != (q.edits.length : Int)) = true := by simp; omega
        clear h1 h2 h3
        go_enter Tryd.func10, Tryd.ntmps10
        go_wp2
        go_ret
        exact ⟨by rw [HV.out]; rfl, HB0.out⟩
    · have HV : Hid (RB = false) := Lib.hid (by rw [HR.out]; simp [h2])
      have g2 : (p.to_ == q.to_) = false := by simpa using h2
      clear h1 h2
      go_enter Tryd.func10, Tryd.ntmps10
      go_wp2
      go_ret
      exact ⟨by rw [HV.out]; rfl, HB0.out⟩
  · have HV : Hid (RB = false) := Lib.hid (by rw [HR.out]; simp [h1])
    have g1 : (p.from_ == q.from_) = false := by simpa using h1
    clear h1
    go_enter Tryd.func10, Tryd.ntmps10
    go_wp2
    go_ret
    exact ⟨by rw [HV.out]; rfl, HB0.out⟩

end Go.Proofs.YtefgajipakjpeaaDoor
