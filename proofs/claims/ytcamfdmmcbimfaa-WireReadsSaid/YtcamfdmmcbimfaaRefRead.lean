/-
  Contracts of the reference's Reader: number, Num, Int, Text, Left, Done and Open answer as package wire's do. Conditions: what is left is at most 2^46 bytes.
-/
import Derived.Test.YtcamfdmmcbimfaaRefPlain
import Derived.Test.YtcamfdmmcbimfaaEqual
namespace Go.Proofs.Ytcamfdmmcbimfaa.Q
open Go.RowKit

/-- Block g is a reader in this state. -/
def Rd (w : World) (g : Nat) (s : St) : Prop := Blk w g 63 #[.string ⟨s.rest.toArray⟩, .bool s.bad]

/-- The world behind a method of a reader: it alone has turned, and new blocks. -/
structure RdTo (w w' : World) (g : Nat) (s : St) : Prop where
  rd : Rd w' g s
  only : w.grownBy w' (some g)

theorem Rd.lt {w : World} {g : Nat} {s : St} (h : Rd w g s) : g < w.heap.size := Blk.lt h
theorem Rd.below {w w' : World} {g : Nat} {s : St} (h : Rd w g s) (hb : Below w.heap.size w w') : Rd w' g s := Blk.below h hb (Rd.lt h)
theorem RdTo.refl {w : World} {g : Nat} {s : St} (h : Rd w g s) : RdTo w w g s := ⟨h, World.grownBy.refl w _⟩
theorem RdTo.trans {w w1 w2 : World} {g : Nat} {s t : St} (h : RdTo w w1 g s) (k : RdTo w1 w2 g t) : RdTo w w2 g t := ⟨k.rd, only_trans h.only k.only⟩
/-- A store into the reader's own two cells. -/
theorem RdTo.store {w w1 : World} {g : Nat} {s : St} (h : RdTo w w1 g s) (r : List UInt8) : RdTo w (w1.setCell ⟨g, 0, none⟩ (.string ⟨r.toArray⟩)) g ⟨r, s.bad⟩ :=
  ⟨by have := Blk.set_ h.rd 0 (.string ⟨r.toArray⟩); simpa [Rd] using this, only_setCell (p := ⟨g, 0, none⟩) h.only (.inl rfl) _⟩
theorem RdTo.storeB {w w1 : World} {g : Nat} {s : St} (h : RdTo w w1 g s) {x : ByteArray} {r : List UInt8} (hx : x = ⟨r.toArray⟩) : RdTo w (w1.setCell ⟨g, 0, none⟩ (.string x)) g ⟨r, s.bad⟩ := by
  rw [hx]
  exact h.store r
theorem RdTo.fails {w w1 : World} {g : Nat} {s : St} (h : RdTo w w1 g s) : RdTo w ((w1.setCell ⟨g, 0, none⟩ (.string ⟨#[]⟩)).setCell ⟨g, 1, none⟩ (.bool true)) g ⟨[], true⟩ :=
  ⟨by have := Blk.set_ (Blk.set_ h.rd 0 (.string ⟨#[]⟩)) 1 (.bool true); simpa [Rd] using this, only_setCell (p := ⟨g, 1, none⟩) (only_setCell (p := ⟨g, 0, none⟩) h.only (.inl rfl) _) (.inl rfl) _⟩

set_option maxHeartbeats 1000000 in
set_option maxRecDepth 100000 in
/-- fail. -/
theorem fail_any (g : Nat) (s : St) (w : World) (h : Rd w g s) : Calls Try.prog 50 #[.pointer (some ⟨g, 0, none⟩)] w fun e w' => e = .returned (.tuple #[]) ∧ RdTo w w' g ⟨[], true⟩ := by
  have c0 : w.cell? ⟨g, 0, none⟩ = some (.string ⟨s.rest.toArray⟩) := h.cell 0
  have c1 : w.cell? ⟨g, 1, none⟩ = some (.bool s.bad) := h.cell 1
  have f0 := Blk.frozen h 0
  have f1 := Blk.frozen h 1
  have H := Lib.hid (RdTo.fails (RdTo.refl h))
  clear h
  go_enter Try.func50, Try.ntmps50
  go_wp2
  go_end0
  exact ⟨rfl, H.out⟩

theorem u64_step (M b : Nat) : IntKind.u64.wrap (IntKind.u64.wrap (128 * (M : Int)) + (b : Int) % 128) = (((128 * M + b % 128) % 2 ^ 64 : Nat) : Int) := by
  rw [IntKind.wrap_u64, IntKind.wrap_u64]
  omega

set_option maxHeartbeats 8000000 in
set_option maxRecDepth 100000 in
/-- number. -/
theorem number_any (g : Nat) (s : St) (w : World) (h : Rd w g s) (hl : s.rest.length ≤ 70368744177664) :
    Calls Try.prog 49 #[.pointer (some ⟨g, 0, none⟩)] w fun e w' => e = .returned (.int .u64 (rU s).1) ∧ RdTo w w' g (rU s).2 := by
  have c0 : w.cell? ⟨g, 0, none⟩ = some (.string ⟨s.rest.toArray⟩) := h.cell 0
  have f0 := Blk.frozen h 0
  have HR := Lib.hid h
  clear h
  obtain ⟨l, bad⟩ := s
  simp only at c0 hl
  have hll := lead_le l
  have HLT := Lib.hid (lead_lt l)
  have HAT := Lib.hid (lead_at l)
  have HFAR := Lib.hid (fun h => ref_far (l := l) h)
  have HNOT := Lib.hid (fun h => ref_not (l := l) h)
  have HIS := Lib.hid (fun m h1 h2 => ref_is (l := l) (m := m) h1 h2)
  generalize lead l = n at hll HLT HAT HFAR HNOT HIS
  go_enter Try.func49, Try.ntmps49
  go_wp2
  go_loop [3] (fun vi => ∃ i : Nat, vi = .int .i64 i ∧ i ≤ n) (fun vi => n - (intOf vi).toNat)
  case atStart => exact ⟨0, rfl, Nat.zero_le _⟩
  case round =>
    obtain ⟨i, rfl, hin⟩ := hrel
    by_cases hi : i < n
    · have hil : i < (ByteArray.mk l.toArray).size := Nat.lt_of_lt_of_le hi hll
      have hb : 128 ≤ ((ByteArray.mk l.toArray)[i]'hil).toNat := HLT.out i hi (Nat.lt_of_lt_of_le hi hll)
      have hil2 : i < l.length := Nat.lt_of_lt_of_le hi hll
      go_wp2
      go_round
      case rel => exact ⟨i + 1, by go_num, by omega⟩
      case measure => simp [intOf]; omega
    · obtain rfl : i = n := by omega
      clear hi hin
      by_cases hil2 : i < l.length
      · have hil : i < (ByteArray.mk l.toArray).size := hil2
        have hb : ((ByteArray.mk l.toArray)[i]'hil).toNat < 128 := HAT.out hil2
        by_cases h9 : 9 < i
        · have HN := Lib.hid (HFAR.out (.inr h9))
          go_wp2_with (go_at_call 50; refine (fail_any g ⟨l, bad⟩ _ HR.out).mono ?_; rintro e w1 ⟨rfl, hto⟩)
          go_ret
          rw [rU_none HN.out]
          exact ⟨rfl, hto⟩
        · go_wp2
          clear hb hil HLT HAT HFAR
          have hi9 : (i : Int) ≤ 9 := by omega
          clear h9
          go_loop [4, 5] (fun vm vj => ∃ k M : Nat, vj = .int .i64 ((k : Int) - 1) ∧ k ≤ i + 1 ∧ vm = .int .u64 M ∧ Hid (M = leV ((l.take (i + 1)).drop k) % 2 ^ 64)) (fun _ vj => (intOf vj + 1).toNat)
          case atStart => exact ⟨i + 1, 0, by rw [show ((i + 1 : Nat) : Int) - 1 = (i : Int) by omega], Nat.le_refl _, rfl, Lib.hid (by rw [List.drop_of_length_le (by rw [List.length_take]; omega)]; rfl)⟩
          case round =>
            obtain ⟨k, M, rfl, hk, rfl, HM⟩ := hrel
            have hM : (M : Int) ≤ 18446744073709551615 := by have := HM.out; omega
            cases k with
            | zero =>
              rw [show ((0 : Nat) : Int) - 1 = -1 from rfl]
              have HS0 := Lib.hid (show w.drew.cell? ⟨g, 0, none⟩ = some (.string ⟨l.toArray⟩) from c0)
              have hg := groups_any M (by omega) w.drew
              unfold str at hg
              have HG := Lib.hid hg
              clear hg
              rw [List.drop_zero] at HM
              have hi1 : IntKind.i64.wrap ((i : Int) + 1) = ((i + 1 : Nat) : Int) := by rw [IntWalk.i64_in _ ⟨by omega, by omega⟩]; omega
              have hi2 : ((i + 1 : Nat) : Int) ≤ (l.length : Int) := by omega
              have hM2 : M < 2 ^ 64 := by omega
              clear hk
              generalize i + 1 = q at hi1 hi2 HIS HNOT HM
              have hx : ((ByteArray.mk l.toArray).extract 0 q).toList = l.take q := by rw [Lib.extract_toList]; simp
              by_cases hq : Lib.uvarint M = l.take q
              · have HQ := Lib.hid (HIS.out M hM2 hq)
                have hx1 : (Lib.uvarint M == ((ByteArray.mk l.toArray).extract 0 q).toList) = true := by rw [hq, hx]; simp
                clear hq HIS HNOT HM hx
                generalize Lib.uvarint M = U at HG hx1
                go_wp2_with fail
                go_region_held3 (fun w' => w'.cell? ⟨g, 0, none⟩ = some (.string ⟨l.toArray⟩)) (first | exact hS1 | exact HS0.out | assumption)
                  (first
                    | (go_at_call 44; refine (HG.out).mono ?_; rintro e w2 ⟨rfl, hb⟩; have hS1 := (hb.cell (p := ⟨g, 0, none⟩) (Rd.lt HR.out)).trans HS0.out))
                have f2 : w2.frozen? ⟨g, 0, none⟩ = false := Blk.frozen (Rd.below HR.out ((Below.refl _ _).drew.trans hb)) 0
                have HT := Lib.hid (show RdTo w w2 g ⟨l, bad⟩ from ⟨Rd.below HR.out ((Below.refl _ _).drew.trans hb), only_of_below ((Below.refl _ _).drew.trans hb) _⟩)
                clear hb
                go_wp2
                go_ret
                rw [rU_some HQ.out]
                exact ⟨rfl, RdTo.storeB (s := ⟨l, bad⟩) HT.out (extract_from l _)⟩
              · have HQ := Lib.hid (HNOT.out (by rw [← HM.out]; exact hq))
                have hx1 : (Lib.uvarint M == ((ByteArray.mk l.toArray).extract 0 q).toList) = false := by rw [hx]; simpa using hq
                clear hq HIS HNOT HM hx
                generalize Lib.uvarint M = U at HG hx1
                go_wp2_with fail
                go_region_held3 (fun w' => w'.cell? ⟨g, 0, none⟩ = some (.string ⟨l.toArray⟩)) (first | exact hS1 | exact HS0.out | assumption)
                  (first
                    | (go_at_call 44; refine (HG.out).mono ?_; rintro e w2 ⟨rfl, hb⟩; have hS1 := (hb.cell (p := ⟨g, 0, none⟩) (Rd.lt HR.out)).trans HS0.out))
                have HT := Lib.hid (show RdTo w w2 g ⟨l, bad⟩ from ⟨Rd.below HR.out ((Below.refl _ _).drew.trans hb), only_of_below ((Below.refl _ _).drew.trans hb) _⟩)
                clear hb
                go_wp2_with (go_at_call 50; refine (fail_any g ⟨l, bad⟩ _ HT.out.rd).mono ?_; rintro e w3 ⟨rfl, hto⟩)
                go_ret
                rw [rU_none HQ.out]
                exact ⟨rfl, HT.out.trans hto⟩
            | succ j =>
              rw [show ((j + 1 : Nat) : Int) - 1 = (j : Int) by omega]
              have hjl : j < (ByteArray.mk l.toArray).size := Nat.lt_of_lt_of_le hk hil2
              have hjl2 : j < l.length := hjl
              have hstep := leV_step l j (i + 1) hjl2 (by omega)
              rw [← HM.out] at hstep
              have HST := Lib.hid hstep
              clear hstep
              go_wp2
              go_round
              case rel => exact ⟨j, _, rfl, by omega, congrArg (Value.int .u64) (u64_step M _), HST.out.symm⟩
              case measure => simp [intOf]
      · have HN := Lib.hid (HFAR.out (.inl (by omega)))
        go_wp2_with (go_at_call 50; refine (fail_any g ⟨l, bad⟩ _ HR.out).mono ?_; rintro e w1 ⟨rfl, hto⟩)
        go_ret
        rw [rU_none HN.out]
        exact ⟨rfl, hto⟩

set_option maxHeartbeats 1000000 in
set_option maxRecDepth 100000 in
/-- Num. -/
theorem rNum_any (g : Nat) (s : St) (w : World) (h : Rd w g s) (hl : s.rest.length ≤ 70368744177664) :
    Calls Try.prog 26 #[.pointer (some ⟨g, 0, none⟩)] w fun e w' => e = .returned (.int .i64 (rNum s).1) ∧ RdTo w w' g (rNum s).2 := by
  have HN := Lib.hid (number_any g s w h hl)
  have hlt := rU_lt s
  clear h
  by_cases hm : (rU s).1 < 2 ^ 63
  · have e1 : rNum s = rU s := by simp only [rNum, if_pos hm]
    rw [e1]
    clear e1
    generalize rU s = y at HN hlt hm
    obtain ⟨m, t⟩ := y
    have h1 : (m : Int) ≤ 9223372036854775807 := by simp only at hm; omega
    have h3 : decide ((9223372036854775808 : Int) ≤ (m : Int)) = false := decide_eq_false (by omega)
    clear hm hlt
    go_enter Try.func26, Try.ntmps26
    go_wp2_with (go_at_call 49; refine (HN.out).mono ?_; rintro e w1 ⟨rfl, hto⟩)
    go_ret
    exact ⟨rfl, hto⟩
  · have e1 : rNum s = (0, ⟨[], true⟩) := by simp only [rNum, if_neg hm]
    rw [e1]
    clear e1
    generalize rU s = y at HN hlt hm
    obtain ⟨m, t⟩ := y
    have h1 : 9223372036854775807 < (m : Int) := by simp only at hm; omega
    have h2 : (m : Int) ≤ 18446744073709551615 := by simp only at hlt; omega
    have h3 : decide ((9223372036854775808 : Int) ≤ (m : Int)) = true := decide_eq_true (by omega)
    clear hm hlt h1
    go_enter Try.func26, Try.ntmps26
    go_wp2_with (first | (go_at_call 49; refine (HN.out).mono ?_; rintro e w1 ⟨rfl, hto⟩; have HF := Lib.hid (fail_any g t w1 hto.rd)) | (go_at_call 50; refine (HF.out).mono ?_; rintro e w2 ⟨rfl, hto2⟩))
    go_ret
    exact ⟨rfl, hto.trans hto2⟩

set_option maxHeartbeats 1000000 in
set_option maxRecDepth 100000 in
/-- Int. -/
theorem rInt_any (g : Nat) (s : St) (w : World) (h : Rd w g s) (hl : s.rest.length ≤ 70368744177664) :
    Calls Try.prog 28 #[.pointer (some ⟨g, 0, none⟩)] w fun e w' => e = .returned (.int .i64 (rInt s).1) ∧ RdTo w w' g (rInt s).2 := by
  have HN := Lib.hid (number_any g s w h hl)
  have hlt := rU_lt s
  clear h
  unfold rInt
  generalize rU s = y at HN hlt
  obtain ⟨m, t⟩ := y
  have h1 : (m : Int) ≤ 18446744073709551615 := by simp only at hlt; omega
  clear hlt
  by_cases h2 : (m : Int) % 2 = 1
  · have e : Lib.unzigzag m = -((m : Int) / 2) - 1 := by unfold Lib.unzigzag; rw [if_neg (by omega)]; omega
    have e2 : IntKind.i64.wrap (-((m : Int) / 2)) = -((m : Int) / 2) := IntWalk.i64_in _ ⟨by omega, by omega⟩
    have e3 : IntKind.i64.wrap (-((m : Int) / 2) - 1) = -((m : Int) / 2) - 1 := IntWalk.i64_in _ ⟨by omega, by omega⟩
    rw [e]
    clear e
    go_enter Try.func28, Try.ntmps28
    go_wp2_with (go_at_call 49; refine (HN.out).mono ?_; rintro e w1 ⟨rfl, hto⟩)
    go_ret
    exact ⟨rfl, hto⟩
  · have e : Lib.unzigzag m = (m : Int) / 2 := by unfold Lib.unzigzag; rw [if_pos (by omega)]; omega
    have h3 : (m : Int) % 2 = 0 := by omega
    rw [e]
    clear e
    go_enter Try.func28, Try.ntmps28
    go_wp2_with (go_at_call 49; refine (HN.out).mono ?_; rintro e w1 ⟨rfl, hto⟩)
    go_ret
    exact ⟨rfl, hto⟩

set_option maxHeartbeats 1000000 in
set_option maxRecDepth 100000 in
/-- Left. -/
theorem Left_any (g : Nat) (s : St) (w : World) (h : Rd w g s) :
    Calls Try.prog 38 #[.pointer (some ⟨g, 0, none⟩)] w fun e w' => e = .returned (.int .i64 s.rest.length) ∧ w = w' := by
  have c0 : w.cell? ⟨g, 0, none⟩ = some (.string ⟨s.rest.toArray⟩) := h.cell 0
  clear h
  go_enter Try.func38, Try.ntmps38
  go_wp2
  go_ret
  exact ⟨rfl, rfl⟩

set_option maxHeartbeats 1000000 in
set_option maxRecDepth 100000 in
/-- Done. -/
theorem Done_any (g : Nat) (s : St) (w : World) (h : Rd w g s) :
    Calls Try.prog 40 #[.pointer (some ⟨g, 0, none⟩)] w fun e w' => e = .returned (.bool (!s.bad && s.rest.isEmpty)) ∧ w = w' := by
  have c0 : w.cell? ⟨g, 0, none⟩ = some (.string ⟨s.rest.toArray⟩) := h.cell 0
  have c1 : w.cell? ⟨g, 1, none⟩ = some (.bool s.bad) := h.cell 1
  clear h
  obtain ⟨r, b⟩ := s
  cases b
  · cases r
    · go_enter Try.func40, Try.ntmps40
      go_wp2
      go_ret
      exact ⟨rfl, rfl⟩
    · go_enter Try.func40, Try.ntmps40
      go_wp2
      go_ret
      exact ⟨rfl, rfl⟩
  · go_enter Try.func40, Try.ntmps40
    go_wp2
    go_ret
    exact ⟨rfl, rfl⟩

set_option maxHeartbeats 1000000 in
set_option maxRecDepth 100000 in
/-- Open. -/
theorem Open_any (l : List UInt8) (w : World) :
    Calls Try.prog 23 #[str l] w fun e w' => e = .returned (.pointer (some ⟨w.heap.size, 0, none⟩)) ∧ Rd w' w.heap.size ⟨l, false⟩ ∧ Below w.heap.size w w' := by
  unfold str
  go_enter Try.func23, Try.ntmps23
  go_wp2
  go_ret
  exact ⟨rfl, Blk.new w _ _, (Below.refl _ _).alloc (Nat.le_refl _) _⟩

set_option maxHeartbeats 2000000 in
set_option maxRecDepth 100000 in
/-- Text. -/
theorem rText_any (g : Nat) (s : St) (w : World) (h : Rd w g s) (hl : s.rest.length ≤ 70368744177664) :
    Calls Try.prog 30 #[.pointer (some ⟨g, 0, none⟩)] w fun e w' => e = .returned (str (rText s).1) ∧ RdTo w w' g (rText s).2 := by
  have HN := Lib.hid (rNum_any g s w h hl)
  have hlt := rNum_lt s
  have hle := rNum_rest_le s
  clear h
  unfold rText str
  generalize rNum s = y at HN hlt hle
  obtain ⟨n, l, bad⟩ := y
  have h1 : (n : Int) ≤ 9223372036854775807 := by simp only at hlt; omega
  simp only at hle
  clear hlt
  by_cases hn : n ≤ l.length
  · simp only [if_pos hn]
    go_enter Try.func30, Try.ntmps30
    go_wp2_with (go_at_call 26; refine (HN.out).mono ?_; rintro e w1 ⟨rfl, hto⟩; have c0 : w1.cell? ⟨g, 0, none⟩ = some (.string ⟨l.toArray⟩) := hto.rd.cell 0; have f0 := Blk.frozen hto.rd 0; have HT := Lib.hid hto; clear hto)
    go_ret
    exact ⟨by rw [extract_to]; rfl, RdTo.storeB (s := ⟨l, bad⟩) HT.out (extract_from l _)⟩
  · simp only [if_neg hn]
    go_enter Try.func30, Try.ntmps30
    go_wp2_with (first | (go_at_call 26; refine (HN.out).mono ?_; rintro e w1 ⟨rfl, hto⟩; have c0 : w1.cell? ⟨g, 0, none⟩ = some (.string ⟨l.toArray⟩) := hto.rd.cell 0; have HT := Lib.hid hto; clear hto; have HF := Lib.hid (fail_any g _ w1 HT.out.rd)) | (go_at_call 50; refine (HF.out).mono ?_; rintro e w2 ⟨rfl, hto2⟩))
    go_ret
    exact ⟨rfl, HT.out.trans hto2⟩

end Go.Proofs.Ytcamfdmmcbimfaa.Q
