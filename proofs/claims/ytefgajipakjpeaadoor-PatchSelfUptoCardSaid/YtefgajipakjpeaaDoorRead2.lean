/-
  Contracts of package wire's Reader, continued: Num, Int, Text, Left, Done and Open. Conditions: what is left is at most 2^46 bytes.
-/
import Derived.Test.YtefgajipakjpeaaDoorRead
namespace Go.Proofs.YtefgajipakjpeaaDoor
open Go.RowKit

theorem xor_i64_comm (a b : Int) : bits .xor .i64 a b = bits .xor .i64 b a := by
  show IntKind.i64.wrap ((BitVec.ofInt 64 a ^^^ BitVec.ofInt 64 b).toNat : Int) = IntKind.i64.wrap ((BitVec.ofInt 64 b ^^^ BitVec.ofInt 64 a).toNat : Int)
  rw [BitVec.xor_comm]
theorem xor_i64_zero (a : Nat) (h : a < 9223372036854775808) : bits .xor .i64 (a : Int) 0 = (a : Int) := by
  show IntKind.i64.wrap ((BitVec.ofInt 64 (a : Int) ^^^ BitVec.ofInt 64 0).toNat : Int) = _
  have h0 : (BitVec.ofInt 64 0) = 0#64 := by decide
  have h1 : (BitVec.ofInt 64 (a : Int)).toNat = a := by
    rw [BitVec.ofInt_natCast, BitVec.toNat_ofNat]; exact Nat.mod_eq_of_lt (by omega)
  rw [h0, BitVec.xor_zero, h1, IntKind.wrap_i64]
  omega
/-- 'int(m>>1) ^ -int(m&1)'. -/
theorem unzz_go (m : Nat) (h : (m : Int) ≤ 18446744073709551615) : bits .xor .i64 ((m : Int) / 2) (wrap64 (-wrap64 (bits .and .u64 (m : Int) 1))) = Lib.unzigzag m := by
  rw [Lib.u64_and1 _ (by omega) (by omega), IntWalk.wrap64_in ((m : Int) % 2) (by omega), IntWalk.wrap64_in _ (by omega)]
  have e : (m : Int) / 2 = ((m / 2 : Nat) : Int) := by omega
  rw [e]
  unfold Lib.unzigzag
  by_cases h2 : m % 2 = 0
  · have e2 : -((m : Int) % 2) = 0 := by omega
    rw [e2, if_pos h2, xor_i64_zero _ (by omega)]
  · have e2 : -((m : Int) % 2) = -1 := by omega
    rw [e2, if_neg h2, xor_i64_comm, Lib.i64_not _ (by omega)]

theorem rU_rest_le (s : St) : (rU s).2.rest.length ≤ s.rest.length := by
  unfold rU
  cases h : dec s.rest with
  | none => simp
  | some x =>
    obtain ⟨m, r⟩ := x
    have := ((dec_some _ _ _).1 h).1
    rw [this]
    simp
theorem rNum_rest_le (s : St) : (rNum s).2.rest.length ≤ s.rest.length := by
  unfold rNum
  split
  · exact rU_rest_le s
  · simp
theorem rInt_rest_le (s : St) : (rInt s).2.rest.length ≤ s.rest.length := rU_rest_le s
theorem rText_rest_le (s : St) : (rText s).2.rest.length ≤ s.rest.length := by
  unfold rText
  have := rNum_rest_le s
  split
  · simp; omega
  · simp

set_option maxHeartbeats 1000000 in
set_option maxRecDepth 100000 in
/-- Num. -/
theorem rNum_any (g : Nat) (s : St) (w : World) (h : Rd w g s) (hl : s.rest.length ≤ 70368744177664) :
    Calls Tryd.prog 28 #[.pointer (some ⟨g, 0, none⟩)] w fun e w' => e = .returned (.int .i64 (rNum s).1) ∧ RdTo w w' g (rNum s).2 := by
  have HN := Lib.hid (number_any g s w h hl)
  have hlt := rU_lt s
  clear h
  by_cases hm : (rU s).1 < 2 ^ 63
  · have e1 : rNum s = rU s := by simp only [rNum, if_pos hm]
    rw [e1]
    clear e1
    generalize rU s = y at HN hlt hm
    obtain ⟨m, t⟩ := y
    have h1 : (m : Int) ≤ 9223372036854775807 := by simp only at hm; omega
    clear hm hlt
    go_enter Tryd.func28, Tryd.ntmps28
    go_wp2_with (go_at_call 46; refine (HN.out).mono ?_; rintro e w1 ⟨rfl, hto⟩)
    go_ret
    exact ⟨rfl, hto⟩
  · have e1 : rNum s = (0, ⟨[], true⟩) := by simp only [rNum, if_neg hm]
    rw [e1]
    clear e1
    generalize rU s = y at HN hlt hm
    obtain ⟨m, t⟩ := y
    have h1 : 9223372036854775807 < (m : Int) := by simp only at hm; omega
    have h2 : (m : Int) ≤ 18446744073709551615 := by simp only at hlt; omega
    clear hm hlt
    go_enter Tryd.func28, Tryd.ntmps28
    go_wp2_with (first | (go_at_call 46; refine (HN.out).mono ?_; rintro e w1 ⟨rfl, hto⟩; have HF := Lib.hid (fail_any g t w1 hto.rd)) | (go_at_call 45; refine (HF.out).mono ?_; rintro e w2 ⟨rfl, hto2⟩))
    go_ret
    exact ⟨rfl, hto.trans hto2⟩

set_option maxHeartbeats 1000000 in
set_option maxRecDepth 100000 in
/-- Int. -/
theorem rInt_any (g : Nat) (s : St) (w : World) (h : Rd w g s) (hl : s.rest.length ≤ 70368744177664) :
    Calls Tryd.prog 30 #[.pointer (some ⟨g, 0, none⟩)] w fun e w' => e = .returned (.int .i64 (rInt s).1) ∧ RdTo w w' g (rInt s).2 := by
  have HN := Lib.hid (number_any g s w h hl)
  have hlt := rU_lt s
  clear h
  unfold rInt
  generalize rU s = y at HN hlt
  obtain ⟨m, t⟩ := y
  have h1 : (m : Int) ≤ 18446744073709551615 := by simp only at hlt; omega
  clear hlt
  go_enter Tryd.func30, Tryd.ntmps30
  go_wp2_with (go_at_call 46; refine (HN.out).mono ?_; rintro e w1 ⟨rfl, hto⟩)
  go_ret
  exact ⟨congrArg (fun x => Ending.returned (.int .i64 x)) (unzz_go m h1), hto⟩

set_option maxHeartbeats 1000000 in
set_option maxRecDepth 100000 in
/-- Left. -/
theorem Left_any (g : Nat) (s : St) (w : World) (h : Rd w g s) :
    Calls Tryd.prog 29 #[.pointer (some ⟨g, 0, none⟩)] w fun e w' => e = .returned (.int .i64 s.rest.length) ∧ w = w' := by
  have c0 : w.cell? ⟨g, 0, none⟩ = some (.string ⟨s.rest.toArray⟩) := h.cell 0
  clear h
  go_enter Tryd.func29, Tryd.ntmps29
  go_wp2
  go_ret
  exact ⟨rfl, rfl⟩

set_option maxHeartbeats 1000000 in
set_option maxRecDepth 100000 in
/-- Done. -/
theorem Done_any (g : Nat) (s : St) (w : World) (h : Rd w g s) :
    Calls Tryd.prog 31 #[.pointer (some ⟨g, 0, none⟩)] w fun e w' => e = .returned (.bool (!s.bad && s.rest.isEmpty)) ∧ w = w' := by
  have c0 : w.cell? ⟨g, 0, none⟩ = some (.string ⟨s.rest.toArray⟩) := h.cell 0
  have c1 : w.cell? ⟨g, 1, none⟩ = some (.bool s.bad) := h.cell 1
  clear h
  obtain ⟨r, b⟩ := s
  cases b
  · cases r
    · go_enter Tryd.func31, Tryd.ntmps31
      go_wp2
      go_ret
      exact ⟨rfl, rfl⟩
    · go_enter Tryd.func31, Tryd.ntmps31
      go_wp2
      go_ret
      exact ⟨rfl, rfl⟩
  · go_enter Tryd.func31, Tryd.ntmps31
    go_wp2
    go_ret
    exact ⟨rfl, rfl⟩

set_option maxHeartbeats 1000000 in
set_option maxRecDepth 100000 in
/-- Open. -/
theorem Open_any (l : List UInt8) (w : World) :
    Calls Tryd.prog 26 #[str l] w fun e w' => e = .returned (.pointer (some ⟨w.heap.size, 0, none⟩)) ∧ Rd w' w.heap.size ⟨l, false⟩ ∧ Below w.heap.size w w' := by
  unfold str
  go_enter Tryd.func26, Tryd.ntmps26
  go_wp2
  go_ret
  exact ⟨rfl, Blk.new w _ _, (Below.refl _ _).alloc (Nat.le_refl _) _⟩

set_option maxHeartbeats 2000000 in
set_option maxRecDepth 100000 in
/-- Text. -/
theorem rText_any (g : Nat) (s : St) (w : World) (h : Rd w g s) (hl : s.rest.length ≤ 70368744177664) :
    Calls Tryd.prog 27 #[.pointer (some ⟨g, 0, none⟩)] w fun e w' => e = .returned (str (rText s).1) ∧ RdTo w w' g (rText s).2 := by
  have HN := Lib.hid (rNum_any g s w h hl)
  have hlt := rNum_lt s
  have hle := rNum_rest_le s
  clear h
  unfold rText str
  generalize rNum s = y at HN hlt hle
  obtain ⟨n, l, bad⟩ := y
  have h1 : (n : Int) ≤ 9223372036854775807 := by simp only at hlt; omega
  simp only at hle
  clear hlt
  by_cases hn : n ≤ l.length
  · simp only [if_pos hn]
    go_enter Tryd.func27, Tryd.ntmps27
    go_wp2_with (go_at_call 28; refine (HN.out).mono ?_; rintro e w1 ⟨rfl, hto⟩; have c0 : w1.cell? ⟨g, 0, none⟩ = some (.string ⟨l.toArray⟩) := hto.rd.cell 0; have f0 := Blk.frozen hto.rd 0; have HT := Lib.hid hto; clear hto)
    go_ret
    exact ⟨by rw [extract_to]; rfl, RdTo.storeB (s := ⟨l, bad⟩) HT.out (extract_from l _)⟩
  · simp only [if_neg hn]
    go_enter Tryd.func27, Tryd.ntmps27
    go_wp2_with (first | (go_at_call 28; refine (HN.out).mono ?_; rintro e w1 ⟨rfl, hto⟩; have c0 : w1.cell? ⟨g, 0, none⟩ = some (.string ⟨l.toArray⟩) := hto.rd.cell 0; have HT := Lib.hid hto; clear hto; have HF := Lib.hid (fail_any g _ w1 HT.out.rd)) | (go_at_call 45; refine (HF.out).mono ?_; rintro e w2 ⟨rfl, hto2⟩))
    go_ret
    exact ⟨rfl, HT.out.trans hto2⟩

end Go.Proofs.YtefgajipakjpeaaDoor
