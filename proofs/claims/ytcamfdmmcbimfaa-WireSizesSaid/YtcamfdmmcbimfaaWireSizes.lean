/-
  WireSizes: for every int, the encoding as a number has one byte for each 7 bits, at least one, and that as an int one for each 7 bits of twice its absolute value; all bytes but the last one are at least 128, and the last one is 0 only if it is alone. No condition.
-/
import Derived.Test.YtcamfdmmcbimfaaSmall
import Derived.ProofKit
import Derived.OpenShut
import Derived.ShutString
import Derived.ChangeOld
namespace Go.Proofs.Ytcamfdmmcbimfaa.wireSizes
open Go.ChangeShapes Go.WideShapes Go.ChangeAt Go.RowKit
open Go.ChangeMaps (open_string shut_string)

theorem own : ownKnob Try.prog.godebug = none := by kernel_rfl

/-- The absolute value, as the statements take it. -/
def absOf (n : Int) : Nat := if n < 0 then (-n - 1).toNat else n.toNat
theorem absOf_le (n : Int) (h : I64 n) : (absOf n : Int) ≤ 9223372036854775807 := by
  obtain ⟨h1, h2⟩ := h
  unfold absOf
  split <;> omega

set_option maxRecDepth 100000 in
theorem number_abs (n : Int) (h : I64 n) (w : World) : Calls Try.prog 21 #[.int .i64 n] w fun e w' => e = .returned (.int .i64 (absOf n)) ∧ w = w' := by
  obtain ⟨h1, h2⟩ := h
  by_cases hn : n < 0
  · have e1 : ((absOf n : Nat) : Int) = -(n + 1) := by unfold absOf; rw [if_pos hn]; omega
    rw [e1]
    clear e1
    go_enter Try.func21, Try.ntmps21
    go_wp2
    go_ret
    exact ⟨rfl, rfl⟩
  · have e1 : ((absOf n : Nat) : Int) = n := by unfold absOf; rw [if_neg hn]; omega
    rw [e1]
    clear e1
    go_enter Try.func21, Try.ntmps21
    go_wp2
    go_ret
    exact ⟨rfl, rfl⟩

/-! ### The plain law -/
theorem len_div (m : Nat) (h : 128 ≤ m) : (Lib.uvarint m).length = (Lib.uvarint (m / 128)).length + 1 := by rw [Lib.uvarint_big h]; simp
theorem len_small (m : Nat) (h : m < 128) : (Lib.uvarint m).length = 1 := by rw [Lib.uvarint_small h]; rfl
theorem len_odd (k : Nat) : (Lib.uvarint (2 * k + 1)).length = (Lib.uvarint (2 * k)).length := by
  by_cases h : 2 * k < 128
  · rw [len_small _ h, len_small _ (by omega)]
  · rw [len_div _ (by omega), len_div (2 * k) (by omega), show (2 * k + 1) / 128 = 2 * k / 128 by omega]
theorem len_two (k : Nat) (h : 64 ≤ k) : (Lib.uvarint (2 * k)).length = (Lib.uvarint (2 * (k / 128))).length + 1 := by
  rw [len_div _ (by omega)]
  by_cases hb : 2 * k / 128 = 2 * (k / 128)
  · rw [hb]
  · rw [show 2 * k / 128 = 2 * (k / 128) + 1 by omega, len_odd]

/-- What the statement asks of each byte. -/
def ByteOk (l : List UInt8) (i : Nat) (b : UInt8) : Prop := (i + 1 = l.length → b.toNat < 128 ∧ (b.toNat = 0 → l.length ≤ 1)) ∧ (i + 1 ≠ l.length → 128 ≤ b.toNat)

theorem bytes_ok : ∀ (f m : Nat), m < 2 ^ f → ∀ (i : Nat) (h : i < (Lib.uvarint m).length), ByteOk (Lib.uvarint m) i ((Lib.uvarint m)[i]'h)
  | 0, m, hm, i, h => by
    have : m = 0 := by simpa using hm
    subst this
    rw [len_small 0 (by decide)] at h
    obtain rfl : i = 0 := by omega
    refine ⟨fun _ => ⟨?_, fun _ => ?_⟩, fun hh => absurd (len_small 0 (by decide)).symm hh⟩
    · simp [Lib.uvarint_small]
    · rw [len_small 0 (by decide)]; exact Nat.le_refl _
  | f + 1, m, hm, i, h => by
    by_cases hs : m < 128
    · have hl := len_small m hs
      rw [hl] at h
      obtain rfl : i = 0 := by omega
      refine ⟨fun _ => ⟨?_, fun _ => by rw [hl]; exact Nat.le_refl _⟩, fun hh => absurd hl.symm hh⟩
      simp only [Lib.uvarint_small hs, List.getElem_cons_zero]
      rw [toUInt8_toNat' (by omega)]
      exact hs
    · have hl := len_div m (by omega)
      have hb := Lib.uvarint_big (x := m) (by omega)
      cases i with
      | zero =>
        have hp := Lib.uvarint_pos (m / 128)
        refine ⟨fun hh => by omega, fun _ => ?_⟩
        simp only [hb, List.getElem_cons_zero]
        rw [toUInt8_toNat' (by omega)]
        omega
      | succ j =>
        have hj : j < (Lib.uvarint (m / 128)).length := by omega
        have ih := bytes_ok f (m / 128) (by rw [Nat.pow_succ] at hm; omega) j hj
        have e : (Lib.uvarint m)[j + 1]'h = (Lib.uvarint (m / 128))[j]'hj := by simp only [hb, List.getElem_cons_succ]
        rw [e]
        refine ⟨fun hh => ?_, fun hh => ih.2 (by omega)⟩
        have h1 := ih.1 (by omega)
        refine ⟨h1.1, fun h0 => ?_⟩
        have h2 := h1.2 h0
        have hp := Lib.uvarint_pos (m / 128)
        obtain rfl : j = 0 := by omega
        exfalso
        have hlt : m / 128 < 128 := by
          rcases Nat.lt_or_ge (m / 128) 128 with h3 | h3
          · exact h3
          · have h4 := len_div _ h3
            have h5 := Lib.uvarint_pos (m / 128 / 128)
            omega
        simp only [Lib.uvarint_small hlt, List.getElem_cons_zero] at h0
        rw [toUInt8_toNat' (by omega)] at h0
        omega

set_option maxHeartbeats 4000000 in
set_option maxRecDepth 100000 in
theorem walk (n : Int) (w : World) (hwf : (Lit.int .i64 n).wf = true) :
    Calls Try.prog 4 #[.int .i64 n] w fun e w' => e = .returned (.bool true) ∧ Below w.heap.size w w' := by
  have hI : I64 n := by
    simp [Lit.wf, IntKind.min, IntKind.max, IntKind.bits, IntKind.signed] at hwf
    exact hwf
  clear hwf
  have hm := absOf_le n hI
  have HA := Lib.hid (number_abs n hI)
  clear hI
  generalize absOf n = m at hm HA
  have HL := Lib.hid (bytes_ok 64 m (by omega))
  have hN : wNum (m : Int) = Lib.uvarint m := by
    unfold wNum
    rw [if_neg (by omega)]
    rfl
  have hN1 : wNum (-(m : Int) - 1) = [] := by
    unfold wNum
    rw [if_pos (by omega)]
  have hI0 : wInt (m : Int) = Lib.uvarint (2 * m) := by
    unfold wInt Lib.zigzag
    rw [if_pos (by omega)]
    congr 1
  have hI1 : wInt (-(m : Int) - 1) = Lib.uvarint (2 * m + 1) := by
    unfold wInt Lib.zigzag
    rw [if_neg (by omega)]
    congr 1
    omega
  have C0 := Num_any (m : Int) ⟨by omega, by omega⟩
  have C1 := Num_any (-(m : Int) - 1) ⟨by omega, by omega⟩
  have C2 := Int_any (m : Int) ⟨by omega, by omega⟩
  have C3 := Int_any (-(m : Int) - 1) ⟨by omega, by omega⟩
  rw [hN] at C0
  rw [hN1] at C1
  rw [hI0] at C2
  rw [hI1] at C3
  clear hN hN1 hI0 hI1
  unfold str at C0 C1 C2 C3
  have H0 := Lib.hid C0
  have H1 := Lib.hid C1
  have H2 := Lib.hid C2
  have H3 := Lib.hid C3
  clear C0 C1 C2 C3
  have hlen := Lib.uvarint_length64 (x := m) (by omega)
  have hpos := Lib.uvarint_pos m
  go_enter Try.func4, Try.ntmps4
  go_wp2_with fail
  refine (small_any w).mono ?_
  rintro e w1 ⟨rfl, hb1⟩
  go_wp2_with fail
  refine (HA.out _).mono ?_
  rintro e w' ⟨rfl, rfl⟩
  go_wp2_with fail
  go_loop [5, 6] (fun vs vk => ∃ s k : Nat, vs = .int .i64 s ∧ vk = .int .i64 k ∧ (k : Int) ≤ 9223372036854775807 ∧ 1 ≤ s ∧ s ≤ 10 ∧ Hid (s + (Lib.uvarint k).length = (Lib.uvarint m).length + 1)) (fun _ vk => (intOf vk).toNat)
  case atStart => exact ⟨1, m, rfl, rfl, hm, by omega, by omega, Nat.add_comm _ _⟩
  case round =>
    obtain ⟨s, k, rfl, rfl, hk, hs1, hs10, HS⟩ := hrel
    by_cases hlt : 128 ≤ k
    · have hd := len_div k hlt
      have hp := Lib.uvarint_pos (k / 128)
      have hs9 : s + 1 ≤ 10 := by have := HS.out; omega
      have HS' := Lib.hid (show s + 1 + (Lib.uvarint (k / 128)).length = (Lib.uvarint m).length + 1 by have := HS.out; omega)
      clear hd hp
      go_wp2
      go_round
      case rel => exact ⟨s + 1, k / 128, by go_num, by go_num, by omega, by omega, by omega, HS'.out⟩
      case measure => simp [intOf]; omega
    · have hsl := len_small k (by omega)
      have hsm : s = (Lib.uvarint m).length := by have := HS.out; omega
      subst hsm
      clear hsl HS
      go_wp2_with fail
      refine (H0.out _).mono ?_
      rintro e w2 ⟨rfl, hb2⟩
      have hb12 : Below w.heap.size w w2 := hb1.trans (hb2.mono hb1.size)
      clear hb1 hb2
      go_wp2_with fail
      go_loop [8] (fun vi => ∃ i : Nat, vi = .int .i64 i ∧ i ≤ (Lib.uvarint m).length) (fun vi => (Lib.uvarint m).length - (intOf vi).toNat)
      case atStart => exact ⟨0, rfl, Nat.zero_le _⟩
      case round =>
        obtain ⟨i, rfl, hi⟩ := hrel
        by_cases hil : i < (Lib.uvarint m).length
        · have hok := HL.out i hil
          have hks : i < (ByteArray.mk (Lib.uvarint m).toArray).size := hil
          have hok' : ByteOk (Lib.uvarint m) i ((ByteArray.mk (Lib.uvarint m).toArray)[i]'hks) := hok
          have hb256 : ((ByteArray.mk (Lib.uvarint m).toArray)[i]'hks).toNat < 256 := ((Lib.uvarint m)[i]'hil).toNat_lt
          clear hok
          unfold ByteOk at hok'
          by_cases hla : (Lib.uvarint m).length ≤ i + 1
          · have h1 := (hok'.1 (by omega)).1
            have h2 := (hok'.1 (by omega)).2
            clear hok'
            have hbl : ((i : Int) + 1 == ((Lib.uvarint m).length : Int)) = true := beq_iff_eq.2 (by omega)
            have hbd : decide ((128 : Int) ≤ (((ByteArray.mk (Lib.uvarint m).toArray)[i]'hks).toNat : Int)) = false := by simp; omega
            by_cases h0 : ((ByteArray.mk (Lib.uvarint m).toArray)[i]'hks).toNat < 1
            · have h3 := h2 (by omega)
              clear h2
              go_wp2
              exact ⟨⟨i + 1, by go_num, by omega⟩, by simp [intOf]; omega⟩
            · clear h2
              go_wp2
              exact ⟨⟨i + 1, by go_num, by omega⟩, by simp [intOf]; omega⟩
          · have h1 := hok'.2 (by omega)
            clear hok'
            have hbl : ((i : Int) + 1 == ((Lib.uvarint m).length : Int)) = false := beq_eq_false_iff_ne.2 (by omega)
            have hbd : decide ((128 : Int) ≤ (((ByteArray.mk (Lib.uvarint m).toArray)[i]'hks).toNat : Int)) = true := by simp; omega
            go_wp2
            exact ⟨⟨i + 1, by go_num, by omega⟩, by simp [intOf]; omega⟩
        · go_wp2_with fail
          go_loop [10, 11] (fun vs vk => ∃ s k : Nat, vs = .int .i64 s ∧ vk = .int .i64 k ∧ (k : Int) ≤ 9223372036854775807 ∧ 1 ≤ s ∧ s ≤ 10 ∧ Hid (s + (Lib.uvarint (2 * k)).length = (Lib.uvarint (2 * m)).length + 1)) (fun _ vk => (intOf vk).toNat)
          case atStart => exact ⟨1, m, rfl, rfl, hm, by omega, by omega, Nat.add_comm _ _⟩
          case round =>
            obtain ⟨s, k, rfl, rfl, hk, hs1, hs10, HS⟩ := hrel
            have hlen2 := Lib.uvarint_length64 (x := 2 * m) (by omega)
            by_cases hlt : 64 ≤ k
            · have hd := len_two k hlt
              have hp := Lib.uvarint_pos (2 * (k / 128))
              have hs9 : s + 1 ≤ 10 := by have := HS.out; omega
              have HS' := Lib.hid (show s + 1 + (Lib.uvarint (2 * (k / 128))).length = (Lib.uvarint (2 * m)).length + 1 by have := HS.out; omega)
              clear hd hp
              go_wp2
              go_round
              case rel => exact ⟨s + 1, k / 128, by go_num, by go_num, by omega, by omega, by omega, HS'.out⟩
              case measure => simp [intOf]; omega
            · have hsl := len_small (2 * k) (by omega)
              have hsm : s = (Lib.uvarint (2 * m)).length := by have := HS.out; omega
              have hodd := Lib.hid (len_odd m)
              subst hsm
              clear hsl HS
              go_wp2_with fail
              refine (H2.out _).mono ?_
              rintro e w3 ⟨rfl, hb3⟩
              go_wp2_with fail
              refine (H3.out _).mono ?_
              rintro e w4 ⟨rfl, hb4⟩
              have ho := hodd.out
              go_wp2_with fail
              refine (H1.out _).mono ?_
              rintro e w5 ⟨rfl, hb5⟩
              go_wp2
              go_ret
              have b3 := hb12.trans (hb3.mono hb12.size)
              have b4 := b3.trans (hb4.mono b3.size)
              exact ⟨rfl, b4.trans (hb5.mono b4.size)⟩

set_option maxRecDepth 100000 in
theorem lifted (os : Os) (started : os.Started) (H : Type) (enc : TypeId × Value → H) :
    ReturnsInHanded {} Try.checked os 4 .any (Rows.wireSizesSpec.pre6 enc Try.prog Try.f4 Rows.wireSizesRow.domain false) (Rows.wireSizesSpec.post enc Try.prog Try.f4 false true false false) := by
  refine returnsInHanded_of_change (C := Try.checked) own started (by kernel_rfl) Try.func4
    (ChangeSpec.witness6 (enc := enc) (C := Try.checked) false ⟨#[], #[.int .i64 0], []⟩ 8 (by kernel_rfl) (by kernel_rfl) (by kernel_rfl) (by kernel_rfl)) ?_
  intro W base args ds gs before hval0 hW hcnd _
  have hval : ∀ (j : Nat) t v, Try.f4.params[j]? = some t → args[j]? = some v → Value.okWide Try.prog W .any base t v := hval0
  have hW' := hW
  obtain ⟨p, q, hA0, hV, rfl, hfz, hnd⟩ := hW
  have hA : DataW.TrodAll enc Try.prog W 0 (fun _ => true) true Try.f4.params.toList args.toList ds p := hA0
  rw [Try.params4] at hA hval
  obtain ⟨v0, vs0, d0, ds0, p0, q0, hargs, rfl, rfl, h0, r0⟩ := trodAll_cons hA
  obtain ⟨rfl, rfl, rfl⟩ := trodAll_nil r0
  obtain rfl : args = #[v0] := by cases args; simp_all
  obtain ⟨rfl, rfl⟩ := trodVars_none hV
  obtain ⟨a0, rfl, rfl, rfl, w0⟩ := open_int Try.underlying3 (hval 0 3 v0 rfl rfl) h0
  clear hA0 hval0
  refine (walk a0 W w0).mono fun e W' ⟨he, bel⟩ => ?_
  subst he
  exact ⟨_, rfl, _, _, _, [], _, [], hW', trodAll_mk1 (shut_bool Try.underlying4 _), (trodAll_cons_mk (shut_int Try.underlying3 w0) trodAll_mk0), rfl, bel.frame _, fun h => by cases h⟩

theorem over : Rows.wireSizesRow.holds Try.pinned (OpenSpec.ofChange Rows.wireSizesSpec) :=
  OpenClaim.holds_of_wide 4 Try.f4 rfl rfl rfl rfl rfl rfl rfl ⟨rfl, rfl, rfl, rfl, rfl⟩ rfl rfl rfl rfl rfl (by kernel_rfl) Try.func4 (by kernel_rfl)
    (of_decide_eq_true (by kernel_rfl)) (by unfold Func.isWrapper; first | (rw [if_pos (by decide +kernel)]; kernel_rfl) | (rw [if_neg (by decide +kernel)]; exact ⟨rfl, rfl⟩))
    (fun os started H enc _ => lifted os started H enc)

/-- The statement. -/
theorem proved : Rows.WireSizesSaid := over
#print axioms proved
end Go.Proofs.Ytcamfdmmcbimfaa.wireSizes
