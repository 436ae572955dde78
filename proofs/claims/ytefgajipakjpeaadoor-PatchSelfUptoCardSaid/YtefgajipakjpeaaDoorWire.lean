/-
  Contracts of package wire's writers: Num, Int and Text return the bytes that Plain says, at every int and at every string of at most 2^46 bytes; no memory that was there turns.
-/
import Derived.Test.YtefgajipakjpeaaDoorBuild
import Derived.Test.YtefgajipakjpeaaDoorPlain
import Derived.Lib.VarintMem
import Derived.Lib.VarintBits
import Derived.Lib.Zigzag
import Derived.Lib.Strings
import Derived.Laws.BytesArg
import Derived.Lib.Small
namespace Go.Proofs.YtefgajipakjpeaaDoor
open Go.RowKit

/-- A string of Go with these bytes. -/
def str (l : List UInt8) : Value := .string ⟨l.toArray⟩

/-- '[]byte' to string, of an owned row. -/
theorem conv_own {w : World} {B n : Nat} {v : Value} {l : List UInt8} (h : w.ownsRow B 5 1 v n (Lib.byteCells l)) : (convert 61 9 v).run Tryd.prog w = .ok (.string ⟨l.toArray⟩) w := by
  have hn : l.length = n := by have := h.1; simpa [Lib.byteCells_length] using this
  rcases h.2 with ⟨rfl, h0⟩ | ⟨g, cap, cur, rfl, _⟩
  · have hl : l = [] := List.eq_nil_of_length_eq_zero (by omega)
    subst hl
    rw [run_convert_bytes_nil w 61 5 Tryd.underlying61 Tryd.underlying5 0 0 9 Tryd.underlying9]
    rfl
  · rw [run_convert_bytes_arg w 61 5 Tryd.underlying61 Tryd.underlying5 g 0 n cap (l.map fun b => (b.toNat : Int)) (by simpa using hn) ?_ 9 Tryd.underlying9]
    · congr 2
      simp [strOfNums, List.map_map, Function.comp_def]
    · intro i hi
      have hb : l[i]? = some (l[i]'(by omega)) := List.getElem?_eq_getElem (by omega)
      have := h.cells (g := g) rfl i (.int .u8 (l[i]'(by omega)).toNat) (by simp [Lib.byteCells, hb])
      have e : (⟨g, 0, none⟩ : Addr).add i = ⟨g, 0 + i, none⟩ := by unfold Addr.add; split <;> simp_all
      rw [← e, this]
      simp [List.getD, hb]

set_option maxHeartbeats 4000000 in
set_option maxRecDepth 100000 in
/-- put. -/
theorem put_any (B n x : Nat) (hx : x < 18446744073709551616) (sv : Value) (xs : List Value) (w : World) (hown : w.ownsRow B 5 1 sv n xs) (hBw : B ≤ w.heap.size) (hlim : n + 10 ≤ 140737488355328) :
    Calls Tryd.prog 44 #[sv, .int .u64 x] w fun e w' => ∃ v', e = .returned v' ∧ w'.ownsRow B 5 1 v' (n + (Lib.uvarint x).length) (xs ++ Lib.byteCells (Lib.uvarint x)) ∧ Below B w w' := by
  obtain ⟨i0, hi, hz0, hz1, hz2⟩ := info_parts byteInfo
  have hlen := Lib.uvarint_length64 hx
  go_enter Tryd.func44, Tryd.ntmps44
  go_wp2
  go_loopw [0, 1] (fun vb vx wr => ∃ (y : Nat) (pre : List UInt8), vx = .int .u64 y ∧ y ≤ x ∧ Lib.uvarint x = pre ++ Lib.uvarint y ∧ wr.ownsRow B 5 1 vb (n + pre.length) (xs ++ Lib.byteCells pre) ∧ Below B w wr)
    (fun _ vx _ => (intOf vx).toNat)
  case atStart => exact ⟨x, [], rfl, Nat.le_refl _, rfl, by simpa [Lib.byteCells] using hown, Below.refl _ _⟩
  case round =>
    obtain ⟨y, pre, rfl, hy, hsplit, hown1, hnx⟩ := hrel
    have hpl : pre.length + (Lib.uvarint y).length ≤ 10 := by
      have h2 := congrArg List.length hsplit
      rw [List.length_append] at h2
      omega
    have hyp := Lib.uvarint_pos y
    by_cases h128 : 128 ≤ y
    · have hor : bits .or .u8 ((y : Int) % 128) 128 = ((y % 128 + 128 : Nat) : Int) := by
        rw [Lib.u8_or128_any _ (by omega) (by omega)]
        omega
      go_wp2_with (at_builtin; refine wpList_append_own _ rfl _ _ 61 rfl B 5 i0 (.int .u8 0) 1 1 Tryd.underlying61 hi hz0 hz1 hz2 rfl (by decide) _ _ _ rfl (hown1.alloc _) ⟨wr.heap.size, 0, none⟩ 1 1 [Value.int .u8 ((y % 128 + 128 : Nat) : Int)] rfl rfl ?c1 ?c2 ?c3 ?c4 ?c5 ?_)
      case c1 =>
        intro j u hj
        match j, hj with
        | 0, hj => simp at hj; subst hj; simp [Addr.add]
      case c2 => intro u hu; simp at hu; subst hu; rfl
      case c3 => unfold maxLen; omega
      case c4 => omega
      case c5 => have := hnx.size; simp; omega
      intro v' w1 hown' hgrow _
      have hnx1 : Below B w w1 := (hnx.alloc (by have := hnx.size; omega) _).grown hgrow (by have := hnx.size; simp; omega) (fun k hk => (hown1.lt k hk).1)
      go_wp2
      go_roundw
      case rel =>
        refine ⟨y / 128, pre ++ [(y % 128 + 128).toUInt8], by go_num, by omega, by rw [hsplit, Lib.uvarint_big h128]; simp, ?_, hnx1⟩
        have ec : ((y % 128 + 128 : Nat) : Int) = (y : Int) % 128 + 128 := by omega
        rw [Lib.byteCells_snoc pre (by omega), List.length_append, List.length_singleton, ← Nat.add_assoc, ec]
        simpa using hown'
      case measure => simp [intOf]; omega
    · have hsm : Lib.uvarint y = [y.toUInt8] := Lib.uvarint_small (by omega)
      go_wp2_with (at_builtin; refine wpList_append_own _ rfl _ _ 61 rfl B 5 i0 (.int .u8 0) 1 1 Tryd.underlying61 hi hz0 hz1 hz2 rfl (by decide) _ _ _ rfl (hown1.alloc _) ⟨wr.heap.size, 0, none⟩ 1 1 [Value.int .u8 (y : Int)] rfl rfl ?c1 ?c2 ?c3 ?c4 ?c5 ?_)
      case c1 =>
        intro j u hj
        match j, hj with
        | 0, hj => simp at hj; subst hj; simp [Addr.add]
      case c2 => intro u hu; simp at hu; subst hu; rfl
      case c3 => unfold maxLen; omega
      case c4 => omega
      case c5 => have := hnx.size; simp; omega
      intro v' w1 hown' hgrow _
      have hnx1 : Below B w w1 := (hnx.alloc (by have := hnx.size; omega) _).grown hgrow (by have := hnx.size; simp; omega) (fun k hk => (hown1.lt k hk).1)
      go_wp2
      go_ret
      refine ⟨v', rfl, ?_, hnx1⟩
      rw [hsplit, hsm, Lib.byteCells_snoc pre (by omega), List.length_append, List.length_singleton, ← Nat.add_assoc]
      simpa using hown'

theorem put_nil (x : Nat) (hx : x < 18446744073709551616) (w : World) :
    Calls Tryd.prog 44 #[.slice none 0 0, .int .u64 x] w fun e w' => ∃ v', e = .returned v' ∧ w'.ownsRow w.heap.size 5 1 v' (Lib.uvarint x).length (Lib.byteCells (Lib.uvarint x)) ∧ Below w.heap.size w w' := by
  refine (put_any w.heap.size 0 x hx (.slice none 0 0) [] w (World.ownsRow_nil _ _ _ _) (Nat.le_refl _) (by omega)).mono ?_
  rintro e w' ⟨v', rfl, h1, h2⟩
  exact ⟨v', rfl, by simpa using h1, h2⟩

set_option maxHeartbeats 1000000 in
set_option maxRecDepth 100000 in
/-- Num. -/
theorem Num_any (n : Int) (h : I64 n) (w : World) : Calls Tryd.prog 23 #[.int .i64 n] w fun e w' => e = .returned (str (wNum n)) ∧ Below w.heap.size w w' := by
  obtain ⟨h1, h2⟩ := h
  by_cases hn : n < 0
  · have hs : str (wNum n) = .string ⟨#[]⟩ := by simp [wNum, hn, str]
    rw [hs]
    go_enter Tryd.func23, Tryd.ntmps23
    go_wp2
    go_ret
    exact ⟨rfl, Below.refl _ _⟩
  · obtain ⟨m, rfl⟩ := Int.eq_ofNat_of_zero_le (show 0 ≤ n by omega)
    have hs : str (wNum (m : Int)) = .string ⟨(Lib.uvarint m).toArray⟩ := by simp [wNum, hn, str]
    rw [hs]
    go_enter Tryd.func23, Tryd.ntmps23
    go_wp2_with (go_at_call 44; refine (put_nil m (by omega) _).mono ?_; rintro e w1 ⟨v', rfl, hown, hb⟩; have hcv := conv_own hown)
    go_ret
    exact ⟨rfl, hb⟩

/-- The zig-zag as the package computes it: 'uint64(n)<<1 ^ uint64(n>>63)'. -/
theorem zz_go (n : Int) (h : I64 n) : bits .xor .u64 (IntKind.u64.wrap (IntKind.u64.wrap n * 2)) (IntKind.u64.wrap (n / 9223372036854775808)) = ((Lib.zigzag n : Nat) : Int) := by
  obtain ⟨h1, h2⟩ := h
  by_cases hn : n < 0
  · rw [← Lib.zigzag_neg h1 hn]
    have e1 : IntKind.u64.wrap (n / 9223372036854775808) = ((2 ^ 64 - 1 : Nat) : Int) := by
      rw [IntKind.wrap_u64]
      omega
    have e2 : IntKind.u64.max = ((2 ^ 64 - 1 : Nat) : Int) := by decide
    have e3 : IntKind.u64.wrap (IntKind.u64.wrap n * 2) = (((2 * n + 18446744073709551616).toNat : Nat) : Int) := by
      rw [IntKind.wrap_u64, IntKind.wrap_u64]
      omega
    rw [e1, e2, e3, bits_xor_u64_nat _ _ (by omega) (by decide), bits_xor_u64_nat _ _ (by decide) (by omega), Nat.xor_comm]
  · rw [Lib.zigzag_nonneg (by omega)]
    have e1 : IntKind.u64.wrap (n / 9223372036854775808) = ((0 : Nat) : Int) := by
      rw [IntKind.wrap_u64]
      omega
    have e3 : IntKind.u64.wrap (IntKind.u64.wrap n * 2) = (((2 * n).toNat : Nat) : Int) := by
      rw [IntKind.wrap_u64, IntKind.wrap_u64]
      omega
    rw [e1, e3, bits_xor_u64_nat _ _ (by omega) (by decide), Nat.xor_zero]
    omega

set_option maxHeartbeats 1000000 in
set_option maxRecDepth 100000 in
/-- Int. -/
theorem Int_any (n : Int) (h : I64 n) (w : World) : Calls Tryd.prog 24 #[.int .i64 n] w fun e w' => e = .returned (str (wInt n)) ∧ Below w.heap.size w w' := by
  obtain ⟨h1, h2⟩ := h
  unfold wInt
  have hz := Lib.zigzag_lt h1 h2
  have HZ := Lib.hid (zz_go n ⟨h1, h2⟩)
  generalize Lib.zigzag n = z at hz HZ
  go_enter Tryd.func24, Tryd.ntmps24
  go_wp2_with fail
  rw [HZ.out]
  refine (put_nil z hz _).mono ?_
  rintro e w1 ⟨v', rfl, hown, hb⟩
  have hcv := conv_own hown
  go_wp2
  go_ret
  exact ⟨rfl, hb⟩

set_option maxHeartbeats 1000000 in
set_option maxRecDepth 100000 in
/-- Text. -/
theorem Text_any (l : List UInt8) (h : l.length ≤ 70368744177664) (w : World) : Calls Tryd.prog 22 #[str l] w fun e w' => e = .returned (str (wText l)) ∧ Below w.heap.size w w' := by
  have hlen := Lib.uvarint_length64 (x := l.length) (by omega)
  have hn : wNum (l.length : Int) = Lib.uvarint l.length := by
    unfold wNum
    rw [if_neg (by omega)]
    rfl
  have hadd : ∀ (t : TypeId) (w : World), (binOp .add t (.string ⟨(Lib.uvarint l.length).toArray⟩) (.string ⟨l.toArray⟩)).run Tryd.prog w = .ok (str (wText l)) w := by
    intro t w
    rw [binOp_string_add]
    refine (run_string_add_sum w ⟨(Lib.uvarint l.length).toArray⟩ ⟨l.toArray⟩ ?_).trans ?_
    · show (Lib.uvarint l.length).toArray.size + l.toArray.size ≤ _
      simp only [List.size_toArray]
      omega
    · rw [ByteArray.mk_append_mk]
      rfl
  unfold str
  have hc := Num_any (l.length : Int) ⟨by omega, by omega⟩
  rw [hn] at hc
  unfold str at hc hadd
  have HC := Lib.hid hc
  clear hc hn
  go_enter Tryd.func22, Tryd.ntmps22
  go_wp2_with (go_at_call 23; refine (HC.out _).mono ?_; rintro e w1 ⟨rfl, hb⟩)
  go_ret
  exact ⟨rfl, hb⟩

end Go.Proofs.YtefgajipakjpeaaDoor
