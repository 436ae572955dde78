/-
  Contracts of the reference's writers: Num, Int, Text, Nums and Texts return the bytes that Plain says. Conditions: slices of at most 2^20 elements, texts of at most 2^20 bytes.
-/
import Derived.Test.YtcamfdmmcbimfaaVals
namespace Go.Proofs.Ytcamfdmmcbimfaa
open Go.RowKit

set_option maxHeartbeats 4000000 in
set_option maxRecDepth 100000 in
theorem groups_any (x : Nat) (hx : x < 18446744073709551616) (w : World) :
    Calls Try.prog 44 #[.int .u64 x] w fun e w' => e = .returned (str (Lib.uvarint x)) ∧ Below w.heap.size w w' := by
  obtain ⟨i0, hi, hz0, hz1, hz2⟩ := info_parts byteInfo
  have hlen := Lib.uvarint_length64 hx
  go_enter Try.func44, Try.ntmps44
  go_wp2
  go_loopw [0, 3] (fun vx vb wr => ∃ (y : Nat) (pre : List UInt8), vx = .int .u64 y ∧ y ≤ x ∧ Lib.uvarint x = pre ++ Lib.uvarint y ∧ wr.ownsRow w.heap.size 5 1 vb pre.length (Lib.byteCells pre) ∧ Below w.heap.size w wr)
    (fun vx _ _ => (intOf vx).toNat)
  case atStart => exact ⟨x, [], rfl, Nat.le_refl _, rfl, World.ownsRow_nil _ _ _ _, Below.refl _ _⟩
  case round =>
    obtain ⟨y, pre, rfl, hy, hsplit, hown1, hnx⟩ := hrel
    have hpl : pre.length + (Lib.uvarint y).length ≤ 10 := by
      have h2 := congrArg List.length hsplit
      rw [List.length_append] at h2
      omega
    have hyp := Lib.uvarint_pos y
    have HSP := Lib.hid hsplit
    clear hsplit
    by_cases h128 : 128 ≤ y
    · go_wp2_with (at_builtin; refine wpList_append_own _ rfl _ _ 53 rfl w.heap.size 5 i0 (.int .u8 0) 1 1 Try.underlying53 hi hz0 hz1 hz2 rfl (by decide) _ _ _ rfl (hown1.alloc _) ⟨wr.heap.size, 0, none⟩ 1 1 [Value.int .u8 ((y : Int) % 128 + 128)] rfl rfl ?c1 ?c2 ?c3 ?c4 ?c5 ?_)
      case c1 =>
        intro j u hj
        match j, hj with
        | 0, hj => simp at hj; subst hj; simp [Addr.add]
      case c2 => intro u hu; simp at hu; subst hu; rfl
      case c3 => unfold maxLen; omega
      case c4 => omega
      case c5 => have := hnx.size; simp; omega
      intro v' w1 hown' hgrow _
      have hnx1 : Below w.heap.size w w1 := (hnx.alloc (by have := hnx.size; omega) _).grown hgrow (by have := hnx.size; simp; omega) (fun k hk => (hown1.lt k hk).1)
      go_wp2
      go_roundw
      case rel =>
        refine ⟨y / 128, pre ++ [(y % 128 + 128).toUInt8], by go_num, by omega, by rw [HSP.out, Lib.uvarint_big h128]; simp, ?_, hnx1⟩
        have ec : ((y % 128 + 128 : Nat) : Int) = (y : Int) % 128 + 128 := by omega
        rw [Lib.byteCells_snoc pre (by omega), List.length_append, List.length_singleton, ec]
        simpa using hown'
      case measure => simp [intOf]; omega
    · have hsm : Lib.uvarint y = [y.toUInt8] := Lib.uvarint_small (by omega)
      have HSM := Lib.hid hsm
      clear hsm
      go_wp2_with (at_builtin; refine wpList_append_own _ rfl _ _ 53 rfl w.heap.size 5 i0 (.int .u8 0) 1 1 Try.underlying53 hi hz0 hz1 hz2 rfl (by decide) _ _ _ rfl (hown1.alloc _) ⟨wr.heap.size, 0, none⟩ 1 1 [Value.int .u8 (y : Int)] rfl rfl ?c1 ?c2 ?c3 ?c4 ?c5 ?_)
      case c1 =>
        intro j u hj
        match j, hj with
        | 0, hj => simp at hj; subst hj; simp [Addr.add]
      case c2 => intro u hu; simp at hu; subst hu; rfl
      case c3 => unfold maxLen; omega
      case c4 => omega
      case c5 => have := hnx.size; simp; omega
      intro v' w1 hown' hgrow _
      have hnx1 : Below w.heap.size w w1 := (hnx.alloc (by have := hnx.size; omega) _).grown hgrow (by have := hnx.size; simp; omega) (fun k hk => (hown1.lt k hk).1)
      have hown2 : w1.ownsRow w.heap.size 5 1 v' (Lib.uvarint x).length (Lib.byteCells (Lib.uvarint x)) := by
        rw [HSP.out, HSM.out, Lib.byteCells_snoc pre (by omega), List.length_append, List.length_singleton]
        simpa using hown'
      have hcv := conv_own hown2
      clear hown' hown1 hown2
      go_wp2
      go_ret
      exact ⟨rfl, hnx1⟩

set_option maxHeartbeats 1000000 in
set_option maxRecDepth 100000 in
theorem refNum_any (n : Int) (h : I64 n) (w : World) : Calls Try.prog 12 #[.int .i64 n] w fun e w' => e = .returned (str (wNum n)) ∧ Below w.heap.size w w' := by
  obtain ⟨h1, h2⟩ := h
  by_cases hn : n < 0
  · have hs : str (wNum n) = .string ⟨#[]⟩ := by simp [wNum, hn, str]
    rw [hs]
    go_enter Try.func12, Try.ntmps12
    go_wp2
    go_ret
    exact ⟨rfl, Below.refl _ _⟩
  · obtain ⟨m, rfl⟩ := Int.eq_ofNat_of_zero_le (show 0 ≤ n by omega)
    have hs : str (wNum (m : Int)) = str (Lib.uvarint m) := by simp [wNum, hn]
    rw [hs]
    go_enter Try.func12, Try.ntmps12
    go_wp2_with (go_at_call 44; refine (groups_any m (by omega) _).mono ?_; rintro e w1 ⟨rfl, hb⟩)
    go_ret
    exact ⟨rfl, hb⟩

set_option maxHeartbeats 1000000 in
set_option maxRecDepth 100000 in
theorem refInt_any (n : Int) (h : I64 n) (w : World) : Calls Try.prog 14 #[.int .i64 n] w fun e w' => e = .returned (str (wInt n)) ∧ Below w.heap.size w w' := by
  obtain ⟨h1, h2⟩ := h
  unfold wInt
  have hz := Lib.zigzag_lt h1 h2
  by_cases hn : n < 0
  · have hzz : ((Lib.zigzag n : Nat) : Int) = 2 * -(n + 1) + 1 := by unfold Lib.zigzag; rw [if_neg (by omega)]; omega
    have HC := Lib.hid (groups_any (Lib.zigzag n) hz)
    rw [hzz] at HC
    clear hzz hz
    generalize Lib.zigzag n = z at HC
    go_enter Try.func14, Try.ntmps14
    go_wp2_with fail
    refine (HC.out _).mono ?_
    rintro e w1 ⟨rfl, hb⟩
    go_wp2
    go_ret
    exact ⟨rfl, hb⟩
  · have hzz : ((Lib.zigzag n : Nat) : Int) = 2 * n := by unfold Lib.zigzag; rw [if_pos (by omega)]; omega
    have HC := Lib.hid (groups_any (Lib.zigzag n) hz)
    rw [hzz] at HC
    clear hzz hz
    generalize Lib.zigzag n = z at HC
    go_enter Try.func14, Try.ntmps14
    go_wp2_with fail
    refine (HC.out _).mono ?_
    rintro e w1 ⟨rfl, hb⟩
    go_wp2
    go_ret
    exact ⟨rfl, hb⟩

/-- '+' on strings. -/
theorem add_str (a b : List UInt8) (h : a.length + b.length ≤ 9223372036854775807) (t : TypeId) (w : World) : (binOp .add t (.string ⟨a.toArray⟩) (.string ⟨b.toArray⟩)).run Try.prog w = .ok (.string ⟨(a ++ b).toArray⟩) w := by
  rw [binOp_string_add]
  refine (run_string_add_sum w ⟨a.toArray⟩ ⟨b.toArray⟩ ?_).trans ?_
  · show a.toArray.size + b.toArray.size ≤ _
    simpa using h
  · rw [ByteArray.mk_append_mk]

set_option maxHeartbeats 1000000 in
set_option maxRecDepth 100000 in
theorem refText_any (l : List UInt8) (h : l.length ≤ 70368744177664) (w : World) : Calls Try.prog 16 #[str l] w fun e w' => e = .returned (str (wText l)) ∧ Below w.heap.size w w' := by
  have hlen := Lib.uvarint_length64 (x := l.length) (by omega)
  have hn : wNum (l.length : Int) = Lib.uvarint l.length := by
    unfold wNum
    rw [if_neg (by omega)]
    rfl
  have hadd := add_str (Lib.uvarint l.length) l (by omega)
  unfold str wText
  have hc := refNum_any (l.length : Int) ⟨by omega, by omega⟩
  rw [hn] at hc
  unfold str at hc
  have HC := Lib.hid hc
  clear hc hn
  go_enter Try.func16, Try.ntmps16
  go_wp2_with (go_at_call 12; refine (HC.out _).mono ?_; rintro e w1 ⟨rfl, hb⟩)
  go_ret
  exact ⟨rfl, hb⟩

set_option maxHeartbeats 4000000 in
set_option maxRecDepth 100000 in
theorem refNums_any (A : Option Addr) (c B : Nat) (zs : List Int) (w : World) (h : Reads w B 1 A zs.length (intCells zs)) (hB : B ≤ w.heap.size) (hI : ∀ z ∈ zs, I64 z) (hl : zs.length ≤ 1048576) :
    Calls Try.prog 18 #[.slice A zs.length c] w fun e w' => e = .returned (str (wNums zs)) ∧ Below w.heap.size w w' := by
  have hlen := Lib.uvarint_length64 (x := zs.length) (by omega)
  have hnum := refNum_any (zs.length : Int) ⟨by omega, by omega⟩
  have hn : wNum (zs.length : Int) = Lib.uvarint zs.length := by
    unfold wNum
    rw [if_neg (by omega)]
    rfl
  rw [hn] at hnum
  unfold str at hnum
  have HNUM := Lib.hid hnum
  clear hnum hn
  have HI := Lib.hid hI
  clear hI
  have HR := Lib.hid h
  clear h
  have HF : ∀ k, ((zs.take k).flatMap wInt).length ≤ 10 * zs.length := by
    intro k
    have h1 := flatMap_length_le wInt 10 (zs.take k) (fun z hz => wInt_length z (HI.out z (List.mem_of_mem_take hz)))
    have h2 : (zs.take k).length ≤ zs.length := by simp; omega
    have h3 : 10 * (zs.take k).length ≤ 10 * zs.length := Nat.mul_le_mul_left _ h2
    omega
  have HFH := Lib.hid HF
  clear HF
  go_enter Try.func18, Try.ntmps18
  go_wp2_with fail
  refine (HNUM.out _).mono ?_
  rintro e w1 ⟨rfl, hb1⟩
  go_wp2_with fail
  go_loopw [3, 4] (fun s i wr => ∃ k : Nat, k ≤ zs.length ∧ i = .int .i64 k ∧ s = .string ⟨(Lib.uvarint zs.length ++ (zs.take k).flatMap wInt).toArray⟩ ∧ Below w.heap.size w wr)
    (fun _ i _ => zs.length - (intOf i).toNat)
  case atStart => exact ⟨0, Nat.zero_le _, rfl, by simp, hb1⟩
  case round =>
    obtain ⟨k, hk, rfl, rfl, hbw⟩ := hrel
    by_cases hlt : k < zs.length
    · obtain ⟨b, off, rfl, _, hc'⟩ := (HR.out.below (hbw.mono hB)).lit (by omega) (by decide)
      have hc : wr.cell? ⟨b, off + k, none⟩ = some (.int .i64 (zs[k]'hlt)) := hc' k _ (by simp [intCells, hlt])
      clear hc'
      have hz := HI.out (zs[k]'hlt) (List.getElem_mem hlt)
      have HT := Lib.hid (take_flat wInt zs k hlt)
      have hbd := HFH.out k
      generalize zs[k]'hlt = z at hc hz HT
      have hr := refInt_any z hz
      have hwl := wInt_length z hz
      unfold str at hr
      have HZ := Lib.hid hr
      have hal : (Lib.uvarint zs.length ++ (zs.take k).flatMap wInt).length + (wInt z).length ≤ 9223372036854775807 := by simp only [List.length_append]; omega
      clear hz hr
      generalize hacc : Lib.uvarint zs.length ++ (zs.take k).flatMap wInt = acc at hal ⊢
      have HACC := Lib.hid hacc
      clear hacc
      go_wp2_with fail
      refine (HZ.out _).mono ?_
      rintro e w3 ⟨rfl, hb3⟩
      go_wp2
      go_roundw
      case rel => exact ⟨k + 1, by omega, by go_num, by rw [HT.out, ← List.append_assoc, HACC.out, ByteArray.mk_append_mk], hbw.trans (hb3.mono hbw.size)⟩
      case measure => simp [intOf]; omega
    · obtain rfl : k = zs.length := by omega
      go_wp2
      go_ret
      exact ⟨by simp [wNums, wList, str], hbw⟩

set_option maxHeartbeats 4000000 in
set_option maxRecDepth 100000 in
theorem refTexts_any (A : Option Addr) (c B : Nat) (zs : List (List UInt8)) (w : World) (h : Reads w B 1 A zs.length (strCellsL zs)) (hB : B ≤ w.heap.size) (hI : ∀ z ∈ zs, z.length ≤ 1048576) (hl : zs.length ≤ 1048576) :
    Calls Try.prog 20 #[.slice A zs.length c] w fun e w' => e = .returned (str (wTexts zs)) ∧ Below w.heap.size w w' := by
  have hlen := Lib.uvarint_length64 (x := zs.length) (by omega)
  have hnum := refNum_any (zs.length : Int) ⟨by omega, by omega⟩
  have hn : wNum (zs.length : Int) = Lib.uvarint zs.length := by
    unfold wNum
    rw [if_neg (by omega)]
    rfl
  rw [hn] at hnum
  unfold str at hnum
  have HNUM := Lib.hid hnum
  clear hnum hn
  have HI := Lib.hid hI
  clear hI
  have HR := Lib.hid h
  clear h
  have HF : ∀ k, ((zs.take k).flatMap wText).length ≤ 1048586 * zs.length := by
    intro k
    have h1 := flatMap_length_le wText 1048586 (zs.take k) (fun z hz => wText_length z (HI.out z (List.mem_of_mem_take hz)))
    have h2 : (zs.take k).length ≤ zs.length := by simp; omega
    have h3 : 1048586 * (zs.take k).length ≤ 1048586 * zs.length := Nat.mul_le_mul_left _ h2
    omega
  have HFH := Lib.hid HF
  clear HF
  go_enter Try.func20, Try.ntmps20
  go_wp2_with fail
  refine (HNUM.out _).mono ?_
  rintro e w1 ⟨rfl, hb1⟩
  go_wp2_with fail
  go_loopw [3, 4] (fun s i wr => ∃ k : Nat, k ≤ zs.length ∧ i = .int .i64 k ∧ s = .string ⟨(Lib.uvarint zs.length ++ (zs.take k).flatMap wText).toArray⟩ ∧ Below w.heap.size w wr)
    (fun _ i _ => zs.length - (intOf i).toNat)
  case atStart => exact ⟨0, Nat.zero_le _, rfl, by simp, hb1⟩
  case round =>
    obtain ⟨k, hk, rfl, rfl, hbw⟩ := hrel
    by_cases hlt : k < zs.length
    · obtain ⟨b, off, rfl, _, hc'⟩ := (HR.out.below (hbw.mono hB)).lit (by omega) (by decide)
      have hc : wr.cell? ⟨b, off + k, none⟩ = some (.string ⟨(zs[k]'hlt).toArray⟩) := hc' k _ (by simp [strCellsL, hlt])
      clear hc'
      have hz := HI.out (zs[k]'hlt) (List.getElem_mem hlt)
      have HT := Lib.hid (take_flat wText zs k hlt)
      have hbd := HFH.out k
      generalize zs[k]'hlt = z at hc hz HT
      have hr := refText_any z (by omega)
      have hwl := wText_length z hz
      unfold str at hr
      have HZ := Lib.hid hr
      have hal : (Lib.uvarint zs.length ++ (zs.take k).flatMap wText).length + (wText z).length ≤ 9223372036854775807 := by simp only [List.length_append]; omega
      clear hz hr
      generalize hacc : Lib.uvarint zs.length ++ (zs.take k).flatMap wText = acc at hal ⊢
      have HACC := Lib.hid hacc
      clear hacc
      go_wp2_with fail
      refine (HZ.out _).mono ?_
      rintro e w3 ⟨rfl, hb3⟩
      go_wp2
      go_roundw
      case rel => exact ⟨k + 1, by omega, by go_num, by rw [HT.out, ← List.append_assoc, HACC.out, ByteArray.mk_append_mk], hbw.trans (hb3.mono hbw.size)⟩
      case measure => simp [intOf]; omega
    · obtain rfl : k = zs.length := by omega
      go_wp2
      go_ret
      exact ⟨by simp [wTexts, wList, str], hbw⟩

end Go.Proofs.Ytcamfdmmcbimfaa
