/-
  Contracts of package wire's list writers (Nums, Texts) at slices of at most 2^20 elements whose texts have at most 2^20 bytes each.
-/
import Derived.Test.YtcamfdmmcbimfaaLocal
import Derived.Test.YtcamfdmmcbimfaaMem
namespace Go.Proofs.Ytcamfdmmcbimfaa
open Go.RowKit

theorem wInt_length (n : Int) (h : I64 n) : (wInt n).length ≤ 10 := Lib.uvarint_length64 (Lib.zigzag_lt h.1 h.2)
theorem wText_length (l : List UInt8) (h : l.length ≤ 1048576) : (wText l).length ≤ 1048586 := by
  unfold wText
  have := Lib.uvarint_length64 (x := l.length) (by omega)
  rw [List.length_append]
  omega
theorem flatMap_length_le {α : Type} (f : α → List UInt8) (c : Nat) : ∀ (l : List α), (∀ x ∈ l, (f x).length ≤ c) → (l.flatMap f).length ≤ c * l.length
  | [], _ => by simp
  | x :: l, h => by
    have h1 := h x (by simp)
    have h2 := flatMap_length_le f c l (fun y hy => h y (by simp [hy]))
    rw [List.flatMap_cons, List.length_append, List.length_cons, Nat.mul_succ]
    omega
theorem take_flat {α : Type} (f : α → List UInt8) (l : List α) (k : Nat) (hk : k < l.length) : (l.take (k + 1)).flatMap f = (l.take k).flatMap f ++ f (l[k]'hk) := by
  rw [List.take_succ_eq_append_getElem hk, List.flatMap_append]
  simp

set_option maxHeartbeats 4000000 in
set_option maxRecDepth 100000 in
theorem listInt_any (A : Option Addr) (c B : Nat) (zs : List Int) (w : World) (h : Reads w B 1 A zs.length (intCells zs)) (hB : B ≤ w.heap.size) (hI : ∀ z ∈ zs, I64 z) (hl : zs.length ≤ 1048576) :
    Calls Try.prog 45 #[.slice A zs.length c, .func (.func 13) #[] #[]] w fun e w' => e = .returned (str (wNums zs)) ∧ Below w.heap.size w w' := by
  have hlen := Lib.uvarint_length64 (x := zs.length) (by omega)
  have hpos := Lib.uvarint_pos zs.length
  have hnum := Num_any (zs.length : Int) ⟨by omega, by omega⟩
  have hn : wNum (zs.length : Int) = Lib.uvarint zs.length := by
    unfold wNum
    rw [if_neg (by omega)]
    rfl
  rw [hn] at hnum
  have HNUM := Lib.hid hnum
  clear hnum hn
  have HI := Lib.hid hI
  clear hI
  have hb0 : Below w.heap.size w (w.alloc (.cells #[.pointer none, .slice none 0 0] 69)) := (Below.refl _ _).alloc (Nat.le_refl _) _
  have HLB := Lib.hid (LB.new (B := w.heap.size) w (Nat.le_refl _))
  have HR := Lib.hid h
  clear h
  have HF : ∀ k, ((zs.take k).flatMap wInt).length ≤ 10 * zs.length := by
    intro k
    have h1 := flatMap_length_le wInt 10 (zs.take k) (fun z hz => wInt_length z (HI.out z (List.mem_of_mem_take hz)))
    have h2 : (zs.take k).length ≤ zs.length := by simp; omega
    have h3 : 10 * (zs.take k).length ≤ 10 * zs.length := Nat.mul_le_mul_left _ h2
    omega
  have HFH := Lib.hid HF
  clear HF
  go_enter Try.func45, Try.ntmps45
  go_wp2_with fail
  refine (HNUM.out _).mono ?_
  rintro e w1 ⟨rfl, hb1⟩
  have hs1 : w.heap.size ≤ w1.heap.size := Nat.le_trans (Nat.le_succ _) (by have := hb1.size; simpa using this)
  have hbw1 : Below w.heap.size w w1 := hb0.trans (hb1.mono (by simp))
  have HL1 := Lib.hid (HLB.out.keep hb1)
  go_wp2_with fail
  refine (HL1.out.write (Lib.uvarint zs.length) (by simp; omega) hs1).mono ?_
  rintro e w2 ⟨rfl, hlb2, hb2⟩
  have hbw2 : Below w.heap.size w w2 := hbw1.trans hb2
  have HL2 := Lib.hid hlb2
  clear hlb2
  go_wp2_with fail
  go_loopw [14] (fun i wr => ∃ k : Nat, k ≤ zs.length ∧ i = .int .i64 k ∧ LB w.heap.size w.heap.size (Lib.uvarint zs.length ++ (zs.take k).flatMap wInt) wr ∧ Below w.heap.size w wr)
    (fun i _ => zs.length - (intOf i).toNat)
  case atStart => exact ⟨0, Nat.zero_le _, rfl, by simpa using HL2.out, hbw2⟩
  case round =>
    obtain ⟨k, hk, rfl, hlb, hbw⟩ := hrel
    have HLk := Lib.hid hlb
    clear hlb
    by_cases hlt : k < zs.length
    · obtain ⟨ad, u, rfl, _, hu, hc⟩ := (HR.out.below (hbw.mono hB)).at_ hlt
      obtain rfl : u = .int .i64 (zs[k]'hlt) := by
        simp [intCells, hlt] at hu
        exact hu.symm
      clear hu
      have hz := HI.out (zs[k]'hlt) (List.getElem_mem hlt)
      have HT := Lib.hid (take_flat wInt zs k hlt)
      have hbd := HFH.out k
      generalize zs[k]'hlt = z at hc hz HT
      have HZ := Lib.hid (Int_any z hz)
      have hwl := wInt_length z hz
      clear hz
      go_wp2_with fail
      refine (HZ.out _).mono ?_
      rintro e w3 ⟨rfl, hb3⟩
      have hs3 : w.heap.size ≤ w3.heap.size := Nat.le_trans hbw.size hb3.size
      have hbw3 : Below w.heap.size w w3 := hbw.trans (hb3.mono hbw.size)
      have HL3 := Lib.hid (HLk.out.keep hb3)
      go_wp2_with fail
      refine (HL3.out.write (wInt z) (by simp only [List.length_append]; omega) hs3).mono ?_
      rintro e w4 ⟨rfl, hlb4, hb4⟩
      have HL4 := Lib.hid hlb4
      clear hlb4
      go_wp2
      go_roundw
      case rel => exact ⟨k + 1, by omega, by go_num, by rw [HT.out, ← List.append_assoc]; exact HL4.out, hbw3.trans hb4⟩
      case measure => simp [intOf]; omega
    · obtain rfl : k = zs.length := by omega
      have hne : Lib.uvarint zs.length ++ (zs.take zs.length).flatMap wInt ≠ [] := by
        intro h0
        have := congrArg List.length h0
        simp only [List.length_append, List.length_nil] at this
        omega
      have HS := Lib.hid (HLk.out.string hne)
      clear hne
      go_wp2_with fail
      refine (HS.out).mono ?_
      rintro e w3 ⟨rfl, hb3⟩
      go_wp2
      go_ret
      exact ⟨by simp [wNums, wList], hbw.trans hb3⟩

set_option maxHeartbeats 4000000 in
set_option maxRecDepth 100000 in
theorem listText_any (A : Option Addr) (c B : Nat) (zs : List (List UInt8)) (w : World) (h : Reads w B 1 A zs.length (strCellsL zs)) (hB : B ≤ w.heap.size) (hI : ∀ z ∈ zs, z.length ≤ 1048576) (hl : zs.length ≤ 1048576) :
    Calls Try.prog 46 #[.slice A zs.length c, .func (.func 15) #[] #[]] w fun e w' => e = .returned (str (wTexts zs)) ∧ Below w.heap.size w w' := by
  have hlen := Lib.uvarint_length64 (x := zs.length) (by omega)
  have hpos := Lib.uvarint_pos zs.length
  have hnum := Num_any (zs.length : Int) ⟨by omega, by omega⟩
  have hn : wNum (zs.length : Int) = Lib.uvarint zs.length := by
    unfold wNum
    rw [if_neg (by omega)]
    rfl
  rw [hn] at hnum
  have HNUM := Lib.hid hnum
  clear hnum hn
  have HI := Lib.hid hI
  clear hI
  have hb0 : Below w.heap.size w (w.alloc (.cells #[.pointer none, .slice none 0 0] 69)) := (Below.refl _ _).alloc (Nat.le_refl _) _
  have HLB := Lib.hid (LB.new (B := w.heap.size) w (Nat.le_refl _))
  have HR := Lib.hid h
  clear h
  have HF : ∀ k, ((zs.take k).flatMap wText).length ≤ 1048586 * zs.length := by
    intro k
    have h1 := flatMap_length_le wText 1048586 (zs.take k) (fun z hz => wText_length z (HI.out z (List.mem_of_mem_take hz)))
    have h2 : (zs.take k).length ≤ zs.length := by simp; omega
    have h3 : 1048586 * (zs.take k).length ≤ 1048586 * zs.length := Nat.mul_le_mul_left _ h2
    omega
  have HFH := Lib.hid HF
  clear HF
  go_enter Try.func46, Try.ntmps46
  go_wp2_with fail
  refine (HNUM.out _).mono ?_
  rintro e w1 ⟨rfl, hb1⟩
  have hs1 : w.heap.size ≤ w1.heap.size := Nat.le_trans (Nat.le_succ _) (by have := hb1.size; simpa using this)
  have hbw1 : Below w.heap.size w w1 := hb0.trans (hb1.mono (by simp))
  have HL1 := Lib.hid (HLB.out.keep hb1)
  go_wp2_with fail
  refine (HL1.out.write (Lib.uvarint zs.length) (by simp; omega) hs1).mono ?_
  rintro e w2 ⟨rfl, hlb2, hb2⟩
  have hbw2 : Below w.heap.size w w2 := hbw1.trans hb2
  have HL2 := Lib.hid hlb2
  clear hlb2
  go_wp2_with fail
  go_loopw [14] (fun i wr => ∃ k : Nat, k ≤ zs.length ∧ i = .int .i64 k ∧ LB w.heap.size w.heap.size (Lib.uvarint zs.length ++ (zs.take k).flatMap wText) wr ∧ Below w.heap.size w wr)
    (fun i _ => zs.length - (intOf i).toNat)
  case atStart => exact ⟨0, Nat.zero_le _, rfl, by simpa using HL2.out, hbw2⟩
  case round =>
    obtain ⟨k, hk, rfl, hlb, hbw⟩ := hrel
    have HLk := Lib.hid hlb
    clear hlb
    by_cases hlt : k < zs.length
    · obtain ⟨ad, u, rfl, _, hu, hc⟩ := (HR.out.below (hbw.mono hB)).at_ hlt
      obtain rfl : u = .string ⟨(zs[k]'hlt).toArray⟩ := by
        simp [strCellsL, hlt] at hu
        exact hu.symm
      clear hu
      have hz := HI.out (zs[k]'hlt) (List.getElem_mem hlt)
      have HT := Lib.hid (take_flat wText zs k hlt)
      have hbd := HFH.out k
      generalize zs[k]'hlt = z at hc hz HT
      have HZ := Lib.hid (Text_any z (by omega))
      have hwl := wText_length z hz
      clear hz
      go_wp2_with fail
      refine (HZ.out _).mono ?_
      rintro e w3 ⟨rfl, hb3⟩
      have hs3 : w.heap.size ≤ w3.heap.size := Nat.le_trans hbw.size hb3.size
      have hbw3 : Below w.heap.size w w3 := hbw.trans (hb3.mono hbw.size)
      have HL3 := Lib.hid (HLk.out.keep hb3)
      go_wp2_with fail
      refine (HL3.out.write (wText z) (by simp only [List.length_append]; omega) hs3).mono ?_
      rintro e w4 ⟨rfl, hlb4, hb4⟩
      have HL4 := Lib.hid hlb4
      clear hlb4
      go_wp2
      go_roundw
      case rel => exact ⟨k + 1, by omega, by go_num, by rw [HT.out, ← List.append_assoc]; exact HL4.out, hbw3.trans hb4⟩
      case measure => simp [intOf]; omega
    · obtain rfl : k = zs.length := by omega
      have hne : Lib.uvarint zs.length ++ (zs.take zs.length).flatMap wText ≠ [] := by
        intro h0
        have := congrArg List.length h0
        simp only [List.length_append, List.length_nil] at this
        omega
      have HS := Lib.hid (HLk.out.string hne)
      clear hne
      go_wp2_with fail
      refine (HS.out).mono ?_
      rintro e w3 ⟨rfl, hb3⟩
      go_wp2
      go_ret
      exact ⟨by simp [wTexts, wList], hbw.trans hb3⟩

set_option maxRecDepth 100000 in
theorem Nums_any (A : Option Addr) (c B : Nat) (zs : List Int) (w : World) (h : Reads w B 1 A zs.length (intCells zs)) (hB : B ≤ w.heap.size) (hI : ∀ z ∈ zs, I64 z) (hl : zs.length ≤ 1048576) :
    Calls Try.prog 17 #[.slice A zs.length c] w fun e w' => e = .returned (str (wNums zs)) ∧ Below w.heap.size w w' := by
  have H := Lib.hid (listInt_any A c B zs w h hB hI hl)
  clear h hB hI hl
  go_enter Try.func17, Try.ntmps17
  go_wp2_with fail
  refine (H.out).mono ?_
  rintro e w1 ⟨rfl, hb⟩
  go_wp2
  go_ret
  exact ⟨rfl, hb⟩

set_option maxRecDepth 100000 in
theorem Texts_any (A : Option Addr) (c B : Nat) (zs : List (List UInt8)) (w : World) (h : Reads w B 1 A zs.length (strCellsL zs)) (hB : B ≤ w.heap.size) (hI : ∀ z ∈ zs, z.length ≤ 1048576) (hl : zs.length ≤ 1048576) :
    Calls Try.prog 19 #[.slice A zs.length c] w fun e w' => e = .returned (str (wTexts zs)) ∧ Below w.heap.size w w' := by
  have H := Lib.hid (listText_any A c B zs w h hB hI hl)
  clear h hB hI hl
  go_enter Try.func19, Try.ntmps19
  go_wp2_with fail
  refine (H.out).mono ?_
  rintro e w1 ⟨rfl, hb⟩
  go_wp2
  go_ret
  exact ⟨rfl, hb⟩

end Go.Proofs.Ytcamfdmmcbimfaa
