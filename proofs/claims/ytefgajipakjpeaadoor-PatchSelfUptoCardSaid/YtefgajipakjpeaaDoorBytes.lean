/-
  Contracts of patch.Bytes and Size. Condition: the encoding is at most 2^46 bytes long.
-/
import Derived.Test.YtefgajipakjpeaaDoorRight
import Derived.Deep.RegionHeld3
namespace Go.Proofs.YtefgajipakjpeaaDoor
open Go.RowKit

def wEdit (e : EditD) : List UInt8 := wInt e.from_ ++ wInt e.size ++ wText e.text
def wPatch (p : PatchD) : List UInt8 := wText p.from_ ++ wText p.to_ ++ wNum (p.edits.length : Int) ++ p.edits.flatMap wEdit

theorem str_add (a b : List UInt8) (h : a.length + b.length ≤ 70368744177664) (w : World) : (Op.stringOp .add ⟨a.toArray⟩ ⟨b.toArray⟩).run Tryd.prog w = .ok (.string ⟨(a ++ b).toArray⟩) w := by
  refine (run_string_add_sum w ⟨a.toArray⟩ ⟨b.toArray⟩ ?_).trans ?_
  · show a.toArray.size + b.toArray.size ≤ _
    simp only [List.size_toArray]
    omega
  · rw [ByteArray.mk_append_mk]

theorem LB.writeK {B b : Nat} {acc : List UInt8} {w : World} (h : LB B b acc w) (l : List UInt8) (hl : acc.length + l.length ≤ 70368744177664) (hBw : B ≤ w.heap.size) :
    Calls Tryd.prog 21 #[.pointer (some ⟨b, 0, none⟩), str l] w fun e w' => e = .returned (.tuple #[.int .i64 l.length, .nilIface]) ∧ LB B b (acc ++ l) w' ∧ Below B w w' ∧ Lib.OthersKept 5 (some b) w w' := by
  obtain ⟨cs, hs, h⟩ := h
  have hsz : (ByteArray.mk l.toArray).size = l.length := by
    show l.toArray.size = _
    simp
  refine (WriteString_any ⟨l.toArray⟩ h (by rw [hs]; exact liesLocal) (by omega) (by rw [hsz, Lib.byteCells_length]; omega) hBw).mono ?_
  rintro e w' ⟨rfl, cs', hw⟩
  refine ⟨by rw [hsz], ⟨cs', hw.size.trans hs, ?_⟩, hw.below, hw.kept⟩
  have e1 : Lib.byteCells (acc ++ l) = Lib.byteCells acc ++ Lib.strCells ⟨l.toArray⟩ := by rw [Lib.byteCells_append]; rfl
  rw [e1]
  exact hw.at_

set_option maxHeartbeats 8000000 in
set_option maxRecDepth 100000 in
theorem Bytes_any (p : PatchD) (B : Nat) (w : World) (h : p.Ok w B) (hB : B ≤ w.heap.size) (hlim : (wPatch p).length ≤ 70368744177664) :
    Calls Tryd.prog 8 #[.agg p.parts.toArray] w fun r w' => r = .returned (str (wPatch p)) ∧ Below w.heap.size w w' := by
  have HP := Lib.hid h
  have hel := h.len
  clear h
  have HW : Hid (wPatch p = wText p.from_ ++ wText p.to_ ++ wNum (p.edits.length : Int) ++ p.edits.flatMap wEdit) := rfl
  have hl3 : (wText p.from_).length + (wText p.to_).length + (wNum (p.edits.length : Int)).length + (p.edits.flatMap wEdit).length ≤ 70368744177664 := by
    have h := hlim
    rw [HW.out] at h
    simp only [List.length_append] at h
    omega
  have hft : p.from_.length ≤ (wText p.from_).length := by simp [wText]
  have htt : p.to_.length ≤ (wText p.to_).length := by simp [wText]
  have HTF := Lib.hid (Text_any p.from_ (by omega))
  have HTT := Lib.hid (Text_any p.to_ (by omega))
  have HNU := Lib.hid (Num_any (p.edits.length : Int) ⟨by omega, by omega⟩)
  have HA1 := Lib.hid (str_add (wText p.from_) (wText p.to_) (by omega))
  have HA2 := Lib.hid (str_add (wText p.from_ ++ wText p.to_) (wNum (p.edits.length : Int)) (by rw [List.length_append]; omega))
  have hl12 : (wText p.from_ ++ wText p.to_ ++ wNum (p.edits.length : Int)).length + (p.edits.flatMap wEdit).length ≤ 70368744177664 := by simp only [List.length_append]; omega
  have HRN : Hid (wPatch p ≠ []) := Lib.hid (by unfold wPatch wText; have := Lib.uvarint_pos p.from_.length; intro h; have h2 := congrArg List.length h; simp only [List.length_append, List.length_nil] at h2; omega)
  generalize wPatch p = RES at HW HRN
  generalize wText p.from_ = TF at HTF HA1 HA2 HW hl12
  generalize wText p.to_ = TT at HTT HA1 HA2 HW hl12
  generalize wNum (p.edits.length : Int) = TN at HNU HA2 HW hl12
  have HA1' : Hid (∃ X, X = TF ++ TT) := ⟨_, rfl⟩
  obtain ⟨X, hX⟩ := HA1'.out
  rw [← hX] at HA1 HA2 HW hl12
  obtain ⟨Y, hY⟩ : ∃ Y, Y = X ++ TN := ⟨_, rfl⟩
  rw [← hY] at HA2 HW hl12
  clear hX hY HA1' hlim hl3 hft htt
  have hX0 : Blk ((w.alloc (.cells p.parts.toArray 24)).alloc (.cells #[.pointer none, .slice none 0 0] 69)) w.heap.size 24 p.parts.toArray := (Blk.new w 24 _).alloc _
  have hB0 : Below w.heap.size w ((w.alloc (.cells p.parts.toArray 24)).alloc (.cells #[.pointer none, .slice none 0 0] 69)) := ((Below.refl _ _).alloc (Nat.le_refl _) _).alloc (by simp) _
  have hL0 : LB (w.heap.size + 1) (w.heap.size + 1) [] ((w.alloc (.cells p.parts.toArray 24)).alloc (.cells #[.pointer none, .slice none 0 0] 69)) := by
    have e : (w.alloc (.cells p.parts.toArray 24)).heap.size = w.heap.size + 1 := by simp
    have h := LB.new (B := w.heap.size + 1) (w.alloc (.cells p.parts.toArray 24)) (by rw [e]; exact Nat.le_refl _)
    rw [e] at h
    exact h
  have HX0 := Lib.hid hX0
  have HB0 := Lib.hid hB0
  have HL0 := Lib.hid hL0
  clear hX0 hB0 hL0
  unfold str
  unfold str at HTF HTT
  unfold str at HNU
  simp only [PatchD.parts] at HX0 HB0 HL0 ⊢
  go_enter Tryd.func8, Tryd.ntmps8
  go_wp2_with fail
  generalize ((w.alloc (.cells #[.string ⟨p.from_.toArray⟩, .string ⟨p.to_.toArray⟩, .slice p.A p.edits.length p.c] 24)).alloc (.cells #[.pointer none, .slice none 0 0] 69)) = w0 at HX0 HB0 HL0 ⊢
  have HX0d : Hid (Blk w0.drew w.heap.size 24 #[.string ⟨p.from_.toArray⟩, .string ⟨p.to_.toArray⟩, .slice p.A p.edits.length p.c]) := HX0.out
  have HL0d : Hid (LB (w.heap.size + 1) (w.heap.size + 1) [] w0.drew) := HL0.out.drew
  have HB0d : Hid (Below w.heap.size w w0.drew) := HB0.out.drew
  have HS : Hid (∀ w', Blk w' w.heap.size 24 #[.string ⟨p.from_.toArray⟩, .string ⟨p.to_.toArray⟩, .slice p.A p.edits.length p.c] → w'.cell? ⟨w.heap.size, 0, none⟩ = some (.string ⟨p.from_.toArray⟩) ∧ w'.cell? ⟨w.heap.size, 1, none⟩ = some (.string ⟨p.to_.toArray⟩) ∧ w'.cell? ⟨w.heap.size, 2, none⟩ = some (.slice p.A p.edits.length p.c)) := fun w' h => ⟨h.cell 0, h.cell 1, h.cell 2⟩
  have a1 := HA1.out
  have a2 := HA2.out
  go_region_held3 (fun w' => w'.cell? ⟨w.heap.size, 0, none⟩ = some (.string ⟨p.from_.toArray⟩) ∧ w'.cell? ⟨w.heap.size, 1, none⟩ = some (.string ⟨p.to_.toArray⟩) ∧ w'.cell? ⟨w.heap.size, 2, none⟩ = some (.slice p.A p.edits.length p.c))
    (first | exact HS.out _ HX4.out | exact HS.out _ HX3.out | exact HS.out _ HX2.out | exact HS.out _ HX1.out | exact HS.out _ HX0d.out)
    (first
      | (go_at_call 21; refine Calls.mono (HL3.out.write Y (by simp; omega) (by have := HL3.out.lt; omega)) ?_; rintro e w4 ⟨rfl, hl4, hb4⟩; have HL4 := Lib.hid hl4; have HX4 := Lib.hid (HX3.out.below hb4 (by omega)); have HB4 := Lib.hid (HB3.out.trans (hb4.mono (by omega))); clear hl4 hb4)
      | (go_at_call 23; refine Calls.mono (HNU.out _) ?_; rintro e w3 ⟨rfl, hb3⟩; have HX3 := Lib.hid (HX2.out.below hb3 HX2.out.lt); have HL3 := Lib.hid (HL2.out.keep hb3); have HB3 := Lib.hid (HB2.out.trans (hb3.mono HB2.out.size)); clear hb3)
      | (go_at_call 22; have _h := HX1.out.lt; clear _h; refine Calls.mono (HTT.out _) ?_; rintro e w2 ⟨rfl, hb2⟩; have HX2 := Lib.hid (HX1.out.below hb2 HX1.out.lt); have HL2 := Lib.hid (HL1.out.keep hb2); have HB2 := Lib.hid (HB1.out.trans (hb2.mono HB1.out.size)); clear hb2)
      | (go_at_call 22; refine Calls.mono (HTF.out _) ?_; rintro e w1 ⟨rfl, hb1⟩; have HX1 := Lib.hid (HX0d.out.below hb1 HX0d.out.lt); have HL1 := Lib.hid (HL0d.out.keep hb1); have HB1 := Lib.hid (HB0d.out.trans (hb1.mono HB0d.out.size)); clear hb1))
  clear a1 a2 HS HX0 HL0 HB0 HX0d HL0d HB0d HX1 HL1 HB1 HX2 HL2 HB2 HX3 HL3 HB3 HA1 HA2 HTF HTT HNU
  rw [List.nil_append] at HL4
  have c2 : w4.cell? ⟨w.heap.size, 2, none⟩ = some (.slice p.A p.edits.length p.c) := HX4.out.cell 2
  go_wp2_with fail
  clear c2
  go_loopw [22] (fun vi wr => ∃ i : Nat, vi = .int .i64 i ∧ i ≤ p.edits.length ∧ Hid (LB (w.heap.size + 1) (w.heap.size + 1) (Y ++ (p.edits.take i).flatMap wEdit) wr) ∧ Hid (Below w.heap.size w wr)) (fun vi _ => p.edits.length - (intOf vi).toNat)
  case atStart => exact ⟨0, rfl, Nat.zero_le _, Lib.hid (by show LB _ _ (Y ++ []) _; rw [List.append_nil]; exact HL4.out), HB4⟩
  case round =>
    clear HX4 HL4 HB4
    obtain ⟨i, rfl, hi, HL, HB⟩ := hrel
    by_cases hil : i < p.edits.length
    · obtain ⟨b, off, hA, _, d0, d1, d2⟩ := cells_of_edit (HP.out.cells.below (HB.out.mono hB)) hil
      have HT := Lib.hid (List.take_succ_eq_append_getElem hil)
      have HOK := Lib.hid (HP.out.edits _ (List.getElem_mem hil))
      have hpre : (p.edits.take (i + 1)).flatMap wEdit ++ (p.edits.drop (i + 1)).flatMap wEdit = p.edits.flatMap wEdit := by rw [← List.flatMap_append, List.take_append_drop]
      have hpl := congrArg List.length hpre
      rw [HT.out, List.flatMap_append] at hpl
      simp only [List.length_append] at hpl
      generalize p.edits[i]'hil = e at d0 d1 d2 HT HOK hpl
      have hwe : ([e].flatMap wEdit) = wEdit e := by simp
      rw [hwe] at hpl
      obtain ⟨f, sz, t⟩ := e
      simp only at d0 d1 d2
      have HWE : Hid (wEdit ⟨f, sz, t⟩ = wInt f ++ wInt sz ++ wText t) := rfl
      have hwl : (wInt f).length + (wInt sz).length + (wText t).length = (wEdit ⟨f, sz, t⟩).length := by rw [HWE.out]; simp only [List.length_append]
      have htl : t.length ≤ (wText t).length := by simp [wText]
      have HI1 := Lib.hid (Int_any f HOK.out.from_)
      have HI2 := Lib.hid (Int_any sz HOK.out.size)
      have HT2 := Lib.hid (Text_any t (by omega))
      have HA1 := Lib.hid (str_add (wInt f) (wInt sz) (by omega))
      have HA2 := Lib.hid (str_add (wInt f ++ wInt sz) (wText t) (by rw [List.length_append]; omega))
      have HLN : Hid (Y ++ (p.edits.take (i + 1)).flatMap wEdit = Y ++ (p.edits.take i).flatMap wEdit ++ wEdit ⟨f, sz, t⟩) := Lib.hid (by rw [HT.out, List.flatMap_append, hwe, List.append_assoc])
      have hacc : (Y ++ (p.edits.take i).flatMap wEdit).length + (wEdit ⟨f, sz, t⟩).length ≤ 70368744177664 := by rw [List.length_append]; omega
      rw [HWE.out] at HLN hacc
      generalize Y ++ (p.edits.take i).flatMap wEdit = acc at HL HLN hacc
      generalize wInt f = I1 at HI1 HA1 HA2 HLN hacc
      generalize wInt sz = I2 at HI2 HA1 HA2 HLN hacc
      generalize wText t = TT at HT2 HA2 HLN hacc
      obtain ⟨X, hX⟩ : ∃ X, X = I1 ++ I2 := ⟨_, rfl⟩
      rw [← hX] at HA1 HA2 HLN hacc
      obtain ⟨Z, hZ⟩ : ∃ Z, Z = X ++ TT := ⟨_, rfl⟩
      rw [← hZ] at HA2 HLN hacc
      clear hX hZ hpre hpl hwe HWE hwl htl HT
      unfold str at HI1 HI2 HT2
      rw [hA]
      clear hA
      have HX5 : Hid (Blk (wr.alloc (.cells #[.int .i64 f, .int .i64 sz, .string ⟨t.toArray⟩] 56)).drew wr.heap.size 56 #[.int .i64 f, .int .i64 sz, .string ⟨t.toArray⟩]) := Blk.new _ _ _
      have HL5 : Hid (LB (w.heap.size + 1) (w.heap.size + 1) acc (wr.alloc (.cells #[.int .i64 f, .int .i64 sz, .string ⟨t.toArray⟩] 56)).drew) := (HL.out.alloc _).drew
      have HB5 : Hid (Below w.heap.size w (wr.alloc (.cells #[.int .i64 f, .int .i64 sz, .string ⟨t.toArray⟩] 56)).drew) := (HB.out.alloc HB.out.size _).drew
      have hsz5 := HB.out.size
      have hlt5 := HL.out.lt
      go_wp2_with fail
      clear d0 d1 d2
      generalize hw5 : wr.alloc (.cells #[.int .i64 f, .int .i64 sz, .string ⟨t.toArray⟩] 56) = w5 at HX5 HL5 HB5 ⊢
      clear hw5
      generalize wr.heap.size = bx at HX5 hsz5 hlt5 ⊢
      have HS : Hid (∀ w', Blk w' bx 56 #[.int .i64 f, .int .i64 sz, .string ⟨t.toArray⟩] → w'.cell? ⟨bx, 0, none⟩ = some (.int .i64 f) ∧ w'.cell? ⟨bx, 1, none⟩ = some (.int .i64 sz) ∧ w'.cell? ⟨bx, 2, none⟩ = some (.string ⟨t.toArray⟩)) := fun w' h => ⟨h.cell 0, h.cell 1, h.cell 2⟩
      have a1 := HA1.out
      have a2 := HA2.out
      go_region_held3 (fun w' => w'.cell? ⟨bx, 0, none⟩ = some (.int .i64 f) ∧ w'.cell? ⟨bx, 1, none⟩ = some (.int .i64 sz) ∧ w'.cell? ⟨bx, 2, none⟩ = some (.string ⟨t.toArray⟩))
        (first | exact HS.out _ HX9.out | exact HS.out _ HX8.out | exact HS.out _ HX7.out | exact HS.out _ HX6.out | exact HS.out _ HX5.out)
        (first
          | (go_at_call 21; refine Calls.mono (HL8.out.writeK Z hacc (by have := HL8.out.lt; omega)) ?_; rintro e w9 ⟨rfl, hl9, hb9, hk9⟩; have HL9 := Lib.hid hl9; have HX9 := Lib.hid (HX8.out.others hk9 (fun e => by injection e with e; omega) (by decide)); have HB9 := Lib.hid (HB8.out.trans (hb9.mono (by omega))); clear hl9 hb9 hk9)
          | (go_at_call 22; refine Calls.mono (HT2.out _) ?_; rintro e w8 ⟨rfl, hb8⟩; have HX8 := Lib.hid (HX7.out.below hb8 HX7.out.lt); have HL8 := Lib.hid (HL7.out.keep hb8); have HB8 := Lib.hid (HB7.out.trans (hb8.mono HB7.out.size)); clear hb8)
          | (go_at_call 24; have _h := HX6.out.lt; clear _h; refine Calls.mono (HI2.out _) ?_; rintro e w7 ⟨rfl, hb7⟩; have HX7 := Lib.hid (HX6.out.below hb7 HX6.out.lt); have HL7 := Lib.hid (HL6.out.keep hb7); have HB7 := Lib.hid (HB6.out.trans (hb7.mono HB6.out.size)); clear hb7)
          | (go_at_call 24; refine Calls.mono (HI1.out _) ?_; rintro e w6 ⟨rfl, hb6⟩; have HX6 := Lib.hid (HX5.out.below hb6 HX5.out.lt); have HL6 := Lib.hid (HL5.out.keep hb6); have HB6 := Lib.hid (HB5.out.trans (hb6.mono HB5.out.size)); clear hb6))
      have HL10 : Hid (LB (w.heap.size + 1) (w.heap.size + 1) (Y ++ (p.edits.take (i + 1)).flatMap wEdit) w9) := Lib.hid (by rw [HLN.out]; exact HL9.out)
      clear a1 a2
      go_wp2
      go_roundw
      case rel => exact ⟨i + 1, by go_num, by omega, HL10, HB9⟩
      case measure => simp [intOf]; omega
    · obtain rfl : i = p.edits.length := by omega
      rw [List.take_length, ← HW.out] at HL
      have HSX := Lib.hid (HL.out.string HRN.out)
      unfold str at HSX
      have hsz6 := HB.out.size
      go_wp2_with fail
      refine (HSX.out).mono ?_
      rintro e w7 ⟨rfl, hb7⟩
      have HE7 := Lib.hid (HB.out.trans (hb7.mono (Nat.le_succ _)))
      clear hb7
      go_wp2
      go_ret
      exact ⟨rfl, HE7.out⟩

set_option maxHeartbeats 1000000 in
set_option maxRecDepth 100000 in
/-- Size. -/
theorem Size_any (p : PatchD) (B : Nat) (w : World) (h : p.Ok w B) (hB : B ≤ w.heap.size) (hlim : (wPatch p).length ≤ 70368744177664) :
    Calls Tryd.prog 11 #[.agg p.parts.toArray] w fun r w' => r = .returned (.int .i64 ((wPatch p).length : Int)) ∧ Below w.heap.size w w' := by
  have HBY := Lib.hid (fun (w' : World) (hb : Below w.heap.size w w') => Bytes_any p B w' (h.below (hb.mono hB)) (Nat.le_trans hB hb.size) hlim)
  have HB0 := Lib.hid ((Below.refl w.heap.size w).alloc (Nat.le_refl _) (.cells p.parts.toArray 24))
  clear h
  generalize wPatch p = RES at HBY hlim
  unfold str at HBY
  simp only [PatchD.parts] at HBY HB0 ⊢
  have HX := Lib.hid (HBY.out _ HB0.out)
  clear HBY
  go_enter Tryd.func11, Tryd.ntmps11
  go_wp2_with fail
  refine (HX.out).mono ?_
  rintro r w1 ⟨rfl, hb1⟩
  have HB1 := Lib.hid (HB0.out.trans (hb1.mono (by simp)))
  clear hb1 HX HB0
  go_wp2
  go_ret
  exact ⟨rfl, HB1.out⟩

end Go.Proofs.YtefgajipakjpeaaDoor
