/-
  Contract of patch.fitting. Condition: the encoding is at most 2^46 bytes long.
-/
import Derived.Test.YtefgajipakjpeaaDoorLight
namespace Go.Proofs.YtefgajipakjpeaaDoor
open Go.RowKit

def fitB (p : PatchD) : Bool := rightPB p && decide (((wPatch p).length : Int) ≤ 65536)

set_option maxHeartbeats 2000000 in
set_option maxRecDepth 100000 in
theorem fitting_yes (p : PatchD) (B : Nat) (w : World) (h : p.Ok w B) (hB : B ≤ w.heap.size) (hlim : (wPatch p).length ≤ 70368744177664) (hf : fitB p = true) :
    Calls Tryd.prog 32 #[.agg p.parts.toArray] w fun r w' => r = .returned (.tuple #[.agg p.parts.toArray, .int .i64 0]) ∧ Below w.heap.size w w' := by
  simp only [fitB, Bool.and_eq_true, decide_eq_true_eq] at hf
  have HRI := Lib.hid (fun (w' : World) (hb : Below w.heap.size w w') => Right_any p B w' (h.below (hb.mono hB)) (Nat.le_trans hB hb.size))
  have HSI := Lib.hid (fun (w' : World) (hb : Below w.heap.size w w') => Size_any p B w' (h.below (hb.mono hB)) (Nat.le_trans hB hb.size) hlim)
  have HB0 := Lib.hid ((Below.refl w.heap.size w).alloc (Nat.le_refl _) (.cells p.parts.toArray 24))
  have HX0 := Lib.hid (Blk.new w 24 p.parts.toArray)
  rw [hf.1] at HRI
  have hsz := hf.2
  clear h hf hlim
  generalize ((wPatch p).length : Int) = n at HSI hsz
  simp only [PatchD.parts] at HRI HSI HB0 HX0 ⊢
  go_enter Tryd.func32, Tryd.ntmps32
  go_wp2_with fail
  have HB1 := Lib.hid (HB0.out.alloc HB0.out.size (.cells #[.string ⟨#[]⟩, .string ⟨#[]⟩, .slice none 0 0] 24))
  have HX1 := Lib.hid (HX0.out.alloc (.cells #[.string ⟨#[]⟩, .string ⟨#[]⟩, .slice none 0 0] 24))
  have HY1 : Hid (Blk ((w.alloc (.cells #[.string ⟨p.from_.toArray⟩, .string ⟨p.to_.toArray⟩, .slice p.A p.edits.length p.c] 24)).alloc (.cells #[.string ⟨#[]⟩, .string ⟨#[]⟩, .slice none 0 0] 24)) (w.heap.size + 1) 24 #[.string ⟨#[]⟩, .string ⟨#[]⟩, .slice none 0 0]) := Blk.newAt (by simp)
  refine (HRI.out _ HB1.out).mono ?_
  rintro r w2 ⟨rfl, hb2⟩
  have HB2 := Lib.hid (HB1.out.trans (hb2.mono HB1.out.size))
  have HX2 := Lib.hid (HX1.out.below hb2 HX1.out.lt)
  have HY2 := Lib.hid (HY1.out.below hb2 HY1.out.lt)
  clear hb2 HB0 HX0 HB1 HX1 HY1 HRI
  have c0 : w2.cell? ⟨w.heap.size, 0, none⟩ = some (.string ⟨p.from_.toArray⟩) := HX2.out.cell 0
  have c1 : w2.cell? ⟨w.heap.size, 1, none⟩ = some (.string ⟨p.to_.toArray⟩) := HX2.out.cell 1
  have c2 : w2.cell? ⟨w.heap.size, 2, none⟩ = some (.slice p.A p.edits.length p.c) := HX2.out.cell 2
  have HS2 := Lib.hid (HSI.out w2 HB2.out)
  go_wp2_with fail
  refine (HS2.out).mono ?_
  rintro r w3 ⟨rfl, hb3⟩
  have HB3 := Lib.hid (HB2.out.trans (hb3.mono HB2.out.size))
  have HX3 := Lib.hid (HX2.out.below hb3 HX2.out.lt)
  have HY3 := Lib.hid (HY2.out.below hb3 HY2.out.lt)
  clear hb3 c0 c1 c2 HS2 HSI HB2 HX2 HY2
  have c0 : w3.cell? ⟨w.heap.size, 0, none⟩ = some (.string ⟨p.from_.toArray⟩) := HX3.out.cell 0
  have c1 : w3.cell? ⟨w.heap.size, 1, none⟩ = some (.string ⟨p.to_.toArray⟩) := HX3.out.cell 1
  have c2 : w3.cell? ⟨w.heap.size, 2, none⟩ = some (.slice p.A p.edits.length p.c) := HX3.out.cell 2
  have y0 : w3.cell? ⟨w.heap.size + 1, 0, none⟩ = some (.string ⟨#[]⟩) := HY3.out.cell 0
  have y1 : w3.cell? ⟨w.heap.size + 1, 1, none⟩ = some (.string ⟨#[]⟩) := HY3.out.cell 1
  have y2 : w3.cell? ⟨w.heap.size + 1, 2, none⟩ = some (.slice none 0 0) := HY3.out.cell 2
  have f0 := HY3.out.frozen 0
  have f1 := HY3.out.frozen 1
  have f2 := HY3.out.frozen 2
  go_wp2
  exact bodyPost_ret (v := .tuple #[.agg #[.string ⟨p.from_.toArray⟩, .string ⟨p.to_.toArray⟩, .slice p.A p.edits.length p.c], .int .i64 0]) (by simp [results, Tryd.results32, go_sem, y0, y1, y2]) rfl ⟨rfl, ((HB3.out.setCell (p := ⟨w.heap.size + 1, 0, none⟩) (Nat.le_succ _) _).setCell (p := ⟨w.heap.size + 1, 1, none⟩) (Nat.le_succ _) _).setCell (p := ⟨w.heap.size + 1, 2, none⟩) (Nat.le_succ _) _⟩

end Go.Proofs.YtefgajipakjpeaaDoor
