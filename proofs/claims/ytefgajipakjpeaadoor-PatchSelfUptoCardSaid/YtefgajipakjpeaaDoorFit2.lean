/-
  Contract of patch.fitting, whole. Conditions: none beyond the hypotheses.
-/
import Derived.Test.YtefgajipakjpeaaDoorFit
import Derived.Test.YtefgajipakjpeaaDoorFollow
namespace Go.Proofs.YtefgajipakjpeaaDoor
open Go.RowKit

theorem wInt_le (n : Int) (h : I64 n) : (wInt n).length ≤ 10 := Lib.uvarint_length64 (Lib.zigzag_lt h.1 h.2)
theorem wText_le (l : List UInt8) (h : l.length ≤ maxLen) : (wText l).length ≤ 10 + l.length := by
  unfold maxLen at h
  have := Lib.uvarint_length64 (x := l.length) (by omega)
  unfold wText
  rw [List.length_append]
  omega
theorem wEdit_le (e : EditD) (h : rightEB e = true) (ho : e.Ok) : ((wEdit e).length : Int) ≤ 30 + lenI e := by
  have h1 := wInt_le _ ho.from_
  have h2 := wInt_le _ ho.size
  have h3 := wText_le _ ho.text
  have h4 := (rightE_EOk h).len
  unfold wEdit
  simp only [List.length_append]
  rcases rightE_cases h with ⟨a, b, c, d, g, k⟩ | ⟨a, b, c, d, g⟩
  · rw [a] at h3 ⊢
    simp at h3 ⊢
    omega
  · omega
theorem wEdits_le : ∀ (l : List EditD), (∀ e ∈ l, rightEB e = true) → (∀ e ∈ l, e.Ok) → ((l.flatMap wEdit).length : Int) ≤ 30 * l.length + totalI l
  | [], _, _ => by simp [totalI]
  | e :: l, h, ho => by
    have h1 := wEdit_le e (h e List.mem_cons_self) (ho e List.mem_cons_self)
    have h2 := wEdits_le l (fun x hx => h x (List.mem_cons_of_mem _ hx)) (fun x hx => ho x (List.mem_cons_of_mem _ hx))
    rw [List.flatMap_cons, List.length_append, totalI_cons, List.length_cons]
    omega
theorem wPatch_right_le (p : PatchD) {w : World} {B : Nat} (h : p.Ok w B) (hr : rightPB p = true) : (wPatch p).length ≤ 70368744177664 := by
  simp only [rightPB, Bool.and_eq_true, decide_eq_true_eq, List.all_eq_true] at hr
  obtain ⟨⟨⟨⟨h1, h2⟩, h3⟩, h4⟩, h5⟩ := hr
  have h6 := wEdits_le p.edits h4 h.edits
  have h7 := wText_le p.from_ h.from_
  have h8 := wText_le p.to_ h.to_
  have h9 : (wNum (p.edits.length : Int)).length ≤ 10 := by
    unfold wNum
    rw [if_neg (by omega)]
    exact Lib.uvarint_length64 (by omega)
  unfold wPatch
  simp only [List.length_append]
  omega

/-- What fitting leaves. -/
def fitPD (p : PatchD) : PD × Int := if fitB p then (p.pd, 0) else (PD.nil, 7)
def PatchPost (R : PD × Int) (w : World) (r : Ending) (w' : World) : Prop :=
  ∃ p : PatchD, r = .returned (.tuple #[.agg p.parts.toArray, .int .i64 R.2]) ∧ p.pd = R.1 ∧ p.Ok w' w'.heap.size ∧ Below w.heap.size w w'

set_option maxHeartbeats 2000000 in
set_option maxRecDepth 100000 in
theorem fitting_no1 (p : PatchD) (B : Nat) (w : World) (h : p.Ok w B) (hB : B ≤ w.heap.size) (hf : rightPB p = false) :
    Calls Tryd.prog 32 #[.agg p.parts.toArray] w fun r w' => r = .returned (.tuple #[.agg #[.string ⟨#[]⟩, .string ⟨#[]⟩, .slice none 0 0], .int .i64 7]) ∧ Below w.heap.size w w' := by
  have HRI := Lib.hid (fun (w' : World) (hb : Below w.heap.size w w') => Right_any p B w' (h.below (hb.mono hB)) (Nat.le_trans hB hb.size))
  have HB0 := Lib.hid ((Below.refl w.heap.size w).alloc (Nat.le_refl _) (.cells p.parts.toArray 24))
  rw [hf] at HRI
  clear h hf
  simp only [PatchD.parts] at HRI HB0 ⊢
  go_enter Tryd.func32, Tryd.ntmps32
  go_wp2_with fail
  have HB1 := Lib.hid (HB0.out.alloc HB0.out.size (.cells #[.string ⟨#[]⟩, .string ⟨#[]⟩, .slice none 0 0] 24))
  have HY1 : Hid (Blk ((w.alloc (.cells #[.string ⟨p.from_.toArray⟩, .string ⟨p.to_.toArray⟩, .slice p.A p.edits.length p.c] 24)).alloc (.cells #[.string ⟨#[]⟩, .string ⟨#[]⟩, .slice none 0 0] 24)) (w.heap.size + 1) 24 #[.string ⟨#[]⟩, .string ⟨#[]⟩, .slice none 0 0]) := Blk.newAt (by simp)
  refine (HRI.out _ HB1.out).mono ?_
  rintro r w2 ⟨rfl, hb2⟩
  have HB3 := Lib.hid (HB1.out.trans (hb2.mono HB1.out.size))
  have HY2 := Lib.hid (HY1.out.below hb2 HY1.out.lt)
  clear hb2 HB0 HB1 HY1 HRI
  have y0 : w2.cell? ⟨w.heap.size + 1, 0, none⟩ = some (.string ⟨#[]⟩) := HY2.out.cell 0
  have y1 : w2.cell? ⟨w.heap.size + 1, 1, none⟩ = some (.string ⟨#[]⟩) := HY2.out.cell 1
  have y2 : w2.cell? ⟨w.heap.size + 1, 2, none⟩ = some (.slice none 0 0) := HY2.out.cell 2
  have f0 := HY2.out.frozen 0
  have f1 := HY2.out.frozen 1
  have f2 := HY2.out.frozen 2
  go_wp2
  exact bodyPost_ret (v := .tuple #[.agg #[.string ⟨#[]⟩, .string ⟨#[]⟩, .slice none 0 0], .int .i64 7]) (by simp [results, Tryd.results32, go_sem, y0, y1, y2]) rfl ⟨rfl, ((HB3.out.setCell (p := ⟨w.heap.size + 1, 0, none⟩) (Nat.le_succ _) _).setCell (p := ⟨w.heap.size + 1, 1, none⟩) (Nat.le_succ _) _).setCell (p := ⟨w.heap.size + 1, 2, none⟩) (Nat.le_succ _) _⟩

set_option maxHeartbeats 2000000 in
set_option maxRecDepth 100000 in
theorem fitting_no2 (p : PatchD) (B : Nat) (w : World) (h : p.Ok w B) (hB : B ≤ w.heap.size) (hlim : (wPatch p).length ≤ 70368744177664) (hr : rightPB p = true) (hf : decide (((wPatch p).length : Int) ≤ 65536) = false) :
    Calls Tryd.prog 32 #[.agg p.parts.toArray] w fun r w' => r = .returned (.tuple #[.agg #[.string ⟨#[]⟩, .string ⟨#[]⟩, .slice none 0 0], .int .i64 7]) ∧ Below w.heap.size w w' := by
  have HRI := Lib.hid (fun (w' : World) (hb : Below w.heap.size w w') => Right_any p B w' (h.below (hb.mono hB)) (Nat.le_trans hB hb.size))
  have HSI := Lib.hid (fun (w' : World) (hb : Below w.heap.size w w') => Size_any p B w' (h.below (hb.mono hB)) (Nat.le_trans hB hb.size) hlim)
  have HB0 := Lib.hid ((Below.refl w.heap.size w).alloc (Nat.le_refl _) (.cells p.parts.toArray 24))
  have HX0 := Lib.hid (Blk.new w 24 p.parts.toArray)
  rw [hr] at HRI
  have hsz : 65536 < ((wPatch p).length : Int) := by have := of_decide_eq_false hf; omega
  clear h hf hr hlim
  generalize ((wPatch p).length : Int) = n at HSI hsz
  simp only [PatchD.parts] at HRI HSI HB0 HX0 ⊢
  go_enter Tryd.func32, Tryd.ntmps32
  go_wp2_with fail
  have HB1 := Lib.hid (HB0.out.alloc HB0.out.size (.cells #[.string ⟨#[]⟩, .string ⟨#[]⟩, .slice none 0 0] 24))
  have HX1 := Lib.hid (HX0.out.alloc (.cells #[.string ⟨#[]⟩, .string ⟨#[]⟩, .slice none 0 0] 24))
  have HY1 : Hid (Blk ((w.alloc (.cells #[.string ⟨p.from_.toArray⟩, .string ⟨p.to_.toArray⟩, .slice p.A p.edits.length p.c] 24)).alloc (.cells #[.string ⟨#[]⟩, .string ⟨#[]⟩, .slice none 0 0] 24)) (w.heap.size + 1) 24 #[.string ⟨#[]⟩, .string ⟨#[]⟩, .slice none 0 0]) := Blk.newAt (by simp)
  refine (HRI.out _ HB1.out).mono ?_
  rintro r w2 ⟨rfl, hb2⟩
  have HB2 := Lib.hid (HB1.out.trans (hb2.mono HB1.out.size))
  have HX2 := Lib.hid (HX1.out.below hb2 HX1.out.lt)
  have HY2 := Lib.hid (HY1.out.below hb2 HY1.out.lt)
  clear hb2 HB0 HX0 HB1 HX1 HY1 HRI
  have c0 : w2.cell? ⟨w.heap.size, 0, none⟩ = some (.string ⟨p.from_.toArray⟩) := HX2.out.cell 0
  have c1 : w2.cell? ⟨w.heap.size, 1, none⟩ = some (.string ⟨p.to_.toArray⟩) := HX2.out.cell 1
  have c2 : w2.cell? ⟨w.heap.size, 2, none⟩ = some (.slice p.A p.edits.length p.c) := HX2.out.cell 2
  have HS2 := Lib.hid (HSI.out w2 HB2.out)
  go_wp2_with fail
  refine (HS2.out).mono ?_
  rintro r w3 ⟨rfl, hb3⟩
  have HB3 := Lib.hid (HB2.out.trans (hb3.mono HB2.out.size))
  have HY3 := Lib.hid (HY2.out.below hb3 HY2.out.lt)
  clear hb3 c0 c1 c2 HS2 HSI HB2 HX2 HY2
  have y0 : w3.cell? ⟨w.heap.size + 1, 0, none⟩ = some (.string ⟨#[]⟩) := HY3.out.cell 0
  have y1 : w3.cell? ⟨w.heap.size + 1, 1, none⟩ = some (.string ⟨#[]⟩) := HY3.out.cell 1
  have y2 : w3.cell? ⟨w.heap.size + 1, 2, none⟩ = some (.slice none 0 0) := HY3.out.cell 2
  have f0 := HY3.out.frozen 0
  have f1 := HY3.out.frozen 1
  have f2 := HY3.out.frozen 2
  go_wp2
  exact bodyPost_ret (v := .tuple #[.agg #[.string ⟨#[]⟩, .string ⟨#[]⟩, .slice none 0 0], .int .i64 7]) (by simp [results, Tryd.results32, go_sem, y0, y1, y2]) rfl ⟨rfl, ((HB3.out.setCell (p := ⟨w.heap.size + 1, 0, none⟩) (Nat.le_succ _) _).setCell (p := ⟨w.heap.size + 1, 1, none⟩) (Nat.le_succ _) _).setCell (p := ⟨w.heap.size + 1, 2, none⟩) (Nat.le_succ _) _⟩

def PatchD.nil : PatchD := ⟨[], [], none, 0, []⟩
def fitP (p : PatchD) : PatchD := if fitB p then p else PatchD.nil
def fitE (p : PatchD) : Int := if fitB p then 0 else 7
theorem fitP_pd (p : PatchD) : ((fitP p).pd, fitE p) = fitPD p := by
  unfold fitP fitE fitPD
  split <;> rfl
/-- fitting. -/
theorem fitting_any (p : PatchD) (B : Nat) (w : World) (h : p.Ok w B) (hB : B ≤ w.heap.size) :
    Calls Tryd.prog 32 #[.agg p.parts.toArray] w fun r w' => r = .returned (.tuple #[.agg (fitP p).parts.toArray, .int .i64 (fitE p)]) ∧ Below w.heap.size w w' := by
  unfold fitP fitE
  cases hr : rightPB p with
  | false =>
    have hf : fitB p = false := by unfold fitB; rw [hr]; rfl
    rw [hf]
    exact fitting_no1 p B w h hB hr
  | true =>
    have hlim := wPatch_right_le p h hr
    cases hs : decide (((wPatch p).length : Int) ≤ 65536) with
    | false =>
      have hf : fitB p = false := by unfold fitB; rw [hr, hs]; rfl
      rw [hf]
      exact fitting_no2 p B w h hB hlim hr hs
    | true =>
      have hf : fitB p = true := by unfold fitB; rw [hr, hs]; rfl
      rw [hf]
      exact fitting_yes p B w h hB hlim hf

end Go.Proofs.YtefgajipakjpeaaDoor
