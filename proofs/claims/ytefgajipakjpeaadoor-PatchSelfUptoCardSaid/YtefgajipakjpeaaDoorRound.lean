/-
  Plain Lean: what is written of an image is read back. Conditions: those in each theorem's own statement.
-/
import Derived.Test.YtefgajipakjpeaaDoorImR
namespace Go.Proofs.YtefgajipakjpeaaDoor
open Go.RowKit

/-- A reader reads back what is written of a value. -/
def Reads1 {α : Type} (f : St → α × St) (w : List UInt8) (a : α) : Prop := ∀ (t : List UInt8), f ⟨w ++ t, false⟩ = (a, ⟨t, false⟩)
theorem Reads1.text {l : List UInt8} (h : l.length ≤ maxLen) : Reads1 rText (wText l) l := fun t => rText_w l t false (by unfold maxLen at h; omega)
theorem Reads1.int {n : Int} (h : I64 n) : Reads1 rInt (wInt n) n := fun t => rInt_w n t false h
theorem Reads1.pure {α : Type} (a : α) : Reads1 (fun s => (a, s)) [] a := fun _ => rfl
theorem Reads1.bind {α β : Type} {f : St → α × St} {g : α → St → β × St} {w w' : List UInt8} {a : α} {b : β} (hf : Reads1 f w a) (hg : Reads1 (g a) w' b) : Reads1 (bR f g) (w ++ w') b := fun t => by
  unfold bR
  rw [List.append_assoc, hf]
  exact hg t
theorem Reads1.last {α β : Type} {f : St → α × St} {g : α → St → β × St} {w : List UInt8} {a : α} {b : β} (hf : Reads1 f w a) (hg : Reads1 (g a) [] b) : Reads1 (bR f g) w b := by
  have h := hf.bind hg
  rw [List.append_nil] at h
  exact h
theorem Reads1.assoc {α : Type} {f : St → α × St} {w w' : List UInt8} {a : α} (h : Reads1 f w a) (e : w = w') : Reads1 f w' a := e ▸ h
theorem Reads1.lst {α β : Type} {f : St → β × St} {w : α → List UInt8} {pl : α → β} {l : List α} (hl : l.length < 2 ^ 63) (h : ∀ a ∈ l, Reads1 f (w a) (pl a)) : Reads1 (rLst f) (wList w l) (l.map pl) := fun t => by
  have hit : ∀ (l : List α) (t : List UInt8), (∀ a ∈ l, Reads1 f (w a) (pl a)) → rItems f l.length ⟨l.flatMap w ++ t, false⟩ = (l.map pl, ⟨t, false⟩) := by
    intro l
    induction l with
    | nil => intro t _; rfl
    | cons a l ih =>
      intro t h
      have h1 : (a :: l).flatMap w ++ t = w a ++ (l.flatMap w ++ t) := by rw [List.flatMap_cons, List.append_assoc]
      rw [h1, List.length_cons]
      unfold rItems
      rw [if_neg (by simp), h a List.mem_cons_self]
      simp only
      rw [ih t (fun x hx => h x (List.mem_cons_of_mem _ hx))]
      rfl
  unfold rLst wList
  rw [List.append_assoc, rNum_w _ _ _ hl]
  exact hit l t h

theorem boolI_ne (b : Bool) : (boolI b != 0) = b := by cases b <;> rfl
theorem wList_pl {α β : Type} {w : α → List UInt8} {w' : β → List UInt8} {pl : α → β} (h : ∀ x, w x = w' (pl x)) (l : List α) : wList w l = wList w' (l.map pl) := by
  unfold wList
  rw [List.length_map, List.flatMap_map]
  congr 1
  exact congrArg (fun k => l.flatMap k) (funext h)
theorem rInt__w (x : Int_D) (h : x.Ok) : Reads1 rInt_ (wInt_ x) x.pl := by
  have key : Reads1 rInt_ (wInt_ x) (⟨x.f0⟩ : Int_D) := Reads1.assoc (Reads1.last (Reads1.int h.f0) (Reads1.pure _)) (by simp only [wInt_, List.append_assoc])
  exact key
theorem rStr_w (x : StrD) (h : x.Ok) : Reads1 rStr (wStr x) x.pl := by
  have key : Reads1 rStr (wStr x) (⟨x.f0⟩ : StrD) := Reads1.assoc (Reads1.last (Reads1.text h.f0) (Reads1.pure _)) (by simp only [wStr, List.append_assoc])
  exact key
theorem rPiece_w (x : PieceD) (h : x.Ok) : Reads1 rPiece (wPiece x) x.pl := by
  have key : Reads1 rPiece (wPiece x) (⟨x.f0, x.f1, x.f2⟩ : PieceD) := Reads1.assoc (Reads1.bind (Reads1.int h.f0) (Reads1.bind (Reads1.int h.f1) (Reads1.last (Reads1.int h.f2) (Reads1.pure _)))) (by simp only [wPiece, List.append_assoc])
  exact key
theorem rPlaced_w (x : PlacedD) (h : x.Ok) : Reads1 rPlaced (wPlaced x) x.pl := by
  have key : Reads1 rPlaced (wPlaced x) (⟨x.f0, x.f1, x.f2, x.f3, x.f4, x.f5, x.f6⟩ : PlacedD) := Reads1.assoc (Reads1.bind (Reads1.text h.f0) (Reads1.bind (Reads1.text h.f1) (Reads1.bind (Reads1.int h.f2) (Reads1.bind (Reads1.int h.f3) (Reads1.bind (Reads1.int h.f4) (Reads1.bind (Reads1.text h.f5) (Reads1.last (Reads1.text h.f6) (Reads1.pure _)))))))) (by simp only [wPlaced, List.append_assoc])
  exact key
theorem rExport_w (x : ExportD) (h : x.Ok) : Reads1 rExport (wExport x) x.pl := by
  have key : Reads1 rExport (wExport x) (⟨x.f0, x.f1, boolI x.f2 != 0, x.f3, x.f4, x.f5⟩ : ExportD) := Reads1.assoc (Reads1.bind (Reads1.text h.f0) (Reads1.bind (Reads1.text h.f1) (Reads1.bind (Reads1.int (boolI_I64 x.f2)) (Reads1.bind (Reads1.int h.f3) (Reads1.bind (Reads1.int h.f4) (Reads1.last (Reads1.int h.f5) (Reads1.pure _))))))) (by simp only [wExport, List.append_assoc])
  simp only [boolI_ne] at key
  exact key
theorem rImport_w (x : ImportD) (h : x.Ok) : Reads1 rImport (wImport x) x.pl := by
  have key : Reads1 rImport (wImport x) (⟨x.f0, x.f1, x.f2, boolI x.f3 != 0, boolI x.f4 != 0⟩ : ImportD) := Reads1.assoc (Reads1.bind (Reads1.text h.f0) (Reads1.bind (Reads1.text h.f1) (Reads1.bind (Reads1.int h.f2) (Reads1.bind (Reads1.int (boolI_I64 x.f3)) (Reads1.last (Reads1.int (boolI_I64 x.f4)) (Reads1.pure _)))))) (by simp only [wImport, List.append_assoc])
  simp only [boolI_ne] at key
  exact key
theorem rDyn_w (x : DynD) (h : x.Ok) : Reads1 rDyn (wDyn x) x.pl := by
  have key : Reads1 rDyn (wDyn x) (⟨x.f0, x.f1, x.f2, x.f3⟩ : DynD) := Reads1.assoc (Reads1.bind (Reads1.int h.f0) (Reads1.bind (Reads1.int h.f1) (Reads1.bind (Reads1.int h.f2) (Reads1.last (Reads1.int h.f3) (Reads1.pure _))))) (by simp only [wDyn, List.append_assoc])
  exact key
theorem rVerDef_w (x : VerDefD) (h : x.Ok) (hl1 : x.f1.xs.length ≤ maxLen) : Reads1 rVerDef (wVerDef x) x.pl := by
  have key : Reads1 rVerDef (wVerDef x) (⟨x.f0, x.f1.xs.map StrD.pl⟩ : VerDefP) := Reads1.assoc (Reads1.bind (Reads1.text h.f0) (Reads1.last (Reads1.lst (by unfold maxLen at hl1; omega) (fun y hy => rStr_w y (h.f1 y hy))) (Reads1.pure _))) (by simp only [wVerDef, List.append_assoc])
  rw [show x.f1.xs.map StrD.pl = x.f1.xs from List.map_id _] at key
  exact key
theorem rConv_w (x : ConvD) (h : x.Ok) (hl3 : x.f3.xs.length ≤ maxLen) : Reads1 rConv (wConv x) x.pl := by
  have key : Reads1 rConv (wConv x) (⟨x.f0, x.f1, x.f2, x.f3.xs.map PieceD.pl, x.f4⟩ : ConvP) := Reads1.assoc (Reads1.bind (Reads1.text h.f0) (Reads1.bind (Reads1.text h.f1) (Reads1.bind (Reads1.text h.f2) (Reads1.bind (Reads1.lst (by unfold maxLen at hl3; omega) (fun y hy => rPiece_w y (h.f3 y hy))) (Reads1.last (Reads1.int h.f4) (Reads1.pure _)))))) (by simp only [wConv, List.append_assoc])
  rw [show x.f3.xs.map PieceD.pl = x.f3.xs from List.map_id _] at key
  exact key
theorem rMark_w (x : MarkD) (h : x.Ok) : Reads1 rMark (wMark x) x.pl := by
  have key : Reads1 rMark (wMark x) (⟨x.f0, x.f1, x.f2, x.f3⟩ : MarkD) := Reads1.assoc (Reads1.bind (Reads1.text h.f0) (Reads1.bind (Reads1.int h.f1) (Reads1.bind (Reads1.int h.f2) (Reads1.last (Reads1.int h.f3) (Reads1.pure _))))) (by simp only [wMark, List.append_assoc])
  exact key
theorem rLine_w (x : LineD) (h : x.Ok) : Reads1 rLine (wLine x) x.pl := by
  have key : Reads1 rLine (wLine x) (⟨x.f0, x.f1, x.f2, x.f3⟩ : LineD) := Reads1.assoc (Reads1.bind (Reads1.int h.f0) (Reads1.bind (Reads1.int h.f1) (Reads1.bind (Reads1.text h.f2) (Reads1.last (Reads1.int h.f3) (Reads1.pure _))))) (by simp only [wLine, List.append_assoc])
  exact key
theorem rSpan_w (x : SpanD) (h : x.Ok) : Reads1 rSpan (wSpan x) x.pl := by
  have key : Reads1 rSpan (wSpan x) (⟨x.f0, x.f1⟩ : SpanD) := Reads1.assoc (Reads1.bind (Reads1.int h.f0) (Reads1.last (Reads1.int h.f1) (Reads1.pure _))) (by simp only [wSpan, List.append_assoc])
  exact key
theorem rInline_w (x : InlineD) (h : x.Ok) : Reads1 rInline (wInline x) x.pl := by
  have key : Reads1 rInline (wInline x) (⟨x.f0, x.f1, x.f2, x.f3, x.f4, x.f5⟩ : InlineD) := Reads1.assoc (Reads1.bind (Reads1.int h.f0) (Reads1.bind (Reads1.int h.f1) (Reads1.bind (Reads1.int h.f2) (Reads1.bind (Reads1.text h.f3) (Reads1.bind (Reads1.text h.f4) (Reads1.last (Reads1.int h.f5) (Reads1.pure _))))))) (by simp only [wInline, List.append_assoc])
  exact key
theorem rVarI_w (x : VarID) (h : x.Ok) : Reads1 rVarI (wVarI x) x.pl := by
  have key : Reads1 rVarI (wVarI x) (⟨x.f0, x.f1, x.f2, x.f3, x.f4, x.f5⟩ : VarID) := Reads1.assoc (Reads1.bind (Reads1.int h.f0) (Reads1.bind (Reads1.int h.f1) (Reads1.bind (Reads1.int h.f2) (Reads1.bind (Reads1.text h.f3) (Reads1.bind (Reads1.int h.f4) (Reads1.last (Reads1.int h.f5) (Reads1.pure _))))))) (by simp only [wVarI, List.append_assoc])
  exact key
theorem rDepth_w (x : DepthD) (h : x.Ok) : Reads1 rDepth (wDepth x) x.pl := by
  have key : Reads1 rDepth (wDepth x) (⟨x.f0, x.f1, x.f2, x.f3⟩ : DepthD) := Reads1.assoc (Reads1.bind (Reads1.int h.f0) (Reads1.bind (Reads1.int h.f1) (Reads1.bind (Reads1.int h.f2) (Reads1.last (Reads1.int h.f3) (Reads1.pure _))))) (by simp only [wDepth, List.append_assoc])
  exact key
def wVerDefP (x : VerDefP) : List UInt8 := wText x.f0 ++ wList wStr x.f1
def wConvP (x : ConvP) : List UInt8 := wText x.f0 ++ wText x.f1 ++ wText x.f2 ++ wList wPiece x.f3 ++ wInt x.f4
def wImageP (x : ImageP) : List UInt8 := wText x.i0 ++ wInt (boolI x.i1) ++ wInt x.i2 ++ wInt x.i3 ++ wInt x.i4 ++ wText x.i5 ++ wText x.i6 ++ wInt x.i7 ++ wList wPlaced x.i8 ++ wList wExport x.i9 ++ wList wImport x.i10 ++ wList wInt_ x.i11 ++ wList wInt_ x.i12 ++ wList wDyn x.i13 ++ wList wInt_ x.i14 ++ wList wInt_ x.i15 ++ wInt x.i16 ++ wList wStr x.i17 ++ wList wVerDefP x.i18 ++ (wList wMark x.i19 ++ wList wLine x.i20 ++ wList wSpan x.i21 ++ wList wInline x.i22 ++ wList wVarI x.i23 ++ wList wDepth x.i24) ++ wList wConvP x.i25
theorem wImage_pl (x : ImageD) : wImage x = wImageP x.pl := by
  obtain ⟨y0, y1, y2, y3, y4, y5, y6, y7, y8, y9, y10, y11, y12, y13, y14, y15, y16, y17, y18, y19, y20, y21, y22, y23, y24, y25⟩ := x
  rw [wImage_eq, wInfo_eq]
  show _ = wText y0 ++ wInt (boolI y1) ++ wInt y2 ++ wInt y3 ++ wInt y4 ++ wText y5 ++ wText y6 ++ wInt y7 ++ wList wPlaced (y8.xs.map PlacedD.pl) ++ wList wExport (y9.xs.map ExportD.pl) ++ wList wImport (y10.xs.map ImportD.pl) ++ wList wInt_ (y11.xs.map Int_D.pl) ++ wList wInt_ (y12.xs.map Int_D.pl) ++ wList wDyn (y13.xs.map DynD.pl) ++ wList wInt_ (y14.xs.map Int_D.pl) ++ wList wInt_ (y15.xs.map Int_D.pl) ++ wInt y16 ++ wList wStr (y17.xs.map StrD.pl) ++ wList wVerDefP (y18.xs.map VerDefD.pl) ++ (wList wMark (y19.xs.map MarkD.pl) ++ wList wLine (y20.xs.map LineD.pl) ++ wList wSpan (y21.xs.map SpanD.pl) ++ wList wInline (y22.xs.map InlineD.pl) ++ wList wVarI (y23.xs.map VarID.pl) ++ wList wDepth (y24.xs.map DepthD.pl)) ++ wList wConvP (y25.xs.map ConvD.pl)
  rw [wList_pl (w := wPlaced) (w' := wPlaced) (pl := PlacedD.pl) (fun _ => rfl) y8.xs]
  rw [wList_pl (w := wExport) (w' := wExport) (pl := ExportD.pl) (fun _ => rfl) y9.xs]
  rw [wList_pl (w := wImport) (w' := wImport) (pl := ImportD.pl) (fun _ => rfl) y10.xs]
  rw [wList_pl (w := wInt_) (w' := wInt_) (pl := Int_D.pl) (fun _ => rfl) y11.xs]
  rw [wList_pl (w := wInt_) (w' := wInt_) (pl := Int_D.pl) (fun _ => rfl) y12.xs]
  rw [wList_pl (w := wDyn) (w' := wDyn) (pl := DynD.pl) (fun _ => rfl) y13.xs]
  rw [wList_pl (w := wInt_) (w' := wInt_) (pl := Int_D.pl) (fun _ => rfl) y14.xs]
  rw [wList_pl (w := wInt_) (w' := wInt_) (pl := Int_D.pl) (fun _ => rfl) y15.xs]
  rw [wList_pl (w := wStr) (w' := wStr) (pl := StrD.pl) (fun _ => rfl) y17.xs]
  rw [wList_pl (w := wVerDef) (w' := wVerDefP) (pl := VerDefD.pl) (fun _ => rfl) y18.xs]
  rw [wList_pl (w := wMark) (w' := wMark) (pl := MarkD.pl) (fun _ => rfl) y19.xs]
  rw [wList_pl (w := wLine) (w' := wLine) (pl := LineD.pl) (fun _ => rfl) y20.xs]
  rw [wList_pl (w := wSpan) (w' := wSpan) (pl := SpanD.pl) (fun _ => rfl) y21.xs]
  rw [wList_pl (w := wInline) (w' := wInline) (pl := InlineD.pl) (fun _ => rfl) y22.xs]
  rw [wList_pl (w := wVarI) (w' := wVarI) (pl := VarID.pl) (fun _ => rfl) y23.xs]
  rw [wList_pl (w := wDepth) (w' := wDepth) (pl := DepthD.pl) (fun _ => rfl) y24.xs]
  rw [wList_pl (w := wConv) (w' := wConvP) (pl := ConvD.pl) (fun _ => rfl) y25.xs]
structure ImageD.Lens (x : ImageD) : Prop where
  i8 : x.i8.xs.length ≤ maxLen
  i9 : x.i9.xs.length ≤ maxLen
  i10 : x.i10.xs.length ≤ maxLen
  i11 : x.i11.xs.length ≤ maxLen
  i12 : x.i12.xs.length ≤ maxLen
  i13 : x.i13.xs.length ≤ maxLen
  i14 : x.i14.xs.length ≤ maxLen
  i15 : x.i15.xs.length ≤ maxLen
  i17 : x.i17.xs.length ≤ maxLen
  i18 : x.i18.xs.length ≤ maxLen
  i19 : x.i19.xs.length ≤ maxLen
  i20 : x.i20.xs.length ≤ maxLen
  i21 : x.i21.xs.length ≤ maxLen
  i22 : x.i22.xs.length ≤ maxLen
  i23 : x.i23.xs.length ≤ maxLen
  i24 : x.i24.xs.length ≤ maxLen
  i25 : x.i25.xs.length ≤ maxLen
  n18 : ∀ y ∈ x.i18.xs, y.f1.xs.length ≤ maxLen
  n25 : ∀ y ∈ x.i25.xs, y.f3.xs.length ≤ maxLen
theorem ImageD.In.lens {x : ImageD} {w : World} {B : Nat} (h : x.In w B) : x.Lens := ⟨h.i8.len, h.i9.len, h.i10.len, h.i11.len, h.i12.len, h.i13.len, h.i14.len, h.i15.len, h.i17.len, h.i18.len, h.i19.len, h.i20.len, h.i21.len, h.i22.len, h.i23.len, h.i24.len, h.i25.len, fun y hy => (h.n18 y hy).len, fun y hy => (h.n25 y hy).len⟩
theorem rInfo_w (x : ImageD) (h : x.Ok) (hL : x.Lens) : Reads1 rInfo (wInfo x) (⟨x.i19.xs.map MarkD.pl, x.i20.xs.map LineD.pl, x.i21.xs.map SpanD.pl, x.i22.xs.map InlineD.pl, x.i23.xs.map VarID.pl, x.i24.xs.map DepthD.pl⟩ : InfoP) := Reads1.assoc (Reads1.bind (Reads1.lst (by have := hL.i19; unfold maxLen at this; omega) (fun y hy => rMark_w y (h.i19 y hy))) (Reads1.bind (Reads1.lst (by have := hL.i20; unfold maxLen at this; omega) (fun y hy => rLine_w y (h.i20 y hy))) (Reads1.bind (Reads1.lst (by have := hL.i21; unfold maxLen at this; omega) (fun y hy => rSpan_w y (h.i21 y hy))) (Reads1.bind (Reads1.lst (by have := hL.i22; unfold maxLen at this; omega) (fun y hy => rInline_w y (h.i22 y hy))) (Reads1.bind (Reads1.lst (by have := hL.i23; unfold maxLen at this; omega) (fun y hy => rVarI_w y (h.i23 y hy))) (Reads1.last (Reads1.lst (by have := hL.i24; unfold maxLen at this; omega) (fun y hy => rDepth_w y (h.i24 y hy))) (Reads1.pure _))))))) (by simp only [wInfo, List.append_assoc])
theorem rImage_w (x : ImageD) (h : x.Ok) (hL : x.Lens) : Reads1 rImage (wImage x) x.pl := by
  have key : Reads1 rImage (wImage x) (⟨x.i0, boolI x.i1 != 0, x.i2, x.i3, x.i4, x.i5, x.i6, x.i7, x.i8.xs.map PlacedD.pl, x.i9.xs.map ExportD.pl, x.i10.xs.map ImportD.pl, x.i11.xs.map Int_D.pl, x.i12.xs.map Int_D.pl, x.i13.xs.map DynD.pl, x.i14.xs.map Int_D.pl, x.i15.xs.map Int_D.pl, x.i16, x.i17.xs.map StrD.pl, x.i18.xs.map VerDefD.pl, x.i19.xs.map MarkD.pl, x.i20.xs.map LineD.pl, x.i21.xs.map SpanD.pl, x.i22.xs.map InlineD.pl, x.i23.xs.map VarID.pl, x.i24.xs.map DepthD.pl, x.i25.xs.map ConvD.pl⟩ : ImageP) := by
    refine Reads1.assoc (Reads1.bind (Reads1.text h.i0) (Reads1.bind (Reads1.int (boolI_I64 x.i1)) (Reads1.bind (Reads1.int h.i2) (Reads1.bind (Reads1.int h.i3) (Reads1.bind (Reads1.int h.i4) (Reads1.bind (Reads1.text h.i5) (Reads1.bind (Reads1.text h.i6) (Reads1.bind (Reads1.int h.i7) (Reads1.bind (Reads1.lst (by have := hL.i8; unfold maxLen at this; omega) (fun y hy => rPlaced_w y (h.i8 y hy))) (Reads1.bind (Reads1.lst (by have := hL.i9; unfold maxLen at this; omega) (fun y hy => rExport_w y (h.i9 y hy))) (Reads1.bind (Reads1.lst (by have := hL.i10; unfold maxLen at this; omega) (fun y hy => rImport_w y (h.i10 y hy))) (Reads1.bind (Reads1.lst (by have := hL.i11; unfold maxLen at this; omega) (fun y hy => rInt__w y (h.i11 y hy))) (Reads1.bind (Reads1.lst (by have := hL.i12; unfold maxLen at this; omega) (fun y hy => rInt__w y (h.i12 y hy))) (Reads1.bind (Reads1.lst (by have := hL.i13; unfold maxLen at this; omega) (fun y hy => rDyn_w y (h.i13 y hy))) (Reads1.bind (Reads1.lst (by have := hL.i14; unfold maxLen at this; omega) (fun y hy => rInt__w y (h.i14 y hy))) (Reads1.bind (Reads1.lst (by have := hL.i15; unfold maxLen at this; omega) (fun y hy => rInt__w y (h.i15 y hy))) (Reads1.bind (Reads1.int h.i16) (Reads1.bind (Reads1.lst (by have := hL.i17; unfold maxLen at this; omega) (fun y hy => rStr_w y (h.i17 y hy))) (Reads1.bind (Reads1.lst (by have := hL.i18; unfold maxLen at this; omega) (fun y hy => rVerDef_w y (h.i18 y hy) (hL.n18 y hy))) (Reads1.bind (rInfo_w x h hL) (Reads1.last (Reads1.lst (by have := hL.i25; unfold maxLen at this; omega) (fun y hy => rConv_w y (h.i25 y hy) (hL.n25 y hy))) (Reads1.pure _)))))))))))))))))))))) ?_
    unfold wImage
    generalize wInfo x = inf
    simp only [List.append_assoc]
  simp only [boolI_ne] at key
  exact key

end Go.Proofs.YtefgajipakjpeaaDoor
