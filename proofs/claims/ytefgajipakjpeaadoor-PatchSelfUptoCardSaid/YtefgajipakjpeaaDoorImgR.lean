/-
  Plain Lean: what a coder reads of an image's lists. No conditions.
-/
import Derived.Test.YtefgajipakjpeaaDoorCoderR
namespace Go.Proofs.YtefgajipakjpeaaDoor
open Go.RowKit

/-- A list that image.list reads. -/
def rLst {α : Type} (f : St → α × St) (s : St) : List α × St := rItems f (rNum s).1 (rNum s).2
theorem rItems_rest_le {α : Type} (f : St → α × St) (hr : ∀ s, (f s).2.rest.length ≤ s.rest.length) : ∀ (n : Nat) (s : St), (rItems f n s).2.rest.length ≤ s.rest.length
  | 0, s => by simp [rItems]
  | n + 1, s => by
    unfold rItems
    split
    · simp
    · exact Nat.le_trans (rItems_rest_le f hr n _) (hr s)
theorem rLst_rest_le {α : Type} (f : St → α × St) (hr : ∀ s, (f s).2.rest.length ≤ s.rest.length) (s : St) : (rLst f s).2.rest.length ≤ s.rest.length := Nat.le_trans (rItems_rest_le f hr _ _) (rNum_rest_le s)
theorem rItems_good {α : Type} (f : St → α × St) (hg : ∀ s, s.Good → (f s).2.Good) : ∀ (n : Nat) (s : St), s.Good → (rItems f n s).2.Good
  | 0, s, h => by simpa [rItems] using h
  | n + 1, s, h => by
    unfold rItems
    split
    · exact h
    · exact rItems_good f hg n _ (hg s h)
theorem rLst_good {α : Type} (f : St → α × St) (hg : ∀ s, s.Good → (f s).2.Good) (s : St) (h : s.Good) : (rLst f s).2.Good := rItems_good f hg _ _ (rNum_good s h)
theorem rText_less (s : St) (h : (rText s).2.bad = false) : (rText s).2.rest.length < s.rest.length := by
  have h1 := (rText_r s h).1
  have hl := congrArg List.length h1
  have := Lib.uvarint_pos (rText s).1.length
  unfold wText at hl
  simp only [List.length_append] at hl
  omega
theorem rInt_bad (s : St) (h : (rInt s).2.bad = false) : s.bad = false := (rInt_r s h).2
theorem rText_bad (s : St) (h : (rText s).2.bad = false) : s.bad = false := (rText_r s h).2
theorem rNum_bad (s : St) (h : (rNum s).2.bad = false) : s.bad = false := (rNum_r s h).2
theorem rItems_bad {α : Type} (f : St → α × St) (hb : ∀ s, (f s).2.bad = false → s.bad = false) : ∀ (n : Nat) (s : St), (rItems f n s).2.bad = false → s.bad = false
  | 0, s, h => by simpa [rItems] using h
  | n + 1, s, h => by
    unfold rItems at h
    split at h
    · exact h
    · exact hb s (rItems_bad f hb n _ h)
theorem rLst_bad {α : Type} (f : St → α × St) (hb : ∀ s, (f s).2.bad = false → s.bad = false) (s : St) (h : (rLst f s).2.bad = false) : s.bad = false := rNum_bad s (rItems_bad f hb _ _ h)

/-- One reader behind another. -/
def bR {α β : Type} (f : St → α × St) (g : α → St → β × St) (s : St) : β × St := g (f s).1 (f s).2
structure RdrOk {α : Type} (f : St → α × St) : Prop where
  le : ∀ s, (f s).2.rest.length ≤ s.rest.length
  good : ∀ s, s.Good → (f s).2.Good
  bad : ∀ s, (f s).2.bad = false → s.bad = false
def RdrLess {α : Type} (f : St → α × St) : Prop := ∀ s, (f s).2.bad = false → (f s).2.rest.length < s.rest.length
theorem RdrOk.bind {α β : Type} {f : St → α × St} {g : α → St → β × St} (hf : RdrOk f) (hg : ∀ a, RdrOk (g a)) : RdrOk (bR f g) :=
  ⟨fun s => Nat.le_trans ((hg _).le _) (hf.le s), fun s h => (hg _).good _ (hf.good s h), fun s h => hf.bad s ((hg _).bad _ h)⟩
theorem RdrOk.pure {α : Type} (a : α) : RdrOk (fun s => (a, s)) := ⟨fun _ => Nat.le_refl _, fun _ h => h, fun _ h => h⟩
theorem RdrLess.bind {α β : Type} {f : St → α × St} {g : α → St → β × St} (hf : RdrLess f) (hg : ∀ a, RdrOk (g a)) : RdrLess (bR f g) := fun s h =>
  Nat.lt_of_le_of_lt ((hg _).le _) (hf s ((hg _).bad _ h))
theorem RdrOk.text : RdrOk rText := ⟨rText_rest_le, rText_good, rText_bad⟩
theorem RdrOk.int : RdrOk rInt := ⟨rInt_rest_le, rInt_good, rInt_bad⟩
theorem RdrLess.text : RdrLess rText := rText_less
theorem RdrLess.int : RdrLess rInt := rInt_less
theorem RdrOk.lst {α : Type} {f : St → α × St} (h : RdrOk f) : RdrOk (rLst f) := ⟨rLst_rest_le f h.le, rLst_good f h.good, rLst_bad f h.bad⟩

/-- How far a list reader has come: acc has been gathered, k elements are asked for still. -/
structure Came {α : Type} (f : St → α × St) (L n : Nat) (s1 : St) (k : Nat) (acc : List α) (st : St) : Prop where
  eq : rItems f n s1 = (acc ++ (rItems f k st).1, (rItems f k st).2)
  len : acc.length ≤ L + 1
  fits : st.bad = false → acc.length + st.rest.length ≤ L
  rest : st.rest.length ≤ L

theorem Came.start {α : Type} {f : St → α × St} {L n : Nat} {s1 : St} (h : s1.rest.length ≤ L) : Came f L n s1 n [] s1 := ⟨rfl, by simp, fun _ => by simpa using h, h⟩
theorem Came.step {α : Type} {f : St → α × St} {L n k : Nat} {s1 st : St} {acc : List α} (hf : ∀ s, (f s).2.bad = false → (f s).2.rest.length < s.rest.length) (hr : ∀ s, (f s).2.rest.length ≤ s.rest.length)
    (h : Came f L n s1 (k + 1) acc st) (hb : st.bad = false) : Came f L n s1 k (acc ++ [(f st).1]) (f st).2 := by
  obtain ⟨h1, h2, h3, h4⟩ := h
  have h5 := h3 hb
  refine ⟨?_, by rw [List.length_append, List.length_singleton]; omega, fun hb2 => ?_, Nat.le_trans (hr st) h4⟩
  · rw [h1]
    simp only [rItems, hb, Bool.false_eq_true, if_false, List.append_assoc, List.singleton_append]
  · have := hf st hb2
    rw [List.length_append, List.length_singleton]
    omega
theorem Came.stop {α : Type} {f : St → α × St} {L n k : Nat} {s1 st : St} {acc : List α} (h : Came f L n s1 k acc st) (hb : k = 0 ∨ st.bad = true) : rItems f n s1 = (acc, st) := by
  rw [h.eq]
  rcases hb with rfl | hb
  · simp [rItems]
  · cases k <;> simp [rItems, hb]

def Int_D.pl (x : Int_D) : Int_D := x
def rInt_ : St → Int_D × St := bR rInt fun z0 => fun s => (⟨z0⟩, s)
theorem rInt__rok : RdrOk rInt_ := (RdrOk.int).bind fun _ => RdrOk.pure _
theorem rInt__less : RdrLess rInt_ := RdrLess.bind RdrLess.int fun _ => RdrOk.pure _

def StrD.pl (x : StrD) : StrD := x
def rStr : St → StrD × St := bR rText fun z0 => fun s => (⟨z0⟩, s)
theorem rStr_rok : RdrOk rStr := (RdrOk.text).bind fun _ => RdrOk.pure _
theorem rStr_less : RdrLess rStr := RdrLess.bind RdrLess.text fun _ => RdrOk.pure _

def PieceD.pl (x : PieceD) : PieceD := x
def rPiece : St → PieceD × St := bR rInt fun z0 => bR rInt fun z1 => bR rInt fun z2 => fun s => (⟨z0, z1, z2⟩, s)
theorem rPiece_rok : RdrOk rPiece := (RdrOk.int).bind fun _ => (RdrOk.int).bind fun _ => (RdrOk.int).bind fun _ => RdrOk.pure _
theorem rPiece_less : RdrLess rPiece := RdrLess.bind RdrLess.int fun _ => (RdrOk.int).bind fun _ => (RdrOk.int).bind fun _ => RdrOk.pure _

def PlacedD.pl (x : PlacedD) : PlacedD := x
def rPlaced : St → PlacedD × St := bR rText fun z0 => bR rText fun z1 => bR rInt fun z2 => bR rInt fun z3 => bR rInt fun z4 => bR rText fun z5 => bR rText fun z6 => fun s => (⟨z0, z1, z2, z3, z4, z5, z6⟩, s)
theorem rPlaced_rok : RdrOk rPlaced := (RdrOk.text).bind fun _ => (RdrOk.text).bind fun _ => (RdrOk.int).bind fun _ => (RdrOk.int).bind fun _ => (RdrOk.int).bind fun _ => (RdrOk.text).bind fun _ => (RdrOk.text).bind fun _ => RdrOk.pure _
theorem rPlaced_less : RdrLess rPlaced := RdrLess.bind RdrLess.text fun _ => (RdrOk.text).bind fun _ => (RdrOk.int).bind fun _ => (RdrOk.int).bind fun _ => (RdrOk.int).bind fun _ => (RdrOk.text).bind fun _ => (RdrOk.text).bind fun _ => RdrOk.pure _

def ExportD.pl (x : ExportD) : ExportD := x
def rExport : St → ExportD × St := bR rText fun z0 => bR rText fun z1 => bR rInt fun z2 => bR rInt fun z3 => bR rInt fun z4 => bR rInt fun z5 => fun s => (⟨z0, z1, z2 != 0, z3, z4, z5⟩, s)
theorem rExport_rok : RdrOk rExport := (RdrOk.text).bind fun _ => (RdrOk.text).bind fun _ => (RdrOk.int).bind fun _ => (RdrOk.int).bind fun _ => (RdrOk.int).bind fun _ => (RdrOk.int).bind fun _ => RdrOk.pure _
theorem rExport_less : RdrLess rExport := RdrLess.bind RdrLess.text fun _ => (RdrOk.text).bind fun _ => (RdrOk.int).bind fun _ => (RdrOk.int).bind fun _ => (RdrOk.int).bind fun _ => (RdrOk.int).bind fun _ => RdrOk.pure _

def ImportD.pl (x : ImportD) : ImportD := x
def rImport : St → ImportD × St := bR rText fun z0 => bR rText fun z1 => bR rInt fun z2 => bR rInt fun z3 => bR rInt fun z4 => fun s => (⟨z0, z1, z2, z3 != 0, z4 != 0⟩, s)
theorem rImport_rok : RdrOk rImport := (RdrOk.text).bind fun _ => (RdrOk.text).bind fun _ => (RdrOk.int).bind fun _ => (RdrOk.int).bind fun _ => (RdrOk.int).bind fun _ => RdrOk.pure _
theorem rImport_less : RdrLess rImport := RdrLess.bind RdrLess.text fun _ => (RdrOk.text).bind fun _ => (RdrOk.int).bind fun _ => (RdrOk.int).bind fun _ => (RdrOk.int).bind fun _ => RdrOk.pure _

def DynD.pl (x : DynD) : DynD := x
def rDyn : St → DynD × St := bR rInt fun z0 => bR rInt fun z1 => bR rInt fun z2 => bR rInt fun z3 => fun s => (⟨z0, z1, z2, z3⟩, s)
theorem rDyn_rok : RdrOk rDyn := (RdrOk.int).bind fun _ => (RdrOk.int).bind fun _ => (RdrOk.int).bind fun _ => (RdrOk.int).bind fun _ => RdrOk.pure _
theorem rDyn_less : RdrLess rDyn := RdrLess.bind RdrLess.int fun _ => (RdrOk.int).bind fun _ => (RdrOk.int).bind fun _ => (RdrOk.int).bind fun _ => RdrOk.pure _

structure VerDefP where
  f0 : List UInt8
  f1 : List StrD
def VerDefD.pl (x : VerDefD) : VerDefP := ⟨x.f0, x.f1.xs⟩
def rVerDef : St → VerDefP × St := bR rText fun z0 => bR (rLst rStr) fun z1 => fun s => (⟨z0, z1⟩, s)
theorem rVerDef_rok : RdrOk rVerDef := (RdrOk.text).bind fun _ => (rStr_rok.lst).bind fun _ => RdrOk.pure _
theorem rVerDef_less : RdrLess rVerDef := RdrLess.bind RdrLess.text fun _ => (rStr_rok.lst).bind fun _ => RdrOk.pure _

structure ConvP where
  f0 : List UInt8
  f1 : List UInt8
  f2 : List UInt8
  f3 : List PieceD
  f4 : Int
def ConvD.pl (x : ConvD) : ConvP := ⟨x.f0, x.f1, x.f2, x.f3.xs, x.f4⟩
def rConv : St → ConvP × St := bR rText fun z0 => bR rText fun z1 => bR rText fun z2 => bR (rLst rPiece) fun z3 => bR rInt fun z4 => fun s => (⟨z0, z1, z2, z3, z4⟩, s)
theorem rConv_rok : RdrOk rConv := (RdrOk.text).bind fun _ => (RdrOk.text).bind fun _ => (RdrOk.text).bind fun _ => (rPiece_rok.lst).bind fun _ => (RdrOk.int).bind fun _ => RdrOk.pure _
theorem rConv_less : RdrLess rConv := RdrLess.bind RdrLess.text fun _ => (RdrOk.text).bind fun _ => (RdrOk.text).bind fun _ => (rPiece_rok.lst).bind fun _ => (RdrOk.int).bind fun _ => RdrOk.pure _

def MarkD.pl (x : MarkD) : MarkD := x
def rMark : St → MarkD × St := bR rText fun z0 => bR rInt fun z1 => bR rInt fun z2 => bR rInt fun z3 => fun s => (⟨z0, z1, z2, z3⟩, s)
theorem rMark_rok : RdrOk rMark := (RdrOk.text).bind fun _ => (RdrOk.int).bind fun _ => (RdrOk.int).bind fun _ => (RdrOk.int).bind fun _ => RdrOk.pure _
theorem rMark_less : RdrLess rMark := RdrLess.bind RdrLess.text fun _ => (RdrOk.int).bind fun _ => (RdrOk.int).bind fun _ => (RdrOk.int).bind fun _ => RdrOk.pure _

def LineD.pl (x : LineD) : LineD := x
def rLine : St → LineD × St := bR rInt fun z0 => bR rInt fun z1 => bR rText fun z2 => bR rInt fun z3 => fun s => (⟨z0, z1, z2, z3⟩, s)
theorem rLine_rok : RdrOk rLine := (RdrOk.int).bind fun _ => (RdrOk.int).bind fun _ => (RdrOk.text).bind fun _ => (RdrOk.int).bind fun _ => RdrOk.pure _
theorem rLine_less : RdrLess rLine := RdrLess.bind RdrLess.int fun _ => (RdrOk.int).bind fun _ => (RdrOk.text).bind fun _ => (RdrOk.int).bind fun _ => RdrOk.pure _

def SpanD.pl (x : SpanD) : SpanD := x
def rSpan : St → SpanD × St := bR rInt fun z0 => bR rInt fun z1 => fun s => (⟨z0, z1⟩, s)
theorem rSpan_rok : RdrOk rSpan := (RdrOk.int).bind fun _ => (RdrOk.int).bind fun _ => RdrOk.pure _
theorem rSpan_less : RdrLess rSpan := RdrLess.bind RdrLess.int fun _ => (RdrOk.int).bind fun _ => RdrOk.pure _

def InlineD.pl (x : InlineD) : InlineD := x
def rInline : St → InlineD × St := bR rInt fun z0 => bR rInt fun z1 => bR rInt fun z2 => bR rText fun z3 => bR rText fun z4 => bR rInt fun z5 => fun s => (⟨z0, z1, z2, z3, z4, z5⟩, s)
theorem rInline_rok : RdrOk rInline := (RdrOk.int).bind fun _ => (RdrOk.int).bind fun _ => (RdrOk.int).bind fun _ => (RdrOk.text).bind fun _ => (RdrOk.text).bind fun _ => (RdrOk.int).bind fun _ => RdrOk.pure _
theorem rInline_less : RdrLess rInline := RdrLess.bind RdrLess.int fun _ => (RdrOk.int).bind fun _ => (RdrOk.int).bind fun _ => (RdrOk.text).bind fun _ => (RdrOk.text).bind fun _ => (RdrOk.int).bind fun _ => RdrOk.pure _

def VarID.pl (x : VarID) : VarID := x
def rVarI : St → VarID × St := bR rInt fun z0 => bR rInt fun z1 => bR rInt fun z2 => bR rText fun z3 => bR rInt fun z4 => bR rInt fun z5 => fun s => (⟨z0, z1, z2, z3, z4, z5⟩, s)
theorem rVarI_rok : RdrOk rVarI := (RdrOk.int).bind fun _ => (RdrOk.int).bind fun _ => (RdrOk.int).bind fun _ => (RdrOk.text).bind fun _ => (RdrOk.int).bind fun _ => (RdrOk.int).bind fun _ => RdrOk.pure _
theorem rVarI_less : RdrLess rVarI := RdrLess.bind RdrLess.int fun _ => (RdrOk.int).bind fun _ => (RdrOk.int).bind fun _ => (RdrOk.text).bind fun _ => (RdrOk.int).bind fun _ => (RdrOk.int).bind fun _ => RdrOk.pure _

def DepthD.pl (x : DepthD) : DepthD := x
def rDepth : St → DepthD × St := bR rInt fun z0 => bR rInt fun z1 => bR rInt fun z2 => bR rInt fun z3 => fun s => (⟨z0, z1, z2, z3⟩, s)
theorem rDepth_rok : RdrOk rDepth := (RdrOk.int).bind fun _ => (RdrOk.int).bind fun _ => (RdrOk.int).bind fun _ => (RdrOk.int).bind fun _ => RdrOk.pure _
theorem rDepth_less : RdrLess rDepth := RdrLess.bind RdrLess.int fun _ => (RdrOk.int).bind fun _ => (RdrOk.int).bind fun _ => (RdrOk.int).bind fun _ => RdrOk.pure _

end Go.Proofs.YtefgajipakjpeaaDoor
