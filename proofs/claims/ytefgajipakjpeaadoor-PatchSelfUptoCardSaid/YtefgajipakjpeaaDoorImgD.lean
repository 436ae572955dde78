/-
  Plain Lean: the elements of an image's lists, in memory and in the encoding. No conditions.
-/
import Derived.Test.YtefgajipakjpeaaDoorCoderW
namespace Go.Proofs.YtefgajipakjpeaaDoor
open Go.RowKit

/-- A slice in memory: where it lies, its capacity, what it reads as. -/
structure SlD (α : Type) where
  A : Option Addr
  c : Nat
  xs : List α
def SlD.val {α : Type} (s : SlD α) : Value := .slice s.A s.xs.length s.c
structure SlD.In {α : Type} (s : SlD α) (size : Nat) (parts : α → List Value) (w : World) (B : Nat) : Prop where
  reads : Reads w B size s.A s.xs.length (s.xs.flatMap parts)
  len : s.xs.length ≤ maxLen
def SlD.nil {α : Type} : SlD α := ⟨none, 0, []⟩
theorem SlD.In.nil_ {α : Type} {size : Nat} {parts : α → List Value} (w : World) (B : Nat) : (SlD.nil : SlD α).In size parts w B := ⟨Reads.none_, by simp [SlD.nil]⟩
theorem SlD.In.below {α : Type} {s : SlD α} {size : Nat} {parts : α → List Value} {w w' : World} {B : Nat} (h : s.In size parts w B) (hb : Below B w w') : s.In size parts w' B := ⟨h.reads.below hb, h.len⟩
theorem SlD.In.more {α : Type} {s : SlD α} {size : Nat} {parts : α → List Value} {w : World} {B B' : Nat} (h : s.In size parts w B) (hb : B ≤ B') : s.In size parts w B' := ⟨h.reads.more hb, h.len⟩

structure PlacedD where
  f0 : List UInt8
  f1 : List UInt8
  f2 : Int
  f3 : Int
  f4 : Int
  f5 : List UInt8
  f6 : List UInt8
def PlacedD.parts (x : PlacedD) : List Value := [.string ⟨x.f0.toArray⟩, .string ⟨x.f1.toArray⟩, .int .i64 x.f2, .int .i64 x.f3, .int .i64 x.f4, .string ⟨x.f5.toArray⟩, .string ⟨x.f6.toArray⟩]
theorem PlacedD.parts_length (x : PlacedD) : x.parts.length = 7 := rfl
def wPlaced (x : PlacedD) : List UInt8 := wText x.f0 ++ wText x.f1 ++ wInt x.f2 ++ wInt x.f3 ++ wInt x.f4 ++ wText x.f5 ++ wText x.f6

structure ExportD where
  f0 : List UInt8
  f1 : List UInt8
  f2 : Bool
  f3 : Int
  f4 : Int
  f5 : Int
def ExportD.parts (x : ExportD) : List Value := [.string ⟨x.f0.toArray⟩, .string ⟨x.f1.toArray⟩, .bool x.f2, .int .i64 x.f3, .int .i64 x.f4, .int .i64 x.f5]
theorem ExportD.parts_length (x : ExportD) : x.parts.length = 6 := rfl
def wExport (x : ExportD) : List UInt8 := wText x.f0 ++ wText x.f1 ++ wInt (boolI x.f2) ++ wInt x.f3 ++ wInt x.f4 ++ wInt x.f5

structure ImportD where
  f0 : List UInt8
  f1 : List UInt8
  f2 : Int
  f3 : Bool
  f4 : Bool
def ImportD.parts (x : ImportD) : List Value := [.string ⟨x.f0.toArray⟩, .string ⟨x.f1.toArray⟩, .int .i64 x.f2, .bool x.f3, .bool x.f4]
theorem ImportD.parts_length (x : ImportD) : x.parts.length = 5 := rfl
def wImport (x : ImportD) : List UInt8 := wText x.f0 ++ wText x.f1 ++ wInt x.f2 ++ wInt (boolI x.f3) ++ wInt (boolI x.f4)

structure Int_D where
  f0 : Int
def Int_D.parts (x : Int_D) : List Value := [.int .i64 x.f0]
theorem Int_D.parts_length (x : Int_D) : x.parts.length = 1 := rfl
def wInt_ (x : Int_D) : List UInt8 := wInt x.f0

structure DynD where
  f0 : Int
  f1 : Int
  f2 : Int
  f3 : Int
def DynD.parts (x : DynD) : List Value := [.int .i64 x.f0, .int .i64 x.f1, .int .i64 x.f2, .int .i64 x.f3]
theorem DynD.parts_length (x : DynD) : x.parts.length = 4 := rfl
def wDyn (x : DynD) : List UInt8 := wInt x.f0 ++ wInt x.f1 ++ wInt x.f2 ++ wInt x.f3

structure StrD where
  f0 : List UInt8
def StrD.parts (x : StrD) : List Value := [.string ⟨x.f0.toArray⟩]
theorem StrD.parts_length (x : StrD) : x.parts.length = 1 := rfl
def wStr (x : StrD) : List UInt8 := wText x.f0

structure VerDefD where
  f0 : List UInt8
  f1 : SlD StrD
def VerDefD.parts (x : VerDefD) : List Value := [.string ⟨x.f0.toArray⟩, .slice x.f1.A x.f1.xs.length x.f1.c]
theorem VerDefD.parts_length (x : VerDefD) : x.parts.length = 2 := rfl
def wVerDef (x : VerDefD) : List UInt8 := wText x.f0 ++ wList wStr x.f1.xs

structure PieceD where
  f0 : Int
  f1 : Int
  f2 : Int
def PieceD.parts (x : PieceD) : List Value := [.int .i64 x.f0, .int .i64 x.f1, .int .i64 x.f2]
theorem PieceD.parts_length (x : PieceD) : x.parts.length = 3 := rfl
def wPiece (x : PieceD) : List UInt8 := wInt x.f0 ++ wInt x.f1 ++ wInt x.f2

structure ConvD where
  f0 : List UInt8
  f1 : List UInt8
  f2 : List UInt8
  f3 : SlD PieceD
  f4 : Int
def ConvD.parts (x : ConvD) : List Value := [.string ⟨x.f0.toArray⟩, .string ⟨x.f1.toArray⟩, .string ⟨x.f2.toArray⟩, .slice x.f3.A x.f3.xs.length x.f3.c, .int .i64 x.f4]
theorem ConvD.parts_length (x : ConvD) : x.parts.length = 5 := rfl
def wConv (x : ConvD) : List UInt8 := wText x.f0 ++ wText x.f1 ++ wText x.f2 ++ wList wPiece x.f3.xs ++ wInt x.f4

structure MarkD where
  f0 : List UInt8
  f1 : Int
  f2 : Int
  f3 : Int
def MarkD.parts (x : MarkD) : List Value := [.string ⟨x.f0.toArray⟩, .int .i64 x.f1, .int .i64 x.f2, .int .i64 x.f3]
theorem MarkD.parts_length (x : MarkD) : x.parts.length = 4 := rfl
def wMark (x : MarkD) : List UInt8 := wText x.f0 ++ wInt x.f1 ++ wInt x.f2 ++ wInt x.f3

structure LineD where
  f0 : Int
  f1 : Int
  f2 : List UInt8
  f3 : Int
def LineD.parts (x : LineD) : List Value := [.int .i64 x.f0, .int .i64 x.f1, .string ⟨x.f2.toArray⟩, .int .i64 x.f3]
theorem LineD.parts_length (x : LineD) : x.parts.length = 4 := rfl
def wLine (x : LineD) : List UInt8 := wInt x.f0 ++ wInt x.f1 ++ wText x.f2 ++ wInt x.f3

structure SpanD where
  f0 : Int
  f1 : Int
def SpanD.parts (x : SpanD) : List Value := [.int .i64 x.f0, .int .i64 x.f1]
theorem SpanD.parts_length (x : SpanD) : x.parts.length = 2 := rfl
def wSpan (x : SpanD) : List UInt8 := wInt x.f0 ++ wInt x.f1

structure InlineD where
  f0 : Int
  f1 : Int
  f2 : Int
  f3 : List UInt8
  f4 : List UInt8
  f5 : Int
def InlineD.parts (x : InlineD) : List Value := [.int .i64 x.f0, .int .i64 x.f1, .int .i64 x.f2, .string ⟨x.f3.toArray⟩, .string ⟨x.f4.toArray⟩, .int .i64 x.f5]
theorem InlineD.parts_length (x : InlineD) : x.parts.length = 6 := rfl
def wInline (x : InlineD) : List UInt8 := wInt x.f0 ++ wInt x.f1 ++ wInt x.f2 ++ wText x.f3 ++ wText x.f4 ++ wInt x.f5

structure VarID where
  f0 : Int
  f1 : Int
  f2 : Int
  f3 : List UInt8
  f4 : Int
  f5 : Int
def VarID.parts (x : VarID) : List Value := [.int .i64 x.f0, .int .i64 x.f1, .int .i64 x.f2, .string ⟨x.f3.toArray⟩, .int .i64 x.f4, .int .i64 x.f5]
theorem VarID.parts_length (x : VarID) : x.parts.length = 6 := rfl
def wVarI (x : VarID) : List UInt8 := wInt x.f0 ++ wInt x.f1 ++ wInt x.f2 ++ wText x.f3 ++ wInt x.f4 ++ wInt x.f5

structure DepthD where
  f0 : Int
  f1 : Int
  f2 : Int
  f3 : Int
def DepthD.parts (x : DepthD) : List Value := [.int .i64 x.f0, .int .i64 x.f1, .int .i64 x.f2, .int .i64 x.f3]
theorem DepthD.parts_length (x : DepthD) : x.parts.length = 4 := rfl
def wDepth (x : DepthD) : List UInt8 := wInt x.f0 ++ wInt x.f1 ++ wInt x.f2 ++ wInt x.f3

end Go.Proofs.YtefgajipakjpeaaDoor
