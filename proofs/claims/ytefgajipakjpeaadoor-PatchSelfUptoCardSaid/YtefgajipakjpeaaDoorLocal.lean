/-
  A strings.Builder that is a local variable: what WriteString and String do to it. Conditions: at most 2^46 bytes.
-/
import Derived.Test.YtefgajipakjpeaaDoorWire
namespace Go.Proofs.YtefgajipakjpeaaDoor
open Go.RowKit

theorem liesLocal : Lies 69 2 0 := ⟨by kernel_rfl, by decide⟩

/-- Block b, from B on, is a builder that holds these bytes. -/
def LB (B b : Nat) (acc : List UInt8) (w : World) : Prop := ∃ cs : Array Value, cs.size = 2 ∧ BAt 69 0 B b cs (Lib.byteCells acc) w

theorem LB.lt {B b : Nat} {acc : List UInt8} {w : World} (h : LB B b acc w) : b < w.heap.size := by
  obtain ⟨_, _, h⟩ := h
  exact h.blk.lt

/-- A builder just laid. -/
theorem LB.new {B : Nat} (w : World) (hB : B ≤ w.heap.size) : LB B w.heap.size [] (w.alloc (.cells #[.pointer none, .slice none 0 0] 69)) :=
  ⟨_, rfl, hB, Blk.new w _ _, ⟨_, rfl, .inl rfl⟩, _, rfl, World.ownsRow_nil _ _ _ _⟩

theorem BAt.keep {T : TypeId} {o B b B' : Nat} {cs : Array Value} {bs : List Value} {w w' : World} (h : BAt T o B b cs bs w) (hb : Below B' w w') (hB : w.heap.size ≤ B') : BAt T o B b cs bs w' := by
  obtain ⟨hB1, hblk, hp, v, hv, hown⟩ := h
  refine ⟨hB1, hblk.below hb (by have := hblk.lt; omega), hp, v, hv, ?_⟩
  refine hown.kept (row := none) ⟨hb.os, hb.tape, hb.output, hb.size, fun k hk _ => hb.block k (by omega)⟩ ?_
  cases hv2 : v.ownBlock with
  | none => exact .inl rfl
  | some x => exact .inr (by simp)

/-- A builder behind a call that turns nothing that was there. -/
theorem LB.keep {B b : Nat} {acc : List UInt8} {w w' : World} (h : LB B b acc w) (hb : Below w.heap.size w w') : LB B b acc w' := by
  obtain ⟨cs, h1, h2⟩ := h
  exact ⟨cs, h1, h2.keep hb (Nat.le_refl _)⟩
theorem LB.drew {B b : Nat} {acc : List UInt8} {w : World} (h : LB B b acc w) : LB B b acc w.drew := h.keep (Below.drew (Below.refl _ _))
theorem LB.alloc {B b : Nat} {acc : List UInt8} {w : World} (h : LB B b acc w) (o : Obj) : LB B b acc (w.alloc o) := h.keep ((Below.refl _ _).alloc (Nat.le_refl _) o)

theorem LB.write {B b : Nat} {acc : List UInt8} {w : World} (h : LB B b acc w) (l : List UInt8) (hl : acc.length + l.length ≤ 70368744177664) (hBw : B ≤ w.heap.size) :
    Calls Tryd.prog 21 #[.pointer (some ⟨b, 0, none⟩), str l] w fun e w' => e = .returned (.tuple #[.int .i64 l.length, .nilIface]) ∧ LB B b (acc ++ l) w' ∧ Below B w w' := by
  obtain ⟨cs, hs, h⟩ := h
  have hsz : (ByteArray.mk l.toArray).size = l.length := by
    show l.toArray.size = _
    simp
  refine (WriteString_any ⟨l.toArray⟩ h (by rw [hs]; exact liesLocal) (by omega) (by rw [hsz, Lib.byteCells_length]; omega) hBw).mono ?_
  rintro e w' ⟨rfl, cs', hw⟩
  refine ⟨by rw [hsz], ⟨cs', hw.size.trans hs, ?_⟩, hw.below⟩
  have e1 : Lib.byteCells (acc ++ l) = Lib.byteCells acc ++ Lib.strCells ⟨l.toArray⟩ := by rw [Lib.byteCells_append]; rfl
  rw [e1]
  exact hw.at_

theorem LB.string {B b : Nat} {acc : List UInt8} {w : World} (h : LB B b acc w) (h0 : acc ≠ []) :
    Calls Tryd.prog 25 #[.pointer (some ⟨b, 0, none⟩)] w fun e w' => e = .returned (str acc) ∧ Below B w w' := by
  obtain ⟨cs, hs, h⟩ := h
  refine (String_any h (by decide) h0).mono ?_
  rintro e w' ⟨rfl, _, hb, _⟩
  exact ⟨rfl, hb⟩

end Go.Proofs.YtefgajipakjpeaaDoor
