/-
  Contracts of the statements' small example: target, three, small (it tells true).
-/
import Derived.Test.YtdmomdaeiaeolaaKeep
import Derived.Handy
namespace Go.Proofs.Ytdmomdaeiaeolaa
open Go.RowKit

set_option maxHeartbeats 1000000 in
set_option maxRecDepth 100000 in
theorem target_any (n : Int) (w : World) : Calls Try.prog 21 #[.int .i64 n] w fun e w' => e = .returned (.agg #[.int .i64 1, .int .i64 n, .int .i64 0, .int .i64 0]) ∧ w' = w.alloc (.cells #[.int .i64 1, .int .i64 n, .int .i64 0, .int .i64 0] 28) := by
  go_enter Try.func21, Try.ntmps21
  go_wp2
  go_returns
  exact ⟨rfl, rfl⟩

def nilS : SlD := ⟨none, 0, 0⟩
def ref3 (k n : Int) : RefD := ⟨0, k, 1, n, 0, 0, 0⟩
def imp3 (c : UInt8) : ImpD := ⟨[c], [], 0, false, false⟩
def node3 (rb : Nat) : NodeD := ⟨⟨#[]⟩, ⟨#[]⟩, 0, 0, 0, ⟨#[]⟩, some ⟨rb, 0, none⟩, 3, [ref3 6 2, ref3 0 1, ref3 7 0], nilS, nilS, nilS, nilS, nilS⟩
def three (nb rb ib : Nat) : UnitD := ⟨⟨#[]⟩, false, some ⟨nb, 0, none⟩, 1, [node3 rb], some ⟨ib, 0, none⟩, 3, [imp3 102, imp3 103, imp3 104], nilS, nilS, nilS, nilS, 0, 0, 0, 0, nilS, nilS⟩

theorem three_need (nb rb ib : Nat) : (three nb rb ib).need = [0, 2] := by
  show needL 3 [ref3 6 2, ref3 0 1, ref3 7 0] = _
  decide

theorem Blk.newAt {w : World} {k : Nat} {t : TypeId} {cs : Array Value} (h : w.heap.size = k) : Blk (w.alloc (.cells cs t)) k t cs := by
  subst h
  exact Blk.new w t cs
theorem Reads.of_blk {w : World} {g : Nat} {t : TypeId} {cs : List Value} {n size : Nat} (h : Blk w g t cs.toArray) (hl : cs.length = n * size) : Reads w w.heap.size size (some ⟨g, 0, none⟩) n cs :=
  ⟨hl, fun _ => ⟨_, rfl, h.lt, fun j u hu => by
    have e : (⟨g, 0, none⟩ : Addr).add j = ⟨g, j, none⟩ := by unfold Addr.add; split <;> simp_all
    rw [e, h.cell, List.getElem?_toArray]
    exact hu⟩⟩

theorem three_ok {w : World} {nb rb ib : Nat} (hi : Blk w ib 57 ([imp3 102, imp3 103, imp3 104].flatMap ImpD.parts).toArray) (hr : Blk w rb 53 ([ref3 6 2, ref3 0 1, ref3 7 0].flatMap RefD.parts).toArray) (hn : Blk w nb 51 ([node3 rb].flatMap NodeD.parts).toArray) : (three nb rb ib).Ok w w.heap.size := by
  refine ⟨(by decide : 1 ≤ 9223372036854775807), (by decide : 3 ≤ 9223372036854775807), Reads.of_blk hn rfl, fun n hn' => ?_, Reads.of_blk hi rfl, fun x hx => ?_⟩
  · obtain rfl : n = node3 rb := by simpa [three] using hn'
    refine ⟨(by decide : 3 ≤ 9223372036854775807), Reads.of_blk hr rfl, fun r hr' => ?_⟩
    have hr2 : r = ref3 6 2 ∨ r = ref3 0 1 ∨ r = ref3 7 0 := by simpa [node3] using hr'
    rcases hr2 with rfl | rfl | rfl <;> exact ⟨⟨by decide, by decide⟩, ⟨by decide, by decide⟩, ⟨by decide, by decide⟩⟩
  · have hx2 : x = imp3 102 ∨ x = imp3 103 ∨ x = imp3 104 := by simpa [three] using hx
    rcases hx2 with rfl | rfl | rfl <;> exact ⟨by decide, by decide⟩

set_option maxHeartbeats 4000000 in
set_option maxRecDepth 100000 in
theorem three_any (w : World) : Calls Try.prog 17 #[] w fun e w' => ∃ nb rb ib, e = .returned (.agg (three nb rb ib).parts.toArray) ∧ (three nb rb ib).Ok w' w'.heap.size ∧ Below w.heap.size w w' := by
  have HT := Lib.hid target_any
  go_enter Try.func17, Try.ntmps17
  go_wp2_with (go_at_call 21; refine (HT.out _ _).mono ?_; rintro e w2 ⟨rfl, rfl⟩)
  go_returns
  refine ⟨w.heap.size + 1 + 1 + 1 + 1 + 1 + 1 + 1, w.heap.size + 1 + 1 + 1 + 1 + 1 + 1, w.heap.size + 1, rfl, three_ok ?_ ?_ ?_, ?_⟩
  · exact (((((((Blk.newAt (by simp)).alloc _).alloc _).alloc _).alloc _).alloc _).alloc _)
  · exact (Blk.newAt (by simp)).alloc _
  · exact Blk.newAt (by simp)
  · exact ((((((((Below.refl _ _).alloc (Nat.le_refl _) _).alloc (by simp) _).alloc (by simp; omega) _).alloc (by simp; omega) _).alloc (by simp; omega) _).alloc (by simp; omega) _).alloc (by simp; omega) _).alloc (by simp; omega) _

/-- The old unit of the example, and its layout. -/
def old3 (ib : Nat) : UnitD := ⟨⟨#[]⟩, false, none, 0, [], some ⟨ib, 0, none⟩, 2, [imp3 103, imp3 104], nilS, nilS, nilS, nilS, 0, 0, 0, 0, nilS, nilS⟩
def lay3 (sb : Nat) : LayD := ⟨nilS, some ⟨sb, 0, none⟩, 2, [256, 264], nilS, 0, 0, 0, 0⟩
def unit0 : UnitD := ⟨⟨#[]⟩, false, none, 0, [], none, 0, [], nilS, nilS, nilS, nilS, 0, 0, 0, 0, nilS, nilS⟩
theorem old3_ok {w : World} {ib : Nat} (hi : Blk w ib 57 ([imp3 103, imp3 104].flatMap ImpD.parts).toArray) : (old3 ib).Ok w w.heap.size := by
  refine ⟨(by decide : 0 ≤ 9223372036854775807), (by decide : 2 ≤ 9223372036854775807), Reads.none_, fun n hn' => ?_, Reads.of_blk hi rfl, fun x hx => ?_⟩
  · simp [old3] at hn'
  · have hx2 : x = imp3 103 ∨ x = imp3 104 := by simpa [old3] using hx
    rcases hx2 with rfl | rfl <;> exact ⟨by decide, by decide⟩
theorem lay3_ok {w : World} {sb : Nat} (hi : Blk w sb 3 (intCells [256, 264]).toArray) : (lay3 sb).Ok w w.heap.size := by
  refine ⟨(by decide : 2 ≤ 9223372036854775807), Reads.of_blk hi rfl, fun z hz => ?_⟩
  have hz2 : z = 256 ∨ z = 264 := by simpa [lay3] using hz
  rcases hz2 with rfl | rfl <;> exact ⟨by decide, by decide⟩
theorem unit0_ok {w : World} : unit0.Ok w w.heap.size := by
  refine ⟨(by decide : 0 ≤ 9223372036854775807), (by decide : 0 ≤ 9223372036854775807), Reads.none_, fun n hn' => ?_, Reads.none_, fun x hx => ?_⟩
  · simp [unit0] at hn'
  · simp [unit0] at hx
theorem keep3 (nb rb ib ib' sb : Nat) : keepL (old3 ib') (lay3 sb) (three nb rb ib) = [-1, -1, 264] := by
  have hn : (three nb rb ib).need = [0, 2] := three_need nb rb ib
  unfold keepL
  rw [hn]
  rfl
theorem need0 : unit0.need = [] := rfl

end Go.Proofs.Ytdmomdaeiaeolaa
