/-
  Contract of strings.Builder's WriteByte for a builder that lies at any offset of a block that the call itself has made. Condition: the new length is at most 2^47 bytes.
-/
import Derived.Test.YtefgajipakjpeaaDoorLocal
namespace Go.Proofs.YtefgajipakjpeaaDoor
open Go.RowKit

set_option maxHeartbeats 2000000 in
set_option maxRecDepth 100000 in
/-- WriteByte. -/
theorem WriteByte_any {T : TypeId} {o B b : Nat} {cs : Array Value} {bs : List Value} {w : World} (x : Int) (h : BAt T o B b cs bs w) (hL : Lies T cs.size o) (ho : o + 1 < cs.size) (hlen : bs.length + 1 ≤ 140737488355328) (hBw : B ≤ w.heap.size) :
    Calls Tryd.prog 48 #[.pointer (some ⟨b, o, none⟩), .int .u8 x] w fun e w' => e = .returned .nilIface ∧ ∃ cs', Wrote T o B b cs (bs ++ [.int .u8 x]) w w' cs' := by
  obtain ⟨i0, hi, hz0, hz1, hz2⟩ := info_parts byteInfo
  go_enter Tryd.func48, Tryd.ntmps48
  go_wp2_with (go_at_call 43; refine (copyCheck_any h hL (by omega)).mono ?_)
  rintro e w1 ⟨rfl, h1, hb1, hk1⟩
  have hsz : (cs.setIfInBounds o (Value.pointer (some ⟨b, o, none⟩))).size = cs.size := by simp
  have hoth : ∀ j, j ≠ o → (cs.setIfInBounds o (Value.pointer (some ⟨b, o, none⟩)))[j]? = cs[j]? := fun j hj => Array.getElem?_setIfInBounds_ne (Ne.symm hj)
  generalize cs.setIfInBounds o (Value.pointer (some ⟨b, o, none⟩)) = cs1 at h1 hsz hoth
  have HSZ : Hid (cs1.size = cs.size) := hsz
  have HOTH : Hid (∀ j, j ≠ o → cs1[j]? = cs[j]?) := hoth
  clear hsz hoth
  obtain ⟨hB, hblk, hp, v, hv, hown⟩ := h1
  have c1 : w1.cell? ⟨b, o + 1, none⟩ = some v := (hblk.cell _).trans hv
  have HV := Lib.hid hv
  clear hv
  have hsz1 := hb1.size
  go_wp2_with (at_builtin; refine wpList_append_own _ rfl _ _ 61 rfl B 5 i0 (.int .u8 0) 1 1 Tryd.underlying61 hi hz0 hz1 hz2 rfl (by decide) _ _ _ rfl (hown.alloc _) ⟨w1.heap.size, 0, none⟩ 1 1 [Value.int .u8 x] rfl rfl ?c1 ?c2 ?c3 ?c4 ?c5 ?_)
  case c1 =>
    intro j u hj
    match j, hj with
    | 0, hj => simp at hj; subst hj; simp [Addr.add]
  case c2 => intro u hu; simp at hu; subst hu; rfl
  case c3 => unfold maxLen; omega
  case c4 => omega
  case c5 => simp; omega
  intro v' w2 hown' hgrow _
  have hne : v.ownBlock ≠ some b := Lib.ownBlock_ne hown hblk hL.2
  have hb2 : Blk w2 b T cs1 := (hblk.alloc _).grown hgrow (fun e => hne e.symm)
  have d1 : w2.cell? ⟨b, o + 1, none⟩ = some v := (hb2.cell _).trans HV.out
  have f1 : w2.frozen? ⟨b, o + 1, none⟩ = false := hb2.frozen _
  obtain ⟨ao, n', cap, rfl⟩ : ∃ ao n' cap, v' = .slice ao n' cap := by
    rcases hown'.2 with ⟨hv, _⟩ | ⟨g, cap, cur, hv, _⟩
    · exact ⟨_, _, _, hv⟩
    · exact ⟨_, _, _, hv⟩
  have hk2 : Lib.OthersKept 5 (some b) w (w1.alloc (.cells #[.int .u8 x] 5)) := hk1.trans ((Lib.OthersKept.refl _ _ _).alloc _)
  go_wp2
  go_ret
  refine ⟨rfl, _, BAt.put (bs := bs ++ [.int .u8 x]) hB hb2 hp (by rw [HSZ.out]; exact ho) (by simpa using hown') hL.2, by simp [HSZ.out], ?_, ?_, ?_⟩
  · intro j h1 h2
    rw [Array.getElem?_setIfInBounds_ne (Ne.symm h2)]
    exact HOTH.out j h1
  · exact ((hb1.alloc (by omega) _).grown hgrow (by simp; omega) (fun k hk => (hown.lt k hk).1)).setCell (p := ⟨b, o + 1, none⟩) hB _
  · exact (hk2.grown hgrow (ownsRow_kind (hown.alloc _))).setCell ⟨b, o + 1, none⟩ rfl _

theorem byteCells_one (acc : List UInt8) (x : UInt8) : Lib.byteCells (acc ++ [x]) = Lib.byteCells acc ++ [.int .u8 (x.toNat : Int)] := by
  rw [Lib.byteCells_append]
  rfl

theorem LB.writeByte {B b : Nat} {acc : List UInt8} {w : World} (h : LB B b acc w) (x : UInt8) (hl : acc.length + 1 ≤ 70368744177664) (hBw : B ≤ w.heap.size) :
    Calls Tryd.prog 48 #[.pointer (some ⟨b, 0, none⟩), .int .u8 (x.toNat : Int)] w fun e w' => e = .returned .nilIface ∧ LB B b (acc ++ [x]) w' ∧ Below B w w' := by
  obtain ⟨cs, hs, h⟩ := h
  refine (WriteByte_any (x.toNat : Int) h (by rw [hs]; exact liesLocal) (by omega) (by rw [Lib.byteCells_length]; omega) hBw).mono ?_
  rintro e w' ⟨rfl, cs', hw⟩
  refine ⟨rfl, ⟨cs', hw.size.trans hs, ?_⟩, hw.below⟩
  rw [byteCells_one]
  exact hw.at_

end Go.Proofs.YtefgajipakjpeaaDoor
