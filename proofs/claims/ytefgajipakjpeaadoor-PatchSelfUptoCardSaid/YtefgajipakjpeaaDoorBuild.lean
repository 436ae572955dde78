/-
  Contracts of strings.Builder's copyCheck, WriteString and String for a builder that lies at any offset of a block that the call itself has made (a local builder, or a builder in a field of a local struct): they append the bytes, hand them back, and turn no block but the builder's own and rows of bytes. Conditions: the new length is at most 2^47 bytes.
-/
import Derived.Test.YtefgajipakjpeaaDoorRows
import Derived.WalkKit
import Derived.WalkSpells
import Derived.WalkLawsBesides
import Derived.Laws.Externs
import Derived.Lib.OthersKept
import Derived.Lib.Builder
import Derived.Lib.AppendStr
import Derived.Lib.UnsafeStr
import Derived.Lib.Hide
import Derived.Outline
import Derived.RegionTactic
import Derived.Deep.QuietTactic
import Derived.BigQuiet
namespace Go.Proofs.YtefgajipakjpeaaDoor
open Go.RowKit

/-! ### Blocks that are known whole -/
def Blk (w : World) (g : Nat) (t : TypeId) (cs : Array Value) : Prop := w.heap[g]? = some (.cells cs t (0, 0))

section
variable {w w' : World} {g : Nat} {t : TypeId} {cs : Array Value}
theorem Blk.lt (h : Blk w g t cs) : g < w.heap.size := by
  rcases Nat.lt_or_ge g w.heap.size with hlt | hge
  · exact hlt
  · unfold Blk at h; rw [Array.getElem?_eq_none hge] at h; cases h
theorem Blk.cell (h : Blk w g t cs) (i : Nat) : w.cell? ⟨g, i, none⟩ = cs[i]? := cell_of_row w g i cs t (0, 0) h
theorem Blk.frozen (h : Blk w g t cs) (i : Nat) : w.frozen? ⟨g, i, none⟩ = false := by
  unfold Blk at h
  simp [World.frozen?, h]
theorem Blk.new (w : World) (t : TypeId) (cs : Array Value) : Blk (w.alloc (.cells cs t)) w.heap.size t cs := heap_alloc_new w _
theorem Blk.drew (h : Blk w g t cs) : Blk w.drew g t cs := h
theorem Blk.alloc (h : Blk w g t cs) (o : Obj) : Blk (w.alloc o) g t cs := (Below.heap_alloc w o g h.lt).trans h
theorem Blk.set_ (h : Blk w g t cs) (i : Nat) (u : Value) : Blk (w.setCell ⟨g, i, none⟩ u) g t (cs.setIfInBounds i u) := by
  unfold Blk at h ⊢
  simp [World.setCell, Array.getElem?_modify, h]
theorem Blk.far (h : Blk w g t cs) {p : Addr} (hp : g ≠ p.block) (u : Value) : Blk (w.setCell p u) g t cs := (Below.heap_setCell w p u g hp).trans h
theorem Blk.below {B : Nat} (h : Blk w g t cs) (hb : Below B w w') (hg : g < B) : Blk w' g t cs := (hb.block g hg).trans h
theorem Blk.grown {row : Option Nat} (h : Blk w g t cs) (hb : w.grownBy w' row) (hg : some g ≠ row) : Blk w' g t cs := (hb.block g h.lt hg).trans h
theorem Blk.others {e : TypeId} {b : Option Nat} (h : Blk w g t cs) (hb : Lib.OthersKept e b w w') (hg : some g ≠ b) (hne : t ≠ e) : Blk w' g t cs :=
  hb g _ h hg (fun c fz he => by injection he with _ h2 _; exact hne h2)
theorem Blk.shape (h : Blk w g t cs) : w.shape? g = some (t, cs.size) := by
  unfold Blk at h
  simp [World.shape?, h]
theorem Blk.ne_ {g' : Nat} {t' : TypeId} {cs' : Array Value} (h : Blk w g t cs) (h' : Blk w g' t' cs') (hne : t ≠ t') : g ≠ g' := by
  rintro rfl
  unfold Blk at h h'
  rw [h] at h'
  injection h' with h'
  injection h' with _ ht
  exact hne ht
end

/-- A builder at offset o of block b, the block's cells being cs, its bytes bs. -/
structure BAt (T : TypeId) (o B b : Nat) (cs : Array Value) (bs : List Value) (w : World) : Prop where
  hB : B ≤ b
  blk : Blk w b T cs
  ptr : ∃ p, cs[o]? = some p ∧ (p = .pointer none ∨ p = .pointer (some ⟨b, o, none⟩))
  buf : ∃ v, cs[o + 1]? = some v ∧ w.ownsRow B 5 1 v bs.length bs

/-- What a write to a builder leaves: a builder, the other cells of its block as they were. -/
structure Wrote (T : TypeId) (o B b : Nat) (cs : Array Value) (bs : List Value) (w w' : World) (cs' : Array Value) : Prop where
  at_ : BAt T o B b cs' bs w'
  size : cs'.size = cs.size
  other : ∀ j, j ≠ o → j ≠ o + 1 → cs'[j]? = cs[j]?
  below : Below B w w'
  kept : Lib.OthersKept 5 (some b) w w'

theorem byteInfo : (Tryd.prog.info? 5).map (fun i => (i.zero, i.size, i.bytes)) = some (some (.int .u8 0), 1, 1) := by kernel_rfl
theorem builderInfo : (Tryd.prog.info? 69).map (·.size) = some 2 := by kernel_rfl

theorem ownsRow_kind {w : World} {B : Nat} {e : TypeId} {v : Value} {n : Nat} {xs : List Value} (h : w.ownsRow B e 1 v n xs) : ∀ g, v.ownBlock = some g → ∃ c fz, w.heap[g]? = some (.cells c e fz) := by
  intro g hg
  rcases h.2 with ⟨rfl, _⟩ | ⟨g', cap, cur, rfl, _, hgg, _⟩
  · simp [Value.ownBlock] at hg
  · simp [Value.ownBlock] at hg
    subst hg
    exact ⟨cur, _, hgg⟩

set_option maxHeartbeats 1000000 in
set_option maxRecDepth 100000 in
theorem copyCheck_used (b o : Nat) (w : World) (h0 : w.cell? ⟨b, o, none⟩ = some (.pointer (some ⟨b, o, none⟩))) :
    Calls Tryd.prog 43 #[.pointer (some ⟨b, o, none⟩)] w fun e w' => e = .returned (.tuple #[]) ∧ w' = w := by
  obtain ⟨j, hj, _⟩ := Option.map_eq_some_iff.1 builderInfo
  go_enter Tryd.func43, Tryd.ntmps43
  go_wp2
  rw [Lib.run_neq_ptr_same w _ Tryd.underlying67 hj]
  go_wp2
  go_end0
  exact ⟨rfl, rfl⟩

set_option maxHeartbeats 1000000 in
set_option maxRecDepth 100000 in
theorem copyCheck_fresh (T : TypeId) (n b o : Nat) (w : World) (h0 : w.cell? ⟨b, o, none⟩ = some (.pointer none)) (hsh : w.shape? b = some (T, n)) (hon : o < n) (hlies : liesAt Tryd.prog Tryd.prog.depth T (n / Tryd.prog.cellsOf T) o 69 1 = true)
    (hfz : w.frozen? ⟨b, o, none⟩ = false) :
    Calls Tryd.prog 43 #[.pointer (some ⟨b, o, none⟩)] w fun e w' => e = .returned (.tuple #[]) ∧ w' = w.setCell ⟨b, o, none⟩ (.pointer (some ⟨b, o, none⟩)) := by
  obtain ⟨j, hj, hjs⟩ := Option.map_eq_some_iff.1 builderInfo
  go_enter Tryd.func43, Tryd.ntmps43
  go_wp2
  rw [Lib.run_to_unsafe w ⟨b, o, none⟩ Tryd.underlying67 Tryd.underlying163 hj (by rw [hjs]; decide) hsh hon]
  simp only [Result.andThen]
  rw [Oper.upon_value]
  go_wp2
  rw [run_callFunc_extern Tryd.func74 (by kernel_rfl) (by kernel_rfl) (by kernel_rfl) (e := Extern.AbiNoEscape.same) (by kernel_rfl)]
  rw [Lib.run_noEscape]
  simp only [Result.andThen]
  rw [Oper.upon_value]
  go_wp2
  rw [Lib.run_from_unsafe w ⟨b, o, none⟩ Tryd.underlying163 Tryd.underlying67 hj hsh hlies]
  simp only [Result.andThen]
  rw [Oper.upon_value]
  go_wp2
  go_end0
  exact ⟨rfl, rfl⟩

/-- That a builder lies at offset o of a struct of type T with n cells. -/
def Lies (T : TypeId) (n o : Nat) : Prop := liesAt Tryd.prog Tryd.prog.depth T (n / Tryd.prog.cellsOf T) o 69 1 = true ∧ T ≠ 5

theorem BAt.used {T : TypeId} {o B b : Nat} {cs : Array Value} {bs : List Value} {w : World} (h : BAt T o B b cs bs w) (ho : o < cs.size) (hT : T ≠ 5) :
    BAt T o B b (cs.setIfInBounds o (.pointer (some ⟨b, o, none⟩))) bs (w.setCell ⟨b, o, none⟩ (.pointer (some ⟨b, o, none⟩))) := by
  obtain ⟨hB, hblk, _, v, hv, hown⟩ := h
  refine ⟨hB, hblk.set_ _ _, ⟨_, by simp [ho], .inr rfl⟩, v, ?_, ?_⟩
  · rw [Array.getElem?_setIfInBounds_ne (by omega)]; exact hv
  · exact ownsRow_setCell_other (a := ⟨b, o, none⟩) hown (Lib.ownBlock_ne hown hblk hT) _

/-- copyCheck. -/
theorem copyCheck_any {T : TypeId} {o B b : Nat} {cs : Array Value} {bs : List Value} {w : World} (h : BAt T o B b cs bs w) (hL : Lies T cs.size o) (ho : o < cs.size) :
    Calls Tryd.prog 43 #[.pointer (some ⟨b, o, none⟩)] w fun e w' => e = .returned (.tuple #[]) ∧ BAt T o B b (cs.setIfInBounds o (.pointer (some ⟨b, o, none⟩))) bs w' ∧ Below B w w' ∧ Lib.OthersKept 5 (some b) w w' := by
  obtain ⟨p, hp, hp2⟩ := h.ptr
  rcases hp2 with rfl | rfl
  · refine (copyCheck_fresh T cs.size b o w ((h.blk.cell o).trans hp) h.blk.shape ho hL.1 (h.blk.frozen o)).mono ?_
    rintro e w' ⟨rfl, rfl⟩
    exact ⟨rfl, h.used ho hL.2, (Below.refl B w).setCell (p := ⟨b, o, none⟩) h.hB _, (Lib.OthersKept.refl _ _ w).setCell ⟨b, o, none⟩ rfl _⟩
  · refine (copyCheck_used b o w ((h.blk.cell o).trans hp)).mono ?_
    rintro e w' ⟨rfl, rfl⟩
    have hcs : cs.setIfInBounds o (.pointer (some ⟨b, o, none⟩)) = cs := by
      apply Array.ext_getElem?
      intro i
      rw [Array.getElem?_setIfInBounds]
      split
      · rename_i hi
        subst hi
        rw [hp]
      · rfl
    rw [hcs]
    exact ⟨rfl, h, Below.refl B _, Lib.OthersKept.refl _ _ _⟩

/-- A new buffer laid into 'buf'. -/
theorem BAt.put {T : TypeId} {o B b : Nat} {cs : Array Value} {bs : List Value} {v' : Value} {w : World} (hB : B ≤ b) (hblk : Blk w b T cs) (hp : ∃ p, cs[o]? = some p ∧ (p = .pointer none ∨ p = .pointer (some ⟨b, o, none⟩)))
    (ho : o + 1 < cs.size) (hown : w.ownsRow B 5 1 v' bs.length bs) (hT : T ≠ 5) : BAt T o B b (cs.setIfInBounds (o + 1) v') bs (w.setCell ⟨b, o + 1, none⟩ v') := by
  refine ⟨hB, hblk.set_ _ _, ?_, v', by simp [ho], ownsRow_setCell_other (a := ⟨b, o + 1, none⟩) hown (Lib.ownBlock_ne hown hblk hT) _⟩
  obtain ⟨p, h1, h2⟩ := hp
  exact ⟨p, by rw [Array.getElem?_setIfInBounds_ne (by omega)]; exact h1, h2⟩

set_option maxHeartbeats 2000000 in
set_option maxRecDepth 100000 in
/-- WriteString. -/
theorem WriteString_any {T : TypeId} {o B b : Nat} {cs : Array Value} {bs : List Value} {w : World} (s : ByteArray) (h : BAt T o B b cs bs w) (hL : Lies T cs.size o) (ho : o + 1 < cs.size) (hlen : bs.length + s.size ≤ 140737488355328) (hBw : B ≤ w.heap.size) :
    Calls Tryd.prog 21 #[.pointer (some ⟨b, o, none⟩), .string s] w fun e w' => e = .returned (.tuple #[.int .i64 s.size, .nilIface]) ∧ ∃ cs', Wrote T o B b cs (bs ++ Lib.strCells s) w w' cs' := by
  obtain ⟨i0, hi, hz0, hz1, hz2⟩ := info_parts byteInfo
  go_enter Tryd.func21, Tryd.ntmps21
  go_wp2_with (go_at_call 43; refine (copyCheck_any h hL (by omega)).mono ?_)
  rintro e w1 ⟨rfl, h1, hb1, hk1⟩
  have hsz : (cs.setIfInBounds o (Value.pointer (some ⟨b, o, none⟩))).size = cs.size := by simp
  have hoth : ∀ j, j ≠ o → (cs.setIfInBounds o (Value.pointer (some ⟨b, o, none⟩)))[j]? = cs[j]? := fun j hj => Array.getElem?_setIfInBounds_ne (Ne.symm hj)
  generalize cs.setIfInBounds o (Value.pointer (some ⟨b, o, none⟩)) = cs1 at h1 hsz hoth
  have HSZ : Hid (cs1.size = cs.size) := hsz
  have HOTH : Hid (∀ j, j ≠ o → cs1[j]? = cs[j]?) := hoth
  clear hsz hoth
  obtain ⟨hB, hblk, hp, v, hv, hown⟩ := h1
  have c1 : w1.cell? ⟨b, o + 1, none⟩ = some v := (hblk.cell _).trans hv
  have HV := Lib.hid hv
  clear hv
  go_wp2_with (at_builtin; refine Lib.wpList_append_own_string _ rfl _ _ 61 9 rfl B 5 i0 Tryd.underlying61 Tryd.underlying9 hi hz0 hz1 hz2 _ _ _ rfl hown s rfl ?c3 ?c4 ?c5 ?_)
  case c3 => unfold maxLen; omega
  case c4 => omega
  case c5 => have := hb1.size; omega
  intro v' w2 hown' hgrow _
  have hne : v.ownBlock ≠ some b := Lib.ownBlock_ne hown hblk hL.2
  have hb2 : Blk w2 b T cs1 := hblk.grown hgrow (fun e => hne e.symm)
  have d1 : w2.cell? ⟨b, o + 1, none⟩ = some v := (hb2.cell _).trans HV.out
  have f1 : w2.frozen? ⟨b, o + 1, none⟩ = false := hb2.frozen _
  obtain ⟨ao, n', cap, rfl⟩ : ∃ ao n' cap, v' = .slice ao n' cap := by
    rcases hown'.2 with ⟨hv, _⟩ | ⟨g, cap, cur, hv, _⟩
    · exact ⟨_, _, _, hv⟩
    · exact ⟨_, _, _, hv⟩
  go_wp2
  go_ret2
  refine ⟨rfl, _, BAt.put (bs := bs ++ Lib.strCells s) hB hb2 hp (by rw [HSZ.out]; exact ho) (by simpa [Lib.strCells_length] using hown') hL.2, by simp [HSZ.out], ?_, ?_, ?_⟩
  · intro j h1 h2
    rw [Array.getElem?_setIfInBounds_ne (Ne.symm h2)]
    exact HOTH.out j h1
  · exact (hb1.grown hgrow (by have := hb1.size; omega) (fun k hk => (hown.lt k hk).1)).setCell (p := ⟨b, o + 1, none⟩) hB _
  · exact (hk1.grown hgrow (ownsRow_kind hown)).setCell ⟨b, o + 1, none⟩ rfl _

theorem byteCellsOf : Tryd.prog.cellsOf 5 = 1 := by kernel_rfl

set_option maxHeartbeats 1000000 in
set_option maxRecDepth 100000 in
/-- String, of a builder that holds at least one byte. -/
theorem String_any {T : TypeId} {o B b : Nat} {cs : Array Value} {l : List UInt8} {w : World} (h : BAt T o B b cs (Lib.byteCells l) w) (hT : T ≠ 5) (h0 : l ≠ []) :
    Calls Tryd.prog 25 #[.pointer (some ⟨b, o, none⟩)] w fun e w' => e = .returned (.string ⟨l.toArray⟩) ∧ Blk w' b T cs ∧ Below B w w' ∧ Lib.OthersKept 5 (some b) w w' := by
  obtain ⟨hB, hblk, _, v, hv, hown⟩ := h
  have hl0 : l.length ≠ 0 := by simpa using h0
  rw [Lib.byteCells_length] at hown
  obtain ⟨g, cap, cur, rfl, hbg, hg, hnc, hcm, hcs, htake⟩ : ∃ g cap cur, v = .slice (some ⟨g, 0, none⟩) l.length cap ∧ B ≤ g ∧ w.heap[g]? = some (.cells cur 5 (0, 0)) ∧ l.length ≤ cap ∧ cap ≤ maxLen ∧ cur.size = cap * 1 ∧ cur.toList.take (l.length * 1) = Lib.byteCells l := by
    rcases hown.2 with ⟨_, hz⟩ | ⟨g, cap, cur, hv, r⟩
    · exact absurd hz hl0
    · exact ⟨g, cap, cur, hv, r⟩
  have hne : g ≠ b := fun e => Lib.ownBlock_ne hown hblk hT (by simp [Value.ownBlock, e])
  have c1 : w.drew.cell? ⟨b, o + 1, none⟩ = some (.slice (some ⟨g, 0, none⟩) l.length cap) := (hblk.drew.cell _).trans hv
  have hSD : (Builtin.unsafeSliceData_ #[61] 96 #[.slice (some ⟨g, 0, none⟩) l.length cap]).run Tryd.prog w.drew = .ok (.pointer (some ⟨g, 0, none⟩)) w.drew :=
    Lib.run_unsafeSliceData_row _ _ _ _ _ _ (by omega)
  have hUS : (Builtin.unsafeString_ #[96, 3] 9 #[.pointer (some ⟨g, 0, none⟩), .int .i64 l.length]).run Tryd.prog w.drew = .ok (.string ⟨l.toArray⟩) (w.drew.freeze ⟨g, 0, none⟩ l.length) := by
    refine Lib.run_unsafeString_row w.drew 96 3 9 5 Tryd.underlying96 byteCellsOf g cur.size (by have hg' : w.drew.heap[g]? = some (.cells cur 5 (0, 0)) := hg; simp [World.shape?, hg']) l h0 (by omega) (by unfold maxLen at hcm; omega) ?_
    intro j x hx
    have := hown.cells (g := g) rfl j (.int .u8 x.toNat) (by simp [Lib.byteCells, hx])
    exact this
  have hkeep : Blk (w.drew.freeze ⟨g, 0, none⟩ l.length) b T cs := by
    unfold World.freeze
    split
    · exact hblk
    · show ((w.drew.heap.modify g _)[b]? = _)
      rw [Array.getElem?_modify, if_neg hne]
      exact hblk
  clear hv hcs htake
  go_enter Tryd.func25, Tryd.ntmps25
  go_wp2
  go_region
  all_goals (go_wp2; go_ret; exact ⟨rfl, hkeep, Lib.below_freeze (Below.drew (Below.refl B w)) (p := ⟨g, 0, none⟩) hbg _, ((Lib.OthersKept.refl _ _ w).drew).freeze ⟨g, 0, none⟩ _ ⟨cur, (0, 0), hg⟩⟩)

end Go.Proofs.YtefgajipakjpeaaDoor
