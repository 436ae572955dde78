/-
  patch.maker in memory: its builder's methods, and the contract of flush. Conditions: those in each theorem's own statement.
-/
import Derived.Test.YtefgajipakjpeaaDoorSame
namespace Go.Proofs.YtefgajipakjpeaaDoor
open Go.RowKit

theorem liesMaker : Lies 90 3 1 := ⟨by kernel_rfl, by decide⟩

/-- Block b, from B on, is a maker of these edits and this text. -/
structure MK (B b : Nat) (es : List EditD) (acc : List UInt8) (w : World) (cs : Array Value) (v : Value) : Prop where
  size : cs.size = 3
  head : cs[0]? = some v
  bat : BAt 90 1 B b cs (Lib.byteCells acc) w
  own : w.ownsRow B 56 3 v es.length (es.flatMap EditD.parts)
def MKat (B b : Nat) (es : List EditD) (acc : List UInt8) (w : World) : Prop := ∃ cs v, MK B b es acc w cs v

theorem own_others {w w' : World} {B s n : Nat} {e t : TypeId} {b : Nat} {cs : Array Value} {v : Value} {xs : List Value} (h : w.ownsRow B e s v n xs) (hb : Blk w b t cs) (hte : t ≠ e) (he : e ≠ 5) (hk : Lib.OthersKept 5 (some b) w w') : w'.ownsRow B e s v n xs := by
  have hne := own_ne h hb hte
  refine ⟨h.1, ?_⟩
  rcases h.2 with hn | ⟨g, cap, cur, rfl, hB, hgg, rest⟩
  · exact .inl hn
  · refine .inr ⟨g, cap, cur, rfl, hB, ?_, rest⟩
    exact hk g _ hgg (fun e => hne (by simpa [Value.ownBlock] using e)) (fun c fz he2 => by injection he2 with _ h2 _; exact he h2)

section
variable {B b : Nat} {es : List EditD} {acc : List UInt8} {w w' : World}
theorem MKat.lt (h : MKat B b es acc w) : b < w.heap.size := by
  obtain ⟨_, _, h⟩ := h
  exact h.bat.blk.lt
theorem MKat.hB (h : MKat B b es acc w) : B ≤ b := by
  obtain ⟨_, _, h⟩ := h
  exact h.bat.hB
theorem MKat.new (w : World) (hB : B ≤ w.heap.size) : MKat B w.heap.size [] [] (w.alloc (.cells #[.slice none 0 0, .pointer none, .slice none 0 0] 90)) :=
  ⟨_, _, rfl, rfl, ⟨hB, Blk.new w _ _, ⟨_, rfl, .inl rfl⟩, _, rfl, World.ownsRow_nil _ _ _ _⟩, World.ownsRow_nil _ _ _ _⟩
theorem MKat.keep (h : MKat B b es acc w) (hb : Below w.heap.size w w') : MKat B b es acc w' := by
  obtain ⟨cs, v, h⟩ := h
  exact ⟨cs, v, h.size, h.head, h.bat.keep hb (Nat.le_refl _), own_below h.own hb (Nat.le_refl _)⟩
theorem MKat.drew (h : MKat B b es acc w) : MKat B b es acc w.drew := h.keep (Below.drew (Below.refl _ _))
theorem MKat.drewN (h : MKat B b es acc w) (n : Nat) : MKat B b es acc (w.drewN n) := h.keep (below_drewN (Below.refl _ _) n)
theorem MKat.alloc (h : MKat B b es acc w) (o : Obj) : MKat B b es acc (w.alloc o) := h.keep ((Below.refl _ _).alloc (Nat.le_refl _) o)

/-- m.text.WriteString. -/
theorem MKat.write (h : MKat B b es acc w) (l : List UInt8) (hl : acc.length + l.length ≤ 70368744177664) (hBw : B ≤ w.heap.size) :
    Calls Tryd.prog 21 #[.pointer (some ⟨b, 1, none⟩), str l] w fun e w' => e = .returned (.tuple #[.int .i64 l.length, .nilIface]) ∧ MKat B b es (acc ++ l) w' ∧ Below B w w' := by
  obtain ⟨cs, v, h⟩ := h
  have hsz : (ByteArray.mk l.toArray).size = l.length := by
    show l.toArray.size = _
    simp
  refine (WriteString_any ⟨l.toArray⟩ h.bat (by rw [h.size]; exact liesMaker) (by have := h.size; omega) (by rw [hsz, Lib.byteCells_length]; omega) hBw).mono ?_
  rintro e w' ⟨rfl, cs', hw⟩
  have e1 : Lib.byteCells (acc ++ l) = Lib.byteCells acc ++ Lib.strCells ⟨l.toArray⟩ := by rw [Lib.byteCells_append]; rfl
  refine ⟨by rw [hsz], ⟨cs', v, hw.size.trans h.size, (hw.other 0 (by decide) (by decide)).trans h.head, ?_, ?_⟩, hw.below⟩
  · rw [e1]
    exact hw.at_
  · exact own_others h.own h.bat.blk (by decide) (by decide) hw.kept
/-- m.text.WriteByte. -/
theorem MKat.writeByte (h : MKat B b es acc w) (x : UInt8) (hl : acc.length + 1 ≤ 70368744177664) (hBw : B ≤ w.heap.size) :
    Calls Tryd.prog 48 #[.pointer (some ⟨b, 1, none⟩), .int .u8 (x.toNat : Int)] w fun e w' => e = .returned .nilIface ∧ MKat B b es (acc ++ [x]) w' ∧ Below B w w' := by
  obtain ⟨cs, v, h⟩ := h
  refine (WriteByte_any (x.toNat : Int) h.bat (by rw [h.size]; exact liesMaker) (by have := h.size; omega) (by rw [Lib.byteCells_length]; omega) hBw).mono ?_
  rintro e w' ⟨rfl, cs', hw⟩
  refine ⟨rfl, ⟨cs', v, hw.size.trans h.size, (hw.other 0 (by decide) (by decide)).trans h.head, ?_, ?_⟩, hw.below⟩
  · rw [byteCells_one]
    exact hw.at_
  · exact own_others h.own h.bat.blk (by decide) (by decide) hw.kept
end

set_option maxHeartbeats 1000000 in
set_option maxRecDepth 100000 in
/-- Len of a builder. -/
theorem Len_any {T : TypeId} {o B b : Nat} {cs : Array Value} {bs : List Value} {w : World} (h : BAt T o B b cs bs w) :
    Calls Tryd.prog 72 #[.pointer (some ⟨b, o, none⟩)] w fun e w' => e = .returned (.int .i64 bs.length) ∧ w = w' := by
  obtain ⟨hB, hblk, _, v, hv, hown⟩ := h
  obtain ⟨A, c, rfl⟩ := own_shape hown
  have c1 : w.cell? ⟨b, o + 1, none⟩ = some (.slice A bs.length c) := (hblk.cell _).trans hv
  clear hv hown hblk
  go_enter Tryd.func72, Tryd.ntmps72
  go_wp2
  go_ret
  exact ⟨rfl, rfl⟩

set_option maxHeartbeats 1000000 in
set_option maxRecDepth 100000 in
/-- Reset of a builder. -/
theorem Reset_any {T : TypeId} {o b : Nat} {cs : Array Value} {w : World} (h : Blk w b T cs) (ho : o + 1 < cs.size) :
    Calls Tryd.prog 73 #[.pointer (some ⟨b, o, none⟩)] w fun e w' => e = .returned (.tuple #[]) ∧ w' = (w.setCell ⟨b, o, none⟩ (.pointer none)).setCell ⟨b, o + 1, none⟩ (.slice none 0 0) := by
  obtain ⟨x, hx⟩ : ∃ x, cs[o]? = some x := ⟨cs[o], Array.getElem?_eq_getElem (by omega)⟩
  obtain ⟨y, hy⟩ : ∃ y, cs[o + 1]? = some y := ⟨cs[o + 1], Array.getElem?_eq_getElem (by omega)⟩
  have c0 : w.cell? ⟨b, o, none⟩ = some x := (h.cell _).trans hx
  have c1 : w.cell? ⟨b, o + 1, none⟩ = some y := (h.cell _).trans hy
  have f0 := h.frozen o
  have f1 := h.frozen (o + 1)
  clear hx hy h
  go_enter Tryd.func73, Tryd.ntmps73
  go_wp2
  go_end0
  exact ⟨rfl, rfl⟩

/-- Behind String: the builder's bytes are frozen, all else stands. -/
structure FS (B b : Nat) (es : List EditD) (w w' : World) (cs : Array Value) (v : Value) : Prop where
  size : cs.size = 3
  hB : B ≤ b
  head : cs[0]? = some v
  blk : Blk w' b 90 cs
  own : w'.ownsRow B 56 3 v es.length (es.flatMap EditD.parts)
  below : Below B w w'

section
variable {B b : Nat} {es : List EditD} {acc : List UInt8} {w w1 w2 w' : World} {cs : Array Value} {v v' : Value} {e : EditD} {o : Obj}
theorem MK.fs (h : MK B b es acc w cs v) (hb : Blk w' b 90 cs) (hbel : Below B w w') (hk : Lib.OthersKept 5 (some b) w w') : FS B b es w w' cs v :=
  ⟨h.size, h.bat.hB, h.head, hb, own_others h.own h.bat.blk (by decide) (by decide) hk, hbel⟩
theorem FS.cell (h : FS B b es w w' cs v) : w'.cell? ⟨b, 0, none⟩ = some v := (h.blk.cell 0).trans h.head
theorem FS.cellA (h : FS B b es w w' cs v) (o : Obj) : (w'.alloc o).cell? ⟨b, 0, none⟩ = some v := ((h.blk.alloc o).cell 0).trans h.head
theorem FS.app (h : FS B b es w w1 cs v) (hbw : B ≤ w1.heap.size) (hg : (w1.alloc o).grownBy w2 v.ownBlock) (hown : w2.ownsRow B 56 3 v' (es.length + 1) (es.flatMap EditD.parts ++ e.parts)) :
    Blk w2 b 90 cs ∧ FS B b (es ++ [e]) w (w2.setCell ⟨b, 0, none⟩ v') (cs.setIfInBounds 0 v') v' := by
  have hb0 : Blk w2 b 90 cs := (h.blk.alloc o).grown hg (fun e => own_ne h.own h.blk (by decide) e.symm)
  have hown' : w2.ownsRow B 56 3 v' (es ++ [e]).length ((es ++ [e]).flatMap EditD.parts) := by
    rw [List.length_append, List.flatMap_append]
    simpa using hown
  refine ⟨hb0, by simpa using h.size, h.hB, by simp [h.size], hb0.set_ 0 v', ?_, ?_⟩
  · exact ownsRow_setCell_other (a := ⟨b, 0, none⟩) hown' (own_ne hown' hb0 (by decide)) _
  · exact ((h.below.alloc hbw o).grown hg (by simp; omega) (fun x hx => (h.own.lt x hx).1)).setCell (p := ⟨b, 0, none⟩) h.hB _
/-- Behind Reset. -/
theorem FS.reset (h : FS B b es w w' cs v) : MKat B b es [] ((w'.setCell ⟨b, 1, none⟩ (.pointer none)).setCell ⟨b, 2, none⟩ (.slice none 0 0)) ∧ Below B w ((w'.setCell ⟨b, 1, none⟩ (.pointer none)).setCell ⟨b, 2, none⟩ (.slice none 0 0)) := by
  have hs := h.size
  have h1 := h.blk.set_ 1 (.pointer none)
  have h2 := h1.set_ 2 (.slice none 0 0)
  refine ⟨⟨_, v, by simpa using hs, ?_, ⟨h.hB, h2, ⟨.pointer none, ?_, .inl rfl⟩, .slice none 0 0, ?_, World.ownsRow_nil _ _ _ _⟩, ?_⟩, ?_⟩
  · rw [Array.getElem?_setIfInBounds_ne (by decide), Array.getElem?_setIfInBounds_ne (by decide)]
    exact h.head
  · rw [Array.getElem?_setIfInBounds_ne (by decide)]
    simp [hs]
  · simp [hs]
  · have o1 := ownsRow_setCell_other (a := ⟨b, 1, none⟩) h.own (own_ne h.own h.blk (by decide)) (.pointer none)
    exact ownsRow_setCell_other (a := ⟨b, 2, none⟩) o1 (own_ne o1 h1 (by decide)) _
  · exact (h.below.setCell (p := ⟨b, 1, none⟩) h.hB _).setCell (p := ⟨b, 2, none⟩) h.hB _
end

/-- flush, in plain Lean. -/
def flushL (es : List EditD) (acc : List UInt8) : List EditD := if acc.isEmpty then es else es ++ [⟨0, 0, acc⟩]

set_option maxHeartbeats 8000000 in
set_option maxRecDepth 100000 in
theorem flush_any {B b : Nat} {es : List EditD} {acc : List UInt8} {w : World} (h : MKat B b es acc w) (hBw : B ≤ w.heap.size) (hel : es.length ≤ 4000000000) (hal : acc.length ≤ 70368744177664) :
    Calls Tryd.prog 39 #[.pointer (some ⟨b, 0, none⟩)] w fun e w' => e = .returned (.tuple #[]) ∧ MKat B b (flushL es acc) [] w' ∧ Below B w w' := by
  obtain ⟨i0, hi, hz0, hz1, hz2⟩ := info_parts editInfo
  obtain ⟨cs, v, h⟩ := h
  have HM := Lib.hid h
  have HL := Lib.hid (Len_any h.bat)
  clear h
  unfold flushL
  cases acc with
  | nil =>
    have HZ : Hid (MKat B b es [] w) := ⟨cs, v, HM.out⟩
    have hlz : (Lib.byteCells []).length = 0 := rfl
    rw [hlz] at HL
    clear hlz
    go_enter Tryd.func39, Tryd.ntmps39
    go_wp2_with fail
    refine (HL.out).mono ?_
    rintro r w1 ⟨rfl, rfl⟩
    go_wp2
    go_end0
    exact ⟨rfl, HZ.out, Below.refl _ _⟩
  | cons x0 xs0 =>
    have hml : 0 < (x0 :: xs0).length := by simp
    have hne : x0 :: xs0 ≠ [] := by simp
    have hie : (x0 :: xs0).isEmpty = false := rfl
    rw [hie]
    generalize x0 :: xs0 = acc at HM HL hml hal hne ⊢
    rw [Lib.byteCells_length] at HL
    clear hie
    have HST := Lib.hid (fun (w' : World) (hb : BAt 90 1 B b cs (Lib.byteCells acc) w') => String_any hb (by decide) hne)
    clear hne
    obtain ⟨A, c, rfl⟩ := own_shape HM.out.own
    generalize hmm : acc.length = m at HL hml
    have hmi : (0 : Int) < (m : Int) := by omega
    clear hmm
    go_enter Tryd.func39, Tryd.ntmps39
    go_wp2_with fail
    refine (HL.out).mono ?_
    rintro r w1 ⟨rfl, rfl⟩
    go_wp2_with fail
    have HMd : Hid (BAt 90 1 B b cs (Lib.byteCells acc) w.drew) := HM.out.bat.keep (Below.drew (Below.refl _ _)) (Nat.le_refl _)
    have cd : w.cell? ⟨b, 0, none⟩ = some (.slice A es.length c) := (HM.out.bat.blk.cell 0).trans HM.out.head
    have QC : Hid (es.length + 1 ≤ maxLen) := by show _ ≤ _; unfold maxLen; omega
    have QD : Hid ((es.length + 1) * 32 ≤ 140737488355328) := by show _ ≤ _; omega
    have QB := Lib.hid (edit_one ⟨0, 0, acc⟩)
    go_region_law
      (first
        | (have h5 := HF5.out.own.alloc (.cells #[.int .i64 0, .int .i64 0, .string ⟨acc.toArray⟩] 56); refine step_append_own (by rfl) _ _ 22 (by rfl) B 56 i0 (.agg #[.int .i64 0, .int .i64 0, .string ByteArray.empty]) 3 32 Tryd.underlying22 hi hz0 hz1 hz2 rfl (by decide) _ _ _ (by rfl) h5 ⟨w5.heap.size, 0, none⟩ 1 1 [.int .i64 0, .int .i64 0, .string ⟨acc.toArray⟩] (by rfl) (by rfl) (World.news_of_block (heap_alloc_new w5 _)) QB.out QC.out QD.out (Nat.le_trans QE.out (by simp)) ?_; intro v6 w6 hown6 hgrow6; obtain ⟨A6, c6, rfl⟩ := own_shape hown6; have hap := FS.app (e := ⟨0, 0, acc⟩) HF5.out QE.out hgrow6 hown6; have HB6 := Lib.hid hap.1; have HF6 := Lib.hid hap.2; have f6 := HB6.out.frozen 0; have c6' := (HB6.out.cell 0).trans HF5.out.head; clear hown6 hgrow6 h5 hap)
        | (refine step_call (by rfl) 25 _ _ (by rfl) Tryd.call25 _ (by first | (simp [Act.eval]; done) | simp [Act.eval, Act.put]) (HST.out _ HMd.out) ?_; rintro e w5 ⟨rfl, hb5, hl5, hk5⟩; refine ⟨_, rfl, ?_⟩; have HF5 := Lib.hid (HM.out.fs hb5 (Below.trans (Below.drew (Below.refl B w)) hl5) (Lib.OthersKept.trans ((Lib.OthersKept.refl _ _ w).drew) hk5)); have c5 := HF5.out.cell; have c5' := HF5.out.cellA (.cells #[.int .i64 0, .int .i64 0, .string ⟨acc.toArray⟩] 56); have QE : Hid (B ≤ w5.heap.size) := Lib.hid (Nat.le_trans hBw HF5.out.below.size); clear hb5 hl5 hk5))
    all_goals
      clear f6 c6' c5 c5' cd
      have hsz6 := HF6.out.size
      have HRS := Lib.hid (Reset_any (o := 1) HF6.out.blk (by rw [hsz6]; decide))
      have HRR := Lib.hid HF6.out.reset
      clear hsz6
      go_wp2_with fail
      refine (HRS.out).mono ?_
      rintro r w8 ⟨rfl, rfl⟩
      go_wp2
      go_end0
      exact ⟨rfl, HRR.out.1, HRR.out.2⟩

end Go.Proofs.YtefgajipakjpeaaDoor
