/-
  image.coder that writes: contracts of ints, texts and bool. Conditions: the encoding is at most 2^46 bytes long.
-/
import Derived.Test.YtefgajipakjpeaaDoorJoin
import Derived.Deep.RegionHeld3
namespace Go.Proofs.YtefgajipakjpeaaDoor
open Go.RowKit

theorem liesCoder : Lies 83 3 0 := ⟨by kernel_rfl, by decide⟩

/-- Block cb, from B on, is a coder that writes and has written these bytes. -/
def CW (B cb : Nat) (acc : List UInt8) (w : World) : Prop := ∃ cs : Array Value, cs.size = 3 ∧ cs[2]? = some (.pointer none) ∧ BAt 83 0 B cb cs (Lib.byteCells acc) w
/-- What a coder that writes turns. -/
structure Wr (B cb : Nat) (w w' : World) : Prop where
  below : Below B w w'
  kept : Lib.OthersKept 5 (some cb) w w'
theorem Wr.refl (B cb : Nat) (w : World) : Wr B cb w w := ⟨Below.refl _ _, Lib.OthersKept.refl _ _ _⟩
theorem Wr.trans {B cb : Nat} {a b c : World} (h : Wr B cb a b) (k : Wr B cb b c) : Wr B cb a c := ⟨h.below.trans k.below, h.kept.trans k.kept⟩
theorem Wr.of_below {B cb : Nat} {w w' : World} (h : Below w.heap.size w w') (hB : B ≤ w.heap.size) : Wr B cb w w' :=
  ⟨h.mono hB, fun k o hk _ _ => by
    have hlt : k < w.heap.size := (Array.getElem?_eq_some_iff.1 hk).1
    exact (h.block k hlt).trans hk⟩
theorem Wr.drew {B cb : Nat} {a w : World} (h : Wr B cb a w) : Wr B cb a w.drew := ⟨h.below.drew, h.kept.drew⟩
theorem Wr.alloc {B cb : Nat} {a w : World} (h : Wr B cb a w) (o : Obj) (hB : B ≤ w.heap.size) : Wr B cb a (w.alloc o) := ⟨h.below.alloc hB o, h.kept.alloc o⟩
theorem Wr.size {B cb : Nat} {a w : World} (h : Wr B cb a w) : a.heap.size ≤ w.heap.size := h.below.size
/-- A block that no builder and no row of bytes is stands. -/
theorem Blk.wr {B cb g : Nat} {w w' : World} {t : TypeId} {cs : Array Value} (h : Blk w g t cs) (k : Wr B cb w w') (hg : g ≠ cb) (ht : t ≠ 5) : Blk w' g t cs :=
  h.others k.kept (by simpa using hg) ht

theorem CW.lt {B cb : Nat} {acc : List UInt8} {w : World} (h : CW B cb acc w) : cb < w.heap.size := by
  obtain ⟨_, _, _, h⟩ := h
  exact h.blk.lt
theorem CW.hB {B cb : Nat} {acc : List UInt8} {w : World} (h : CW B cb acc w) : B ≤ cb := by
  obtain ⟨_, _, _, h⟩ := h
  exact h.hB
theorem CW.in_ {B cb : Nat} {acc : List UInt8} {w : World} (h : CW B cb acc w) : w.cell? ⟨cb, 2, none⟩ = some (.pointer none) := by
  obtain ⟨cs, h1, h2, h⟩ := h
  exact (h.blk.cell 2).trans h2
theorem CW.new {B : Nat} (w : World) (hB : B ≤ w.heap.size) : CW B w.heap.size [] (w.alloc (.cells #[.pointer none, .slice none 0 0, .pointer none] 83)) :=
  ⟨_, rfl, rfl, hB, Blk.new w _ _, ⟨_, rfl, .inl rfl⟩, _, rfl, World.ownsRow_nil _ _ _ _⟩
theorem CW.keep {B cb : Nat} {acc : List UInt8} {w w' : World} (h : CW B cb acc w) (hb : Below w.heap.size w w') : CW B cb acc w' := by
  obtain ⟨cs, h1, h2, h⟩ := h
  exact ⟨cs, h1, h2, h.keep hb (Nat.le_refl _)⟩
theorem CW.drew {B cb : Nat} {acc : List UInt8} {w : World} (h : CW B cb acc w) : CW B cb acc w.drew := h.keep (Below.drew (Below.refl _ _))
theorem CW.alloc {B cb : Nat} {acc : List UInt8} {w : World} (h : CW B cb acc w) (o : Obj) : CW B cb acc (w.alloc o) := h.keep ((Below.refl _ _).alloc (Nat.le_refl _) o)

theorem CW.write {B cb : Nat} {acc : List UInt8} {w : World} (h : CW B cb acc w) (l : List UInt8) (hl : acc.length + l.length ≤ 70368744177664) (hBw : B ≤ w.heap.size) :
    Calls Tryd.prog 21 #[.pointer (some ⟨cb, 0, none⟩), str l] w fun e w' => e = .returned (.tuple #[.int .i64 l.length, .nilIface]) ∧ CW B cb (acc ++ l) w' ∧ Wr B cb w w' := by
  obtain ⟨cs, hs, h2, h⟩ := h
  have hsz : (ByteArray.mk l.toArray).size = l.length := by
    show l.toArray.size = _
    simp
  refine (WriteString_any ⟨l.toArray⟩ h (by rw [hs]; exact liesCoder) (by omega) (by rw [hsz, Lib.byteCells_length]; omega) hBw).mono ?_
  rintro e w' ⟨rfl, cs', hw⟩
  have e1 : Lib.byteCells (acc ++ l) = Lib.byteCells acc ++ Lib.strCells ⟨l.toArray⟩ := by rw [Lib.byteCells_append]; rfl
  refine ⟨by rw [hsz], ⟨cs', hw.size.trans hs, (hw.other 2 (by decide) (by decide)).trans h2, ?_⟩, ⟨hw.below, hw.kept⟩⟩
  rw [e1]
  exact hw.at_

/-- A cell that a writing coder does not turn. -/
def CellAt (cb : Nat) (w : World) (p : Addr) (v : Value) : Prop := ∃ t cs, Blk w p.block t cs ∧ t ≠ 5 ∧ p.block ≠ cb ∧ p = ⟨p.block, p.off, none⟩ ∧ cs[p.off]? = some v
theorem CellAt.cell {cb : Nat} {w : World} {p : Addr} {v : Value} (h : CellAt cb w p v) : w.cell? p = some v := by
  obtain ⟨t, cs, h1, _, _, h4, h5⟩ := h
  rw [h4]
  exact (h1.cell _).trans h5
theorem CellAt.wr {B cb : Nat} {w w' : World} {p : Addr} {v : Value} (h : CellAt cb w p v) (k : Wr B cb w w') : CellAt cb w' p v := by
  obtain ⟨t, cs, h1, h2, h3, h4, h5⟩ := h
  exact ⟨t, cs, h1.wr k h3 h2, h2, h3, h4, h5⟩
theorem CellAt.mk_ {cb g i : Nat} {w : World} {t : TypeId} {cs : Array Value} {v : Value} (h : Blk w g t cs) (ht : t ≠ 5) (hg : g ≠ cb) (hv : cs[i]? = some v) : CellAt cb w ⟨g, i, none⟩ v := ⟨t, cs, h, ht, hg, rfl, hv⟩

/-- What a function that writes leaves. -/
def PutPost (B cb : Nat) (w : World) (acc : List UInt8) (e : Ending) (w' : World) : Prop := e = .returned (.tuple #[]) ∧ CW B cb acc w' ∧ Wr B cb w w'

def ptrCells {α : Type} (l : List (Addr × α)) : Array Value := (l.map fun x => Value.pointer (some x.1)).toArray

set_option maxHeartbeats 4000000 in
set_option maxRecDepth 100000 in
/-- ints of a coder that writes. -/
theorem ints_w {B cb g : Nat} {acc : List UInt8} {w : World} (l : List (Addr × Int)) (h : CW B cb acc w) (hBw : B ≤ w.heap.size) (hrow : Blk w g 105 (ptrCells l)) (hg : g ≠ cb) (hll : l.length ≤ 1000)
    (hat : ∀ x ∈ l, CellAt cb w x.1 (.int .i64 x.2)) (hi : ∀ x ∈ l, I64 x.2) (hlen : acc.length + (l.flatMap fun x => wInt x.2).length ≤ 70368744177664) :
    Calls Tryd.prog 51 #[.pointer (some ⟨cb, 0, none⟩), .slice (some ⟨g, 0, none⟩) l.length l.length] w (PutPost B cb w (acc ++ l.flatMap fun x => wInt x.2)) := by
  have HAT := Lib.hid hat
  have HI := Lib.hid hi
  have HROW := Lib.hid hrow
  have HC := Lib.hid h
  clear hat hi hrow h
  unfold PutPost
  go_enter Tryd.func51, Tryd.ntmps51
  go_wp2_with fail
  go_loopw [8] (fun vi wr => ∃ i : Nat, vi = .int .i64 i ∧ i ≤ l.length ∧ Hid (CW B cb (acc ++ (l.take i).flatMap fun x => wInt x.2) wr) ∧ Hid (Wr B cb w wr)) (fun vi _ => l.length - (intOf vi).toNat)
  case atStart => exact ⟨0, rfl, Nat.zero_le _, Lib.hid (by simpa using HC.out), Wr.refl _ _ _⟩
  case round =>
    obtain ⟨i, rfl, hil0, HCW, HW⟩ := hrel
    by_cases hil : i < l.length
    · have HT := Lib.hid (List.take_succ_eq_append_getElem hil)
      have hrc : wr.cell? ⟨g, i, none⟩ = some (.pointer (some (l[i]'hil).1)) := by
        rw [(HROW.out.wr HW.out hg (by decide)).cell i]
        simp [ptrCells, List.getElem?_eq_getElem hil]
      have HX := Lib.hid ((HAT.out _ (List.getElem_mem hil)).wr HW.out)
      have HXI := Lib.hid (HI.out _ (List.getElem_mem hil))
      have hpre : (l.take (i + 1)).flatMap (fun x => wInt x.2) ++ (l.drop (i + 1)).flatMap (fun x => wInt x.2) = l.flatMap fun x => wInt x.2 := by rw [← List.flatMap_append, List.take_append_drop]
      have hpl := congrArg List.length hpre
      rw [HT.out, List.flatMap_append] at hpl
      simp only [List.length_append, List.flatMap_cons, List.flatMap_nil, List.append_nil] at hpl
      have HLN : Hid (acc ++ (l.take (i + 1)).flatMap (fun x => wInt x.2) = acc ++ (l.take i).flatMap (fun x => wInt x.2) ++ wInt (l[i]'hil).2) := Lib.hid (by rw [HT.out, List.flatMap_append]; simp)
      have hacc : (acc ++ (l.take i).flatMap (fun x => wInt x.2)).length + (wInt (l[i]'hil).2).length ≤ 70368744177664 := by rw [List.length_append]; omega
      generalize acc ++ (l.take i).flatMap (fun x => wInt x.2) = ac at HCW HLN hacc
      generalize l[i]'hil = px at hrc HX HXI HLN hacc
      obtain ⟨p, x⟩ := px
      simp only at hrc HX HXI HLN hacc
      have HIN := Lib.hid (Int_any x HXI.out)
      unfold str at HIN
      generalize wInt x = I1 at HIN HLN hacc
      clear hpre hpl HT HXI
      have cin := HCW.out.in_
      have cp := HX.out.cell
      go_wp2_with fail
      have HCWd : Hid (CW B cb ac wr.drew) := HCW.out.drew
      have HXd : Hid (CellAt cb wr.drew p (.int .i64 x)) := HX.out.wr ((Wr.refl B cb wr).drew)
      have HWd : Hid (Wr B cb w wr.drew) := HW.out.drew
      go_region_held3 (fun w' => w'.cell? p = some (.int .i64 x))
        (first | exact HX5.out.cell | exact HX4.out.cell | exact HXd.out.cell)
        (first
          | (go_at_call 21; refine Calls.mono (HCW4.out.write I1 hacc (Nat.le_trans hBw HW4.out.size)) ?_; rintro e w5 ⟨rfl, hc5, hw5⟩; have HCW5 := Lib.hid hc5; have HX5 := Lib.hid (HX4.out.wr hw5); have HW5 := Lib.hid (HW4.out.trans hw5); clear hc5 hw5)
          | (go_at_call 24; refine Calls.mono (HIN.out _) ?_; rintro e w4 ⟨rfl, hb4⟩; have HCW4 := Lib.hid (HCWd.out.keep hb4); have HX4 := Lib.hid (HXd.out.wr (Wr.of_below hb4 (Nat.le_trans hBw HWd.out.size))); have HW4 := Lib.hid (HWd.out.trans (Wr.of_below hb4 (Nat.le_trans hBw HWd.out.size))); clear hb4))
      rw [← HLN.out] at HCW5
      go_wp2
      go_roundw
      case rel => exact ⟨i + 1, by go_num, by omega, HCW5, HW5⟩
      case measure => simp [intOf]; omega
    · obtain rfl : i = l.length := by omega
      rw [List.take_length] at HCW
      go_wp2
      go_end0
      exact ⟨rfl, HCW.out, HW.out⟩
/- TEXTS -/
set_option maxHeartbeats 4000000 in
set_option maxRecDepth 100000 in
/-- texts of a coder that writes. -/
theorem texts_w {B cb g : Nat} {acc : List UInt8} {w : World} (l : List (Addr × List UInt8)) (h : CW B cb acc w) (hBw : B ≤ w.heap.size) (hrow : Blk w g 108 (ptrCells l)) (hg : g ≠ cb) (hll : l.length ≤ 1000)
    (hat : ∀ x ∈ l, CellAt cb w x.1 (.string ⟨x.2.toArray⟩)) (hlen : acc.length + (l.flatMap fun x => wText x.2).length ≤ 70368744177664) :
    Calls Tryd.prog 53 #[.pointer (some ⟨cb, 0, none⟩), .slice (some ⟨g, 0, none⟩) l.length l.length] w (PutPost B cb w (acc ++ l.flatMap fun x => wText x.2)) := by
  have HAT := Lib.hid hat
  have HROW := Lib.hid hrow
  have HC := Lib.hid h
  clear hat hrow h
  unfold PutPost
  go_enter Tryd.func53, Tryd.ntmps53
  go_wp2_with fail
  go_loopw [8] (fun vi wr => ∃ i : Nat, vi = .int .i64 i ∧ i ≤ l.length ∧ Hid (CW B cb (acc ++ (l.take i).flatMap fun x => wText x.2) wr) ∧ Hid (Wr B cb w wr)) (fun vi _ => l.length - (intOf vi).toNat)
  case atStart => exact ⟨0, rfl, Nat.zero_le _, Lib.hid (by simpa using HC.out), Wr.refl _ _ _⟩
  case round =>
    obtain ⟨i, rfl, hil0, HCW, HW⟩ := hrel
    by_cases hil : i < l.length
    · have HT := Lib.hid (List.take_succ_eq_append_getElem hil)
      have hrc : wr.cell? ⟨g, i, none⟩ = some (.pointer (some (l[i]'hil).1)) := by
        rw [(HROW.out.wr HW.out hg (by decide)).cell i]
        simp [ptrCells, List.getElem?_eq_getElem hil]
      have HX := Lib.hid ((HAT.out _ (List.getElem_mem hil)).wr HW.out)
      have hpre : (l.take (i + 1)).flatMap (fun x => wText x.2) ++ (l.drop (i + 1)).flatMap (fun x => wText x.2) = l.flatMap fun x => wText x.2 := by rw [← List.flatMap_append, List.take_append_drop]
      have hpl := congrArg List.length hpre
      rw [HT.out, List.flatMap_append] at hpl
      simp only [List.length_append, List.flatMap_cons, List.flatMap_nil, List.append_nil] at hpl
      have HLN : Hid (acc ++ (l.take (i + 1)).flatMap (fun x => wText x.2) = acc ++ (l.take i).flatMap (fun x => wText x.2) ++ wText (l[i]'hil).2) := Lib.hid (by rw [HT.out, List.flatMap_append]; simp)
      have hacc : (acc ++ (l.take i).flatMap (fun x => wText x.2)).length + (wText (l[i]'hil).2).length ≤ 70368744177664 := by rw [List.length_append]; omega
      generalize acc ++ (l.take i).flatMap (fun x => wText x.2) = ac at HCW HLN hacc
      generalize l[i]'hil = px at hrc HX HLN hacc
      obtain ⟨p, x⟩ := px
      simp only at hrc HX HLN hacc
      have htl : x.length ≤ (wText x).length := by simp [wText]
      have HIN := Lib.hid (Text_any x (by omega))
      unfold str at HIN
      generalize wText x = I1 at HIN HLN hacc htl
      clear hpre hpl HT htl
      have cin := HCW.out.in_
      have cp := HX.out.cell
      go_wp2_with fail
      have HCWd : Hid (CW B cb ac wr.drew) := HCW.out.drew
      have HXd : Hid (CellAt cb wr.drew p (.string ⟨x.toArray⟩)) := HX.out.wr ((Wr.refl B cb wr).drew)
      have HWd : Hid (Wr B cb w wr.drew) := HW.out.drew
      go_region_held3 (fun w' => w'.cell? p = some (.string ⟨x.toArray⟩))
        (first | exact HX5.out.cell | exact HX4.out.cell | exact HXd.out.cell)
        (first
          | (go_at_call 21; refine Calls.mono (HCW4.out.write I1 hacc (Nat.le_trans hBw HW4.out.size)) ?_; rintro e w5 ⟨rfl, hc5, hw5⟩; have HCW5 := Lib.hid hc5; have HX5 := Lib.hid (HX4.out.wr hw5); have HW5 := Lib.hid (HW4.out.trans hw5); clear hc5 hw5)
          | (go_at_call 22; refine Calls.mono (HIN.out _) ?_; rintro e w4 ⟨rfl, hb4⟩; have HCW4 := Lib.hid (HCWd.out.keep hb4); have HX4 := Lib.hid (HXd.out.wr (Wr.of_below hb4 (Nat.le_trans hBw HWd.out.size))); have HW4 := Lib.hid (HWd.out.trans (Wr.of_below hb4 (Nat.le_trans hBw HWd.out.size))); clear hb4))
      rw [← HLN.out] at HCW5
      go_wp2
      go_roundw
      case rel => exact ⟨i + 1, by go_num, by omega, HCW5, HW5⟩
      case measure => simp [intOf]; omega
    · obtain rfl : i = l.length := by omega
      rw [List.take_length] at HCW
      go_wp2
      go_end0
      exact ⟨rfl, HCW.out, HW.out⟩

theorem setCell_same {w : World} {g i : Nat} {t : TypeId} {cs : Array Value} {v : Value} (h : Blk w g t cs) (hv : cs[i]? = some v) : w.setCell ⟨g, i, none⟩ v = w := by
  have e : (w.setCell ⟨g, i, none⟩ v).heap = w.heap := by
    apply Array.ext_getElem?
    intro k
    by_cases hk : k = g
    · subst hk
      have h2 := h.set_ i v
      unfold Blk at h2 h
      rw [h2, h]
      congr 2
      apply Array.ext_getElem?
      intro j
      rw [Array.getElem?_setIfInBounds]
      split
      · rename_i hj
        subst hj
        split
        · exact hv.symm
        · rename_i hlt
          rw [Array.getElem?_eq_none (by omega)] at hv
          cases hv
      · rfl
    · exact Below.heap_setCell w ⟨g, i, none⟩ v k hk
  have e2 : w.setCell ⟨g, i, none⟩ v = { w with heap := (w.setCell ⟨g, i, none⟩ v).heap } := rfl
  rw [e2, e]

def boolI (v : Bool) : Int := if v then 1 else 0
theorem boolI_I64 (v : Bool) : I64 (boolI v) := by unfold boolI I64; cases v <;> decide
set_option maxHeartbeats 2000000 in
set_option maxRecDepth 100000 in
/-- bool of a coder that writes. -/
theorem bool_w {B cb g i : Nat} {acc : List UInt8} {w : World} {t : TypeId} {cs : Array Value} (v : Bool) (h : CW B cb acc w) (hBw : B ≤ w.heap.size) (hb : Blk w g t cs) (ht : t ≠ 5) (hg : g ≠ cb) (hv : cs[i]? = some (.bool v))
    (hlen : acc.length + (wInt (boolI v)).length ≤ 70368744177664) :
    Calls Tryd.prog 54 #[.pointer (some ⟨cb, 0, none⟩), .pointer (some ⟨g, i, none⟩)] w (PutPost B cb w (acc ++ wInt (boolI v))) := by
  have c0 : w.cell? ⟨g, i, none⟩ = some (.bool v) := (hb.cell i).trans hv
  have HB := Lib.hid hb
  have HG := Lib.hid hg
  have HT := Lib.hid ht
  have HV := Lib.hid hv
  have hglt := hb.lt
  have hclt := h.lt
  have HC := Lib.hid h
  clear hb hg ht hv h
  unfold PutPost
  have key : ∀ n, n = boolI v → Calls Tryd.prog 51 #[.pointer (some ⟨cb, 0, none⟩), .slice (some ⟨w.heap.size + 1, 0, none⟩) 1 1] ((w.alloc (.cells #[.int .i64 n] 3)).alloc (.cells #[.pointer (some ⟨w.heap.size, 0, none⟩)] 105))
        (fun e w' => PutPost B cb ((w.alloc (.cells #[.int .i64 n] 3)).alloc (.cells #[.pointer (some ⟨w.heap.size, 0, none⟩)] 105)) (acc ++ wInt (boolI v)) e w') := by
    intro n hn
    subst hn
    have hne : w.heap.size ≠ cb := by omega
    have hsz : (w.alloc (.cells #[.int .i64 (boolI v)] 3)).heap.size = w.heap.size + 1 := by simp
    have hr : Blk ((w.alloc (.cells #[.int .i64 (boolI v)] 3)).alloc (.cells #[.pointer (some ⟨w.heap.size, 0, none⟩)] 105)) (w.heap.size + 1) 105 #[.pointer (some ⟨w.heap.size, 0, none⟩)] := Blk.newAt hsz
    have h1 := ints_w (B := B) (cb := cb) (g := w.heap.size + 1) (acc := acc) (w := (w.alloc (.cells #[.int .i64 (boolI v)] 3)).alloc (.cells #[.pointer (some ⟨w.heap.size, 0, none⟩)] 105)) [(⟨w.heap.size, 0, none⟩, boolI v)] ((HC.out.alloc _).alloc _) (by simp; omega)
      hr (by omega) (by simp) (by
        intro x hx2
        simp at hx2
        subst hx2
        exact CellAt.mk_ ((Blk.new w 3 _).alloc _) (by decide) hne rfl) (by
        intro x hx2
        simp at hx2
        subst hx2
        exact boolI_I64 v) (by simpa using hlen)
    simpa using h1
  have HKEY := Lib.hid key
  clear key
  cases v with
  | true =>
    have hbi : boolI true = 1 := rfl
    rw [hbi] at HKEY hlen ⊢
    clear hbi
    have HX : Hid (Blk ((w.alloc (.cells #[.int .i64 1] 3)).alloc (.cells #[.pointer (some ⟨w.heap.size, 0, none⟩)] 105)) w.heap.size 3 #[.int .i64 1]) := Lib.hid ((Blk.new w 3 _).alloc _)
    have HW : Hid (Wr B cb w ((w.alloc (.cells #[.int .i64 1] 3)).alloc (.cells #[.pointer (some ⟨w.heap.size, 0, none⟩)] 105))) := Lib.hid (Wr.of_below (((Below.refl _ _).alloc (Nat.le_refl _) _).alloc (by simp) _) hBw)
    have HK2 := Lib.hid (HKEY.out 1 rfl)
    clear HKEY HC
    unfold PutPost at HK2
    go_enter Tryd.func54, Tryd.ntmps54
    go_wp2_with fail
    refine (HK2.out).mono ?_
    rintro r w5 ⟨rfl, hc5, hw5⟩
    have HX5 := Lib.hid (HX.out.wr hw5 (by omega) (by decide))
    have HW5 := Lib.hid (HW.out.trans hw5)
    have HP5 := Lib.hid (HB.out.wr HW5.out HG.out HT.out)
    have HC5 := Lib.hid hc5
    clear hc5 hw5 HX HW HK2
    have n0 : w5.cell? ⟨w.heap.size, 0, none⟩ = some (.int .i64 1) := HX5.out.cell 0
    have p0 : w5.cell? ⟨g, i, none⟩ = some (.bool true) := (HP5.out.cell i).trans HV.out
    have f0 := HP5.out.frozen i
    go_wp2
    go_end0
    rw [setCell_same HP5.out HV.out]
    exact ⟨rfl, HC5.out, HW5.out⟩
  | false =>
    have hbi : boolI false = 0 := rfl
    rw [hbi] at HKEY hlen ⊢
    clear hbi
    have HX : Hid (Blk ((w.alloc (.cells #[.int .i64 0] 3)).alloc (.cells #[.pointer (some ⟨w.heap.size, 0, none⟩)] 105)) w.heap.size 3 #[.int .i64 0]) := Lib.hid ((Blk.new w 3 _).alloc _)
    have HW : Hid (Wr B cb w ((w.alloc (.cells #[.int .i64 0] 3)).alloc (.cells #[.pointer (some ⟨w.heap.size, 0, none⟩)] 105))) := Lib.hid (Wr.of_below (((Below.refl _ _).alloc (Nat.le_refl _) _).alloc (by simp) _) hBw)
    have HK2 := Lib.hid (HKEY.out 0 rfl)
    clear HKEY HC
    unfold PutPost at HK2
    go_enter Tryd.func54, Tryd.ntmps54
    go_wp2_with fail
    refine (HK2.out).mono ?_
    rintro r w5 ⟨rfl, hc5, hw5⟩
    have HX5 := Lib.hid (HX.out.wr hw5 (by omega) (by decide))
    have HW5 := Lib.hid (HW.out.trans hw5)
    have HP5 := Lib.hid (HB.out.wr HW5.out HG.out HT.out)
    have HC5 := Lib.hid hc5
    clear hc5 hw5 HX HW HK2
    have n0 : w5.cell? ⟨w.heap.size, 0, none⟩ = some (.int .i64 0) := HX5.out.cell 0
    have p0 : w5.cell? ⟨g, i, none⟩ = some (.bool false) := (HP5.out.cell i).trans HV.out
    have f0 := HP5.out.frozen i
    go_wp2
    go_end0
    rw [setCell_same HP5.out HV.out]
    exact ⟨rfl, HC5.out, HW5.out⟩

end Go.Proofs.YtefgajipakjpeaaDoor
