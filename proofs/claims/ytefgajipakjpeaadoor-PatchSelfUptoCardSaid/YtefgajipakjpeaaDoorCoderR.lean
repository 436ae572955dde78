/-
  image.coder that reads: contracts of failed, ints, texts and bool. Conditions: what is left is at most 2^46 bytes.
-/
import Derived.Test.YtefgajipakjpeaaDoorImB
namespace Go.Proofs.YtefgajipakjpeaaDoor
open Go.RowKit

/-- A reader that has failed has nothing left. -/
def St.Good (s : St) : Prop := s.bad = true → s.rest = []
theorem dec_nil : dec [] = none := rfl
theorem rU_good (s : St) (h : s.Good) : (rU s).2.Good := by
  intro hb
  unfold rU at hb ⊢
  cases hd : dec s.rest with
  | none => rfl
  | some x =>
    rw [hd] at hb
    have h2 := h hb
    rw [h2, dec_nil] at hd
    cases hd
theorem rInt_good (s : St) (h : s.Good) : (rInt s).2.Good := rU_good s h
theorem rNum_good (s : St) (h : s.Good) : (rNum s).2.Good := by
  unfold rNum
  split
  · exact rU_good s h
  · exact fun _ => rfl
theorem rText_good (s : St) (h : s.Good) : (rText s).2.Good := by
  unfold rText
  split
  · intro hb
    have := rNum_good s h hb
    show List.drop _ _ = []
    rw [this]
    simp
  · exact fun _ => rfl

/-- Two blocks alone turn, and new ones. -/
structure Tw (g xb : Nat) (w w' : World) : Prop where
  os : w'.os = w.os
  tape : w'.tape = w.tape
  output : w'.output = w.output
  size : w.heap.size ≤ w'.heap.size
  block : ∀ i, i < w.heap.size → i ≠ g → i ≠ xb → w'.heap[i]? = w.heap[i]?
section
variable {g xb k : Nat} {a b c w w' : World} {t : TypeId} {cs : Array Value}
theorem Tw.refl (g xb : Nat) (w : World) : Tw g xb w w := ⟨rfl, rfl, rfl, Nat.le_refl _, fun _ _ _ _ => rfl⟩
theorem Tw.trans (h : Tw g xb a b) (k : Tw g xb b c) : Tw g xb a c :=
  ⟨k.os.trans h.os, k.tape.trans h.tape, k.output.trans h.output, Nat.le_trans h.size k.size, fun i hi h1 h2 => (k.block i (Nat.lt_of_lt_of_le hi h.size) h1 h2).trans (h.block i hi h1 h2)⟩
theorem Tw.of_only (h : a.grownBy b (some g)) : Tw g xb a b := ⟨h.os, h.tape, h.output, h.size, fun i hi h1 _ => h.block i hi (fun e => h1 (by injection e))⟩
theorem Tw.of_below (h : Below a.heap.size a b) : Tw g xb a b := ⟨h.os, h.tape, h.output, h.size, fun i hi _ _ => h.block i hi⟩
theorem Tw.drew (h : Tw g xb a w) : Tw g xb a w.drew := h.trans (Tw.of_below (Below.drew (Below.refl _ _)))
theorem Tw.alloc (h : Tw g xb a w) (o : Obj) : Tw g xb a (w.alloc o) := h.trans (Tw.of_below ((Below.refl _ _).alloc (Nat.le_refl _) o))
theorem Tw.setCell (h : Tw g xb a w) {p : Addr} (hp : p.block = xb ∨ a.heap.size ≤ p.block) (v : Value) : Tw g xb a (w.setCell p v) :=
  ⟨h.os, h.tape, h.output, by simpa [World.setCell] using h.size, fun i hi h1 h2 => (Below.heap_setCell w p v i (by rcases hp with hp | hp <;> omega)).trans (h.block i hi h1 h2)⟩
theorem Tw.grown {row : Option Nat} (h : Tw g xb a w) (hg : w.grownBy w' row) (hr : ∀ k, row = some k → a.heap.size ≤ k) : Tw g xb a w' :=
  ⟨hg.os.trans h.os, hg.tape.trans h.tape, hg.output.trans h.output, Nat.le_trans h.size hg.size, fun i hi h1 h2 => (hg.block i (Nat.lt_of_lt_of_le hi h.size) (fun e => by have := hr _ e.symm; omega)).trans (h.block i hi h1 h2)⟩
/-- A new block in the place of xb. -/
theorem Tw.new {xb' : Nat} (h : Tw g xb w w') (hx : a.heap.size ≤ xb) (k : Tw g xb' a w) : Tw g xb' a w' :=
  ⟨h.os.trans k.os, h.tape.trans k.tape, h.output.trans k.output, Nat.le_trans k.size h.size, fun i hi h1 h2 => (h.block i (Nat.lt_of_lt_of_le hi k.size) h1 (by omega)).trans (k.block i hi h1 h2)⟩
theorem Blk.tw (h : Blk w k t cs) (hk : Tw g xb w w') (h1 : k ≠ g) (h2 : k ≠ xb) : Blk w' k t cs := (hk.block k h.lt h1 h2).trans h
theorem Tw.below {B : Nat} (h : Tw g xb w w') (h1 : B ≤ g) (h2 : B ≤ xb) (hB : B ≤ w.heap.size) : Below B w w' :=
  ⟨h.os, h.tape, h.output, h.size, fun i hi => h.block i (by omega) (by omega) (by omega)⟩
end
theorem own_tw {w w' : World} {B s n g xb : Nat} {e t t' : TypeId} {v : Value} {xs : List Value} {cs cs' : Array Value} (h : w.ownsRow B e s v n xs) (hg : Blk w g t cs) (ht : t ≠ e) (hx : Blk w xb t' cs') (ht' : t' ≠ e) (hk : Tw g xb w w') : w'.ownsRow B e s v n xs := by
  have n1 := own_ne h hg ht
  have n2 := own_ne h hx ht'
  refine ⟨h.1, ?_⟩
  rcases h.2 with hn | ⟨gg, cap, cur, rfl, hB, hgg, rest⟩
  · exact .inl hn
  · refine .inr ⟨gg, cap, cur, rfl, hB, ?_, rest⟩
    rw [hk.block gg (Array.getElem?_eq_some_iff.1 hgg).1 (fun e => n1 (by rw [e]; rfl)) (fun e => n2 (by rw [e]; rfl))]
    exact hgg

/-- Block cb is a coder that reads from the reader in block g, in this state. -/
structure CR (cb g : Nat) (st : St) (w : World) : Prop where
  blk : Blk w cb 83 #[.pointer none, .slice none 0 0, .pointer (some ⟨g, 0, none⟩)]
  rd : Rd w g st
section
variable {cb g xb : Nat} {st st' : St} {w w' : World}
theorem CR.in_ (h : CR cb g st w) : w.cell? ⟨cb, 2, none⟩ = some (.pointer (some ⟨g, 0, none⟩)) := h.blk.cell 2
theorem CR.ne (h : CR cb g st w) : cb ≠ g := Blk.ne_ h.blk h.rd (by decide)
theorem CR.keep (h : CR cb g st w) (hb : Below w.heap.size w w') : CR cb g st w' := ⟨h.blk.below hb h.blk.lt, Blk.below h.rd hb h.rd.lt⟩
theorem CR.to_ (h : CR cb g st w) (k : RdTo w w' g st') : CR cb g st' w' := ⟨h.blk.grown k.only (by simpa using h.ne), k.rd⟩
theorem CR.alloc (h : CR cb g st w) (o : Obj) : CR cb g st (w.alloc o) := h.keep ((Below.refl _ _).alloc (Nat.le_refl _) o)
theorem CR.drew (h : CR cb g st w) : CR cb g st w.drew := h.keep (Below.drew (Below.refl _ _))
theorem CR.far (h : CR cb g st w) {p : Addr} (h1 : p.block ≠ cb) (h2 : p.block ≠ g) (v : Value) : CR cb g st (w.setCell p v) := ⟨h.blk.far (fun e => h1 e.symm) v, Blk.far h.rd (fun e => h2 e.symm) v⟩
end

set_option maxHeartbeats 1000000 in
set_option maxRecDepth 100000 in
theorem failed_any (cb g : Nat) (st : St) (w : World) (h : CR cb g st w) (hg : st.Good) :
    Calls Tryd.prog 76 #[.pointer (some ⟨cb, 0, none⟩)] w fun e w' => e = .returned (.bool st.bad) ∧ w = w' := by
  have cin := h.in_
  have HL := Lib.hid (Left_any g st w h.rd)
  have HD := Lib.hid (Done_any g st w h.rd)
  clear h
  obtain ⟨r, bad⟩ := st
  cases bad with
  | true =>
    have hr : r = [] := hg rfl
    subst hr
    clear hg
    go_enter Tryd.func76, Tryd.ntmps76
    go_wp2_with fail
    refine (HL.out).mono ?_
    rintro e w1 ⟨rfl, rfl⟩
    go_wp2_with fail
    refine (HD.out).mono ?_
    rintro e w1 ⟨rfl, rfl⟩
    go_wp2
    go_ret
    exact ⟨rfl, rfl⟩
  | false =>
    clear hg
    cases r with
    | nil =>
      go_enter Tryd.func76, Tryd.ntmps76
      go_wp2_with fail
      refine (HL.out).mono ?_
      rintro e w1 ⟨rfl, rfl⟩
      go_wp2_with fail
      refine (HD.out).mono ?_
      rintro e w1 ⟨rfl, rfl⟩
      go_wp2
      go_ret
      exact ⟨rfl, rfl⟩
    | cons x r =>
      have hm : ((x :: r).length : Int) = (r.length : Int) + 1 := by simp
      have hm2 : ((r.length : Int) + 1 == 0) = false := by simp; omega
      obtain ⟨m, hmm⟩ : ∃ m : Nat, m = (x :: r).length := ⟨_, rfl⟩
      have hm3 : ((m : Int) == 0) = false := by rw [hmm]; simp; omega
      have hm4 : 0 < m := by rw [hmm]; simp
      rw [← hmm] at HL
      clear hm hm2 hmm
      go_enter Tryd.func76, Tryd.ntmps76
      go_wp2_with fail
      refine (HL.out).mono ?_
      rintro e w1 ⟨rfl, rfl⟩
      go_wp2
      go_ret
      exact ⟨rfl, rfl⟩

/-- ints of a coder that reads: cells and state. -/
def rIs : List Nat → Array Value × St → Array Value × St
  | [], s => s
  | o :: l, s => rIs l (s.1.setIfInBounds o (.int .i64 (rInt s.2).1), (rInt s.2).2)
theorem rIs_snoc : ∀ (l : List Nat) (o : Nat) (s : Array Value × St), rIs (l ++ [o]) s = ((rIs l s).1.setIfInBounds o (.int .i64 (rInt (rIs l s).2).1), (rInt (rIs l s).2).2)
  | [], _, _ => rfl
  | x :: l, o, s => rIs_snoc l o _
theorem rIs_size : ∀ (l : List Nat) (s : Array Value × St), (rIs l s).1.size = s.1.size
  | [], _ => rfl
  | x :: l, s => by
    show (rIs l _).1.size = _
    rw [rIs_size l]
    simp
theorem rIs_le : ∀ (l : List Nat) (s : Array Value × St), (rIs l s).2.rest.length ≤ s.2.rest.length
  | [], _ => Nat.le_refl _
  | x :: l, s => Nat.le_trans (rIs_le l _) (rInt_rest_le s.2)
theorem rIs_good : ∀ (l : List Nat) (s : Array Value × St), s.2.Good → (rIs l s).2.Good
  | [], _, h => h
  | x :: l, s, h => rIs_good l _ (rInt_good _ h)

/-- What a function that reads into a struct leaves. -/
def GetPost (cb g xb : Nat) (T : TypeId) (w : World) (R : Array Value × St) (e : Ending) (w' : World) : Prop := e = .returned (.tuple #[]) ∧ CR cb g R.2 w' ∧ Blk w' xb T R.1 ∧ Tw g xb w w'

set_option maxHeartbeats 4000000 in
set_option maxRecDepth 100000 in
/-- ints of a coder that reads. -/
theorem ints_r {cb g xb rg : Nat} {w : World} {T : TypeId} {cs : Array Value} {st : St} (l : List Nat) (h : CR cb g st w) (hx : Blk w xb T cs) (hxc : xb ≠ cb) (hxg : xb ≠ g) (hrow : Blk w rg 105 (l.map fun o => Value.pointer (some ⟨xb, o, none⟩)).toArray) (hrx : rg ≠ xb)
    (hll : l.length ≤ 1000) (ho : ∀ o ∈ l, o < cs.size) (hlen : st.rest.length ≤ 70368744177664) :
    Calls Tryd.prog 51 #[.pointer (some ⟨cb, 0, none⟩), .slice (some ⟨rg, 0, none⟩) l.length l.length] w (GetPost cb g xb T w (rIs l (cs, st))) := by
  have HC := Lib.hid h
  have HX := Lib.hid hx
  have HROW := Lib.hid hrow
  have hrg : rg ≠ g := Blk.ne_ hrow h.rd (by decide)
  have HO := Lib.hid ho
  clear h hx hrow ho
  unfold GetPost
  obtain ⟨RES, hRES⟩ : ∃ R, rIs l (cs, st) = R := ⟨_, rfl⟩
  rw [hRES]
  have HRES : Hid (RES = rIs l (cs, st)) := hRES.symm
  clear hRES
  go_enter Tryd.func51, Tryd.ntmps51
  go_wp2_with fail
  go_loopw [8] (fun vi wr => ∃ i : Nat, vi = .int .i64 i ∧ i ≤ l.length ∧ Hid (CR cb g (rIs (l.take i) (cs, st)).2 wr) ∧ Hid (Blk wr xb T (rIs (l.take i) (cs, st)).1) ∧ Hid (Tw g xb w wr)) (fun vi _ => l.length - (intOf vi).toNat)
  case atStart => exact ⟨0, rfl, Nat.zero_le _, HC, HX, Tw.refl _ _ _⟩
  case round =>
    obtain ⟨i, rfl, hil0, HCR, HXR, HT⟩ := hrel
    by_cases hil : i < l.length
    · have hrc : wr.cell? ⟨rg, i, none⟩ = some (.pointer (some ⟨xb, l[i]'hil, none⟩)) := by
        rw [(HROW.out.tw HT.out hrg hrx).cell i]
        simp [List.getElem?_eq_getElem hil]
      have HSN := Lib.hid (rIs_snoc (l.take i) (l[i]'hil) (cs, st))
      have hle := rIs_le (l.take i) (cs, st)
      have hsz := rIs_size (l.take i) (cs, st)
      have HTK := Lib.hid (List.take_succ_eq_append_getElem hil)
      rw [← HTK.out] at HSN
      have hol := HO.out _ (List.getElem_mem hil)
      generalize rIs (l.take i) (cs, st) = s at HCR HXR HSN hle hsz
      generalize l[i]'hil = o at hrc HSN hol
      obtain ⟨csi, sti⟩ := s
      simp only at HCR HXR HSN hle hsz
      obtain ⟨y, hy⟩ : ∃ y, csi[o]? = some y := ⟨_, Array.getElem?_eq_getElem (by omega)⟩
      have cp : wr.cell? ⟨xb, o, none⟩ = some y := (HXR.out.cell o).trans hy
      have HRI := Lib.hid (rInt_any g sti wr HCR.out.rd (by omega))
      have cin := HCR.out.in_
      have HSZ := Lib.hid hsz
      clear hy hsz HTK hle
      go_wp2_with fail
      refine (HRI.out).mono ?_
      rintro e w5 ⟨rfl, hr5⟩
      have HC5 := Lib.hid (HCR.out.to_ hr5)
      have HX5 := Lib.hid (HXR.out.grown hr5.only (by simpa using hxg))
      have HT5 := Lib.hid (HT.out.trans (Tw.of_only hr5.only))
      clear hr5 cp HRI
      obtain ⟨y, hy⟩ : ∃ y, csi[o]? = some y := ⟨_, Array.getElem?_eq_getElem (by have := HSZ.out; omega)⟩
      have cp : w5.cell? ⟨xb, o, none⟩ = some y := (HX5.out.cell o).trans hy
      have f5 := HX5.out.frozen o
      clear hy
      have HC6 : Hid (CR cb g (rIs (l.take (i + 1)) (cs, st)).2 (w5.setCell ⟨xb, o, none⟩ (.int .i64 (rInt sti).1))) := Lib.hid (by rw [HSN.out]; exact HC5.out.far (p := ⟨xb, o, none⟩) hxc hxg _)
      have HX6 : Hid (Blk (w5.setCell ⟨xb, o, none⟩ (.int .i64 (rInt sti).1)) xb T (rIs (l.take (i + 1)) (cs, st)).1) := Lib.hid (by rw [HSN.out]; exact HX5.out.set_ o _)
      have HT6 := Lib.hid (HT5.out.setCell (p := ⟨xb, o, none⟩) (.inl rfl) (.int .i64 (rInt sti).1))
      go_wp2
      go_roundw
      case rel => exact ⟨i + 1, by go_num, by omega, HC6, HX6, HT6⟩
      case measure => simp [intOf]; omega
    · obtain rfl : i = l.length := by omega
      rw [List.take_length, ← HRES.out] at HCR HXR
      go_wp2
      go_end0
      exact ⟨rfl, HCR.out, HXR.out, HT.out⟩
/- TEXTS -/
/-- texts of a coder that reads: cells and state. -/
def rTs : List Nat → Array Value × St → Array Value × St
  | [], s => s
  | o :: l, s => rTs l (s.1.setIfInBounds o (.string ⟨(rText s.2).1.toArray⟩), (rText s.2).2)
theorem rTs_snoc : ∀ (l : List Nat) (o : Nat) (s : Array Value × St), rTs (l ++ [o]) s = ((rTs l s).1.setIfInBounds o (.string ⟨(rText (rTs l s).2).1.toArray⟩), (rText (rTs l s).2).2)
  | [], _, _ => rfl
  | x :: l, o, s => rTs_snoc l o _
theorem rTs_size : ∀ (l : List Nat) (s : Array Value × St), (rTs l s).1.size = s.1.size
  | [], _ => rfl
  | x :: l, s => by
    show (rTs l _).1.size = _
    rw [rTs_size l]
    simp
theorem rTs_le : ∀ (l : List Nat) (s : Array Value × St), (rTs l s).2.rest.length ≤ s.2.rest.length
  | [], _ => Nat.le_refl _
  | x :: l, s => Nat.le_trans (rTs_le l _) (rText_rest_le s.2)
theorem rTs_good : ∀ (l : List Nat) (s : Array Value × St), s.2.Good → (rTs l s).2.Good
  | [], _, h => h
  | x :: l, s, h => rTs_good l _ (rText_good _ h)

set_option maxHeartbeats 4000000 in
set_option maxRecDepth 100000 in
/-- texts of a coder that reads. -/
theorem texts_r {cb g xb rg : Nat} {w : World} {T : TypeId} {cs : Array Value} {st : St} (l : List Nat) (h : CR cb g st w) (hx : Blk w xb T cs) (hxc : xb ≠ cb) (hxg : xb ≠ g) (hrow : Blk w rg 108 (l.map fun o => Value.pointer (some ⟨xb, o, none⟩)).toArray) (hrx : rg ≠ xb)
    (hll : l.length ≤ 1000) (ho : ∀ o ∈ l, o < cs.size) (hlen : st.rest.length ≤ 70368744177664) :
    Calls Tryd.prog 53 #[.pointer (some ⟨cb, 0, none⟩), .slice (some ⟨rg, 0, none⟩) l.length l.length] w (GetPost cb g xb T w (rTs l (cs, st))) := by
  have HC := Lib.hid h
  have HX := Lib.hid hx
  have HROW := Lib.hid hrow
  have hrg : rg ≠ g := Blk.ne_ hrow h.rd (by decide)
  have HO := Lib.hid ho
  clear h hx hrow ho
  unfold GetPost
  obtain ⟨RES, hRES⟩ : ∃ R, rTs l (cs, st) = R := ⟨_, rfl⟩
  rw [hRES]
  have HRES : Hid (RES = rTs l (cs, st)) := hRES.symm
  clear hRES
  go_enter Tryd.func53, Tryd.ntmps53
  go_wp2_with fail
  go_loopw [8] (fun vi wr => ∃ i : Nat, vi = .int .i64 i ∧ i ≤ l.length ∧ Hid (CR cb g (rTs (l.take i) (cs, st)).2 wr) ∧ Hid (Blk wr xb T (rTs (l.take i) (cs, st)).1) ∧ Hid (Tw g xb w wr)) (fun vi _ => l.length - (intOf vi).toNat)
  case atStart => exact ⟨0, rfl, Nat.zero_le _, HC, HX, Tw.refl _ _ _⟩
  case round =>
    obtain ⟨i, rfl, hil0, HCR, HXR, HT⟩ := hrel
    by_cases hil : i < l.length
    · have hrc : wr.cell? ⟨rg, i, none⟩ = some (.pointer (some ⟨xb, l[i]'hil, none⟩)) := by
        rw [(HROW.out.tw HT.out hrg hrx).cell i]
        simp [List.getElem?_eq_getElem hil]
      have HSN := Lib.hid (rTs_snoc (l.take i) (l[i]'hil) (cs, st))
      have hle := rTs_le (l.take i) (cs, st)
      have hsz := rTs_size (l.take i) (cs, st)
      have HTK := Lib.hid (List.take_succ_eq_append_getElem hil)
      rw [← HTK.out] at HSN
      have hol := HO.out _ (List.getElem_mem hil)
      generalize rTs (l.take i) (cs, st) = s at HCR HXR HSN hle hsz
      generalize l[i]'hil = o at hrc HSN hol
      obtain ⟨csi, sti⟩ := s
      simp only at HCR HXR HSN hle hsz
      obtain ⟨y, hy⟩ : ∃ y, csi[o]? = some y := ⟨_, Array.getElem?_eq_getElem (by omega)⟩
      have cp : wr.cell? ⟨xb, o, none⟩ = some y := (HXR.out.cell o).trans hy
      have HRI := Lib.hid (rText_any g sti wr HCR.out.rd (by omega))
      unfold str at HRI
      have cin := HCR.out.in_
      have HSZ := Lib.hid hsz
      clear hy hsz HTK hle
      go_wp2_with fail
      refine (HRI.out).mono ?_
      rintro e w5 ⟨rfl, hr5⟩
      have HC5 := Lib.hid (HCR.out.to_ hr5)
      have HX5 := Lib.hid (HXR.out.grown hr5.only (by simpa using hxg))
      have HT5 := Lib.hid (HT.out.trans (Tw.of_only hr5.only))
      clear hr5 cp HRI
      obtain ⟨y, hy⟩ : ∃ y, csi[o]? = some y := ⟨_, Array.getElem?_eq_getElem (by have := HSZ.out; omega)⟩
      have cp : w5.cell? ⟨xb, o, none⟩ = some y := (HX5.out.cell o).trans hy
      have f5 := HX5.out.frozen o
      clear hy
      have HC6 : Hid (CR cb g (rTs (l.take (i + 1)) (cs, st)).2 (w5.setCell ⟨xb, o, none⟩ (.string ⟨(rText sti).1.toArray⟩))) := Lib.hid (by rw [HSN.out]; exact HC5.out.far (p := ⟨xb, o, none⟩) hxc hxg _)
      have HX6 : Hid (Blk (w5.setCell ⟨xb, o, none⟩ (.string ⟨(rText sti).1.toArray⟩)) xb T (rTs (l.take (i + 1)) (cs, st)).1) := Lib.hid (by rw [HSN.out]; exact HX5.out.set_ o _)
      have HT6 := Lib.hid (HT5.out.setCell (p := ⟨xb, o, none⟩) (.inl rfl) (.string ⟨(rText sti).1.toArray⟩))
      go_wp2
      go_roundw
      case rel => exact ⟨i + 1, by go_num, by omega, HC6, HX6, HT6⟩
      case measure => simp [intOf]; omega
    · obtain rfl : i = l.length := by omega
      rw [List.take_length, ← HRES.out] at HCR HXR
      go_wp2
      go_end0
      exact ⟨rfl, HCR.out, HXR.out, HT.out⟩

theorem ints_rn {cb g xb : Nat} {w : World} {T : TypeId} {cs : Array Value} {st : St} (l : List Nat) (h : CR cb g st w) (hx : Blk w xb T cs) (hxc : xb ≠ cb) (hxg : xb ≠ g) (hll : l.length ≤ 1000) (ho : ∀ o ∈ l, o < cs.size) (hlen : st.rest.length ≤ 70368744177664) :
    Calls Tryd.prog 51 #[.pointer (some ⟨cb, 0, none⟩), .slice (some ⟨w.heap.size, 0, none⟩) l.length l.length] (w.alloc (.cells (l.map fun o => Value.pointer (some ⟨xb, o, none⟩)).toArray 105)) (GetPost cb g xb T w (rIs l (cs, st))) := by
  refine (ints_r (rg := w.heap.size) l (h.alloc _) (hx.alloc _) hxc hxg (Blk.new w _ _) (by have := hx.lt; omega) hll ho hlen).mono ?_
  rintro e w' ⟨rfl, h1, h2, h3⟩
  exact ⟨rfl, h1, h2, ((Tw.refl g xb w).alloc _).trans h3⟩

theorem texts_rn {cb g xb : Nat} {w : World} {T : TypeId} {cs : Array Value} {st : St} (l : List Nat) (h : CR cb g st w) (hx : Blk w xb T cs) (hxc : xb ≠ cb) (hxg : xb ≠ g) (hll : l.length ≤ 1000) (ho : ∀ o ∈ l, o < cs.size) (hlen : st.rest.length ≤ 70368744177664) :
    Calls Tryd.prog 53 #[.pointer (some ⟨cb, 0, none⟩), .slice (some ⟨w.heap.size, 0, none⟩) l.length l.length] (w.alloc (.cells (l.map fun o => Value.pointer (some ⟨xb, o, none⟩)).toArray 108)) (GetPost cb g xb T w (rTs l (cs, st))) := by
  refine (texts_r (rg := w.heap.size) l (h.alloc _) (hx.alloc _) hxc hxg (Blk.new w _ _) (by have := hx.lt; omega) hll ho hlen).mono ?_
  rintro e w' ⟨rfl, h1, h2, h3⟩
  exact ⟨rfl, h1, h2, ((Tw.refl g xb w).alloc _).trans h3⟩

set_option maxHeartbeats 2000000 in
set_option maxRecDepth 100000 in
/-- bool of a coder that reads into a cell that holds false. -/
theorem bool_r {cb g xb i : Nat} {w : World} {T : TypeId} {cs : Array Value} {st : St} (h : CR cb g st w) (hx : Blk w xb T cs) (hxc : xb ≠ cb) (hxg : xb ≠ g) (hv : cs[i]? = some (.bool false)) (hlen : st.rest.length ≤ 70368744177664) :
    Calls Tryd.prog 54 #[.pointer (some ⟨cb, 0, none⟩), .pointer (some ⟨xb, i, none⟩)] w (GetPost cb g xb T w (cs.setIfInBounds i (.bool ((rInt st).1 != 0)), (rInt st).2)) := by
  have c0 : w.cell? ⟨xb, i, none⟩ = some (.bool false) := (hx.cell i).trans hv
  have HV := Lib.hid hv
  have hxl := hx.lt
  have hcl := h.blk.lt
  have hgl := h.rd.lt
  have HX := Lib.hid hx
  have h1 := ints_rn (cb := cb) (g := g) (xb := w.heap.size) (w := w.alloc (.cells #[.int .i64 0] 3)) (T := 3) (cs := #[.int .i64 0]) (st := st) [0] (h.alloc _) (Blk.new w 3 _) (by omega) (by omega) (by simp) (by simp) hlen
  have hri : rIs [0] (#[.int .i64 0], st) = (#[.int .i64 (rInt st).1], (rInt st).2) := by simp [rIs]
  rw [hri] at h1
  have hsz : (w.alloc (.cells #[.int .i64 0] 3)).heap.size = w.heap.size + 1 := by simp
  rw [hsz] at h1
  simp only [List.map_cons, List.map_nil, List.length_cons, List.length_nil, Nat.zero_add] at h1
  have HI := Lib.hid h1
  clear h1 hri hsz hv hx h
  unfold GetPost at HI ⊢
  generalize rInt st = z at HI ⊢
  obtain ⟨n, st1⟩ := z
  simp only at HI ⊢
  go_enter Tryd.func54, Tryd.ntmps54
  go_wp2_with fail
  refine (HI.out).mono ?_
  rintro r w5 ⟨rfl, hc5, hn5, ht5⟩
  have HC5 := Lib.hid hc5
  have HT5 : Hid (Tw g xb w w5) := Lib.hid (ht5.new (xb' := xb) (Nat.le_refl _) ((Tw.refl g xb w).alloc _))
  have HX5 := Lib.hid ((HX.out.alloc (.cells #[.int .i64 0] 3)).tw ht5 hxg (by omega))
  have n0 : w5.cell? ⟨w.heap.size, 0, none⟩ = some (.int .i64 n) := hn5.cell 0
  have p0 : w5.cell? ⟨xb, i, none⟩ = some (.bool false) := (HX5.out.cell i).trans HV.out
  have f0 := HX5.out.frozen i
  have HC6 : Hid (CR cb g st1 (w5.setCell ⟨xb, i, none⟩ (.bool (n != 0)))) := HC5.out.far (p := ⟨xb, i, none⟩) hxc hxg _
  have HX6 : Hid (Blk (w5.setCell ⟨xb, i, none⟩ (.bool (n != 0))) xb T (cs.setIfInBounds i (.bool (n != 0)))) := HX5.out.set_ i _
  have HT6 : Hid (Tw g xb w (w5.setCell ⟨xb, i, none⟩ (.bool (n != 0)))) := HT5.out.setCell (p := ⟨xb, i, none⟩) (.inl rfl) _
  clear hc5 hn5 ht5 HI
  go_wp2
  go_end0
  exact ⟨rfl, HC6.out, HX6.out, HT6.out⟩

end Go.Proofs.YtefgajipakjpeaaDoor
