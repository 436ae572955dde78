/-
  Words for memory that reads as a list; edits and patches in memory; contracts of patch.copied, length and rightEdit. Conditions: none beyond the hypotheses.
-/
import Derived.Test.YtefgajipakjpeaaDoorSum
import Derived.Deep.AppendLies
namespace Go.Proofs.YtefgajipakjpeaaDoor
open Go.RowKit

theorem block_of_add (a : Addr) (n : Nat) : (a.add n).block = a.block := by unfold Addr.add; split <;> rfl
theorem add_of_add (a : Addr) (i j : Nat) : (a.add i).add j = a.add (i + j) := by
  unfold Addr.add
  by_cases hi : i = 0 <;> by_cases hj : j = 0 <;> simp [hi, hj, Nat.add_assoc]

def Reads (w : World) (B size : Nat) (A : Option Addr) (n : Nat) (xs : List Value) : Prop :=
  xs.length = n * size ∧ (0 < n → ∃ ad, A = some ad ∧ ad.block < B ∧ ∀ j u, xs[j]? = some u → w.cell? (ad.add j) = some u)

section
variable {w w' : World} {B B' size n : Nat} {A : Option Addr} {xs : List Value}
theorem Reads.none_ : Reads w B size A 0 [] := ⟨by simp, fun h => absurd h (by omega)⟩
theorem Reads.at_ {k : Nat} (h : Reads w B 1 A n xs) (hk : k < n) : ∃ ad u, A = some ad ∧ ad.block < B ∧ xs[k]? = some u ∧ w.cell? (ad.add k) = some u := by
  obtain ⟨ad, e, hb, hc⟩ := h.2 (by omega)
  have hl : k < xs.length := by have := h.1; omega
  exact ⟨ad, xs[k], e, hb, List.getElem?_eq_getElem hl, hc k _ (List.getElem?_eq_getElem hl)⟩
theorem Reads.keep (h : Reads w B size A n xs) (hk : ∀ p : Addr, p.block < B → w'.cell? p = w.cell? p) : Reads w' B size A n xs :=
  ⟨h.1, fun hn => by
    obtain ⟨ad, e, hb, hc⟩ := h.2 hn
    exact ⟨ad, e, hb, fun j u hu => (hk _ (by rw [block_of_add]; exact hb)).trans (hc j u hu)⟩⟩
theorem Reads.more (h : Reads w B size A n xs) (hB : B ≤ B') : Reads w B' size A n xs :=
  ⟨h.1, fun hn => by
    obtain ⟨ad, e, hb, hc⟩ := h.2 hn
    exact ⟨ad, e, by omega, hc⟩⟩
theorem Reads.below (h : Reads w B size A n xs) (hb : Below B w w') : Reads w' B size A n xs := h.keep fun _ hp => hb.cell hp
theorem Reads.drew (h : Reads w B size A n xs) : Reads w.drew B size A n xs := h
theorem Reads.drewN (h : Reads w B size A n xs) (k : Nat) : Reads (w.drewN k) B size A n xs := h
theorem Reads.alloc (h : Reads w B size A n xs) (hB : B ≤ w.heap.size) (o : Obj) : Reads (w.alloc o) B size A n xs := h.keep fun p hp => World.cell?_alloc_lt w o p (by omega)
theorem Reads.setCell (h : Reads w B size A n xs) {p : Addr} (hB : B ≤ p.block) (u : Value) : Reads (w.setCell p u) B size A n xs :=
  h.keep fun q hq => World.cell?_setCell_other w p q u (fun e => by subst e; omega)
theorem Reads.grown (h : Reads w B size A n xs) {row : Option Nat} (hg : w.grownBy w' row) (hB : B ≤ w.heap.size) (hr : ∀ g, row = some g → B ≤ g) : Reads w' B size A n xs :=
  h.keep fun p hp => World.cell?_of_block (hg.block p.block (by omega) (fun e => by have := hr _ e.symm; omega))
theorem Reads.of_own {base : Nat} {e : TypeId} {c : Nat} (h : w.ownsRow base e size (.slice A n c) n xs) : Reads w w.heap.size size A n xs := by
  refine ⟨h.1, fun hn => ?_⟩
  obtain ⟨g, cap, hv, _, hlt⟩ := h.form hn
  have hA : A = some ⟨g, 0, none⟩ := by injection hv
  subst hA
  exact ⟨_, rfl, hlt, h.cells (g := g) rfl⟩
end

theorem Reads.lit {w : World} {B size n : Nat} {A : Option Addr} {xs : List Value} (h : Reads w B size A n xs) (hn : 0 < n) (hs : 0 < size) :
    ∃ b off, A = some ⟨b, off, none⟩ ∧ b < B ∧ ∀ j u, xs[j]? = some u → w.cell? ⟨b, off + j, none⟩ = some u := by
  obtain ⟨⟨b, off, spot⟩, rfl, hb, hc⟩ := h.2 hn
  have hl : 0 < xs.length := by rw [h.1]; exact Nat.mul_pos hn hs
  have h0 := hc 0 _ (List.getElem?_eq_getElem hl)
  have hspot : spot = none := by simpa [Addr.add] using World.cell?_spot h0
  subst hspot
  refine ⟨b, off, rfl, hb, fun j u hu => ?_⟩
  have := hc j u hu
  have e : (⟨b, off, none⟩ : Addr).add j = ⟨b, off + j, none⟩ := by unfold Addr.add; split <;> simp_all
  rw [← e]
  exact this

theorem wf_I64 {n : Int} (h : (Lit.int .i64 n).wf = true) : I64 n := by
  simp [Lit.wf, IntKind.min, IntKind.max, IntKind.bits, IntKind.signed] at h
  exact h

theorem cell_lt {w : World} {p : Addr} {v : Value} (h : w.cell? p = some v) : p.block < w.heap.size := by
  rcases Nat.lt_or_ge p.block w.heap.size with h1 | h1
  · exact h1
  · simp [World.cell?, Array.getElem?_eq_none h1] at h


theorem flat_length {α : Type} (f : α → List Value) (k : Nat) (hk : ∀ a, (f a).length = k) : ∀ (l : List α), (l.flatMap f).length = l.length * k
  | [] => by simp
  | a :: l => by rw [List.flatMap_cons, List.length_append, hk, flat_length f k hk l, List.length_cons, Nat.succ_mul]; omega
theorem flat_at {α : Type} (f : α → List Value) (k : Nat) (hk : ∀ a, (f a).length = k) : ∀ (l : List α) (i j : Nat) (hi : i < l.length), j < k → (l.flatMap f)[i * k + j]? = (f (l[i]'hi))[j]?
  | [], i, j, hi, _ => by simp at hi
  | a :: l, 0, j, _, hj => by
    rw [List.flatMap_cons, Nat.zero_mul, Nat.zero_add, List.getElem?_append_left (by rw [hk]; exact hj)]
    rfl
  | a :: l, i + 1, j, hi, hj => by
    rw [List.flatMap_cons, List.getElem?_append_right (by rw [hk, Nat.succ_mul]; omega), hk, show (i + 1) * k + j - k = i * k + j by rw [Nat.succ_mul]; omega, flat_at f k hk l i j (by simpa using hi) hj]
    rfl


structure EditD where
  from_ : Int
  size : Int
  text : List UInt8
def EditD.parts (e : EditD) : List Value := [.int .i64 e.from_, .int .i64 e.size, .string ⟨e.text.toArray⟩]
theorem EditD.parts_length (e : EditD) : e.parts.length = 3 := rfl
structure EditD.Ok (e : EditD) : Prop where
  from_ : I64 e.from_
  size : I64 e.size
  text : e.text.length ≤ maxLen

structure PatchD where
  from_ : List UInt8
  to_ : List UInt8
  A : Option Addr
  c : Nat
  edits : List EditD
def PatchD.parts (p : PatchD) : List Value := [.string ⟨p.from_.toArray⟩, .string ⟨p.to_.toArray⟩, .slice p.A p.edits.length p.c]
theorem PatchD.parts_length (p : PatchD) : p.parts.length = 3 := rfl
structure PatchD.Ok (w : World) (B : Nat) (p : PatchD) : Prop where
  from_ : p.from_.length ≤ maxLen
  to_ : p.to_.length ≤ maxLen
  len : p.edits.length ≤ 9223372036854775807
  cells : Reads w B 3 p.A p.edits.length (p.edits.flatMap EditD.parts)
  edits : ∀ e ∈ p.edits, e.Ok
theorem PatchD.Ok.below {w w' : World} {B : Nat} {p : PatchD} (h : p.Ok w B) (hb : Below B w w') : p.Ok w' B := ⟨h.from_, h.to_, h.len, h.cells.below hb, h.edits⟩
theorem PatchD.Ok.more {w : World} {B B' : Nat} {p : PatchD} (h : p.Ok w B) (hb : B ≤ B') : p.Ok w B' := ⟨h.from_, h.to_, h.len, h.cells.more hb, h.edits⟩

theorem Blk.newAt {w : World} {k : Nat} {t : TypeId} {cs : Array Value} (h : w.heap.size = k) : Blk (w.alloc (.cells cs t)) k t cs := by
  subst h
  exact Blk.new _ _ _
theorem Reads.of_blk {w : World} {g : Nat} {t : TypeId} {cs : List Value} {n size : Nat} (h : Blk w g t cs.toArray) (hl : cs.length = n * size) : Reads w w.heap.size size (some ⟨g, 0, none⟩) n cs :=
  ⟨hl, fun _ => ⟨_, rfl, h.lt, fun j u hu => by
    have e : (⟨g, 0, none⟩ : Addr).add j = ⟨g, j, none⟩ := by unfold Addr.add; split <;> simp_all
    rw [e, h.cell j]
    simpa using hu⟩⟩

/-- The cells of one edit. -/
theorem cells_of_edit {w : World} {B : Nat} {A : Option Addr} {xs : List EditD} (h : Reads w B 3 A xs.length (xs.flatMap EditD.parts)) {i : Nat} (hi : i < xs.length) :
    ∃ b off, A = some ⟨b, off, none⟩ ∧ b < B ∧ w.cell? ⟨b, off + i * 3, none⟩ = some (.int .i64 (xs[i]'hi).from_) ∧ w.cell? ⟨b, off + i * 3 + 1, none⟩ = some (.int .i64 (xs[i]'hi).size) ∧ w.cell? ⟨b, off + i * 3 + 2, none⟩ = some (.string ⟨(xs[i]'hi).text.toArray⟩) := by
  obtain ⟨b, off, hA, hb, hc⟩ := h.lit (by omega) (by decide)
  have hcc : ∀ (j : Nat) (x : Value), j < 3 → (xs[i]'hi).parts[j]? = some x → w.cell? ⟨b, off + i * 3 + j, none⟩ = some x := fun j x hj hx => by
    rw [Nat.add_assoc]
    exact hc (i * 3 + j) x ((flat_at _ 3 EditD.parts_length xs i j hi hj).trans hx)
  exact ⟨b, off, hA, hb, hcc 0 _ (by decide) rfl, hcc 1 _ (by decide) rfl, hcc 2 _ (by decide) rfl⟩

/-! ### copied, length, rightEdit -/
def copiedB (e : EditD) : Bool := e.text.isEmpty
def lenI (e : EditD) : Int := max e.size (e.text.length : Int)
def rightEB (e : EditD) : Bool :=
  if e.text.isEmpty then decide (0 ≤ e.from_) && decide (1 ≤ e.size) && decide (e.size ≤ 16777216) && decide (e.from_ ≤ 16777216 - e.size)
  else decide (e.from_ = 0) && decide (e.size = 0) && decide (e.text.length ≤ 65536)

set_option maxHeartbeats 1000000 in
set_option maxRecDepth 100000 in
theorem copied_any (e : EditD) (w : World) : Calls Tryd.prog 36 #[.agg e.parts.toArray] w fun r w' => r = .returned (.bool (copiedB e)) ∧ Below w.heap.size w w' := by
  have HB := Lib.hid ((Below.refl w.heap.size w).alloc (Nat.le_refl _) (.cells e.parts.toArray 56))
  obtain ⟨f, s, t⟩ := e
  unfold copiedB
  simp only [EditD.parts] at HB ⊢
  cases t with
  | nil =>
    go_enter Tryd.func36, Tryd.ntmps36
    go_wp2
    go_ret
    exact ⟨rfl, HB.out⟩
  | cons x t =>
    go_enter Tryd.func36, Tryd.ntmps36
    go_wp2
    go_ret
    exact ⟨rfl, HB.out⟩

set_option maxHeartbeats 1000000 in
set_option maxRecDepth 100000 in
theorem length_any (e : EditD) (w : World) : Calls Tryd.prog 41 #[.agg e.parts.toArray] w fun r w' => r = .returned (.int .i64 (lenI e)) ∧ Below w.heap.size w w' := by
  have HB := Lib.hid ((Below.refl w.heap.size w).alloc (Nat.le_refl _) (.cells e.parts.toArray 56))
  obtain ⟨f, s, t⟩ := e
  unfold lenI
  simp only [EditD.parts] at HB ⊢
  by_cases h : s ≤ (t.length : Int)
  · rw [Int.max_eq_right h]
    go_enter Tryd.func41, Tryd.ntmps41
    go_wp2
    all_goals
      go_ret
      exact ⟨by first | rfl | (show Ending.returned (.int .i64 s) = _; congr 2; omega), HB.out⟩
  · rw [Int.max_eq_left (by omega)]
    go_enter Tryd.func41, Tryd.ntmps41
    go_wp2
    all_goals
      go_ret
      exact ⟨by first | rfl | (show Ending.returned (.int .i64 (t.length : Int)) = _; congr 2; omega), HB.out⟩

set_option maxHeartbeats 2000000 in
set_option maxRecDepth 100000 in
theorem rightEdit_any (e : EditD) (w : World) : Calls Tryd.prog 40 #[.agg e.parts.toArray] w fun r w' => r = .returned (.bool (rightEB e)) ∧ Below w.heap.size w w' := by
  have HC := Lib.hid (copied_any e)
  have HB := Lib.hid ((Below.refl w.heap.size w).alloc (Nat.le_refl _) (.cells e.parts.toArray 56))
  have HX := Lib.hid (Blk.new w 56 e.parts.toArray)
  have hcp : copiedB e = e.text.isEmpty := rfl
  have HR : Hid (rightEB e = if e.text.isEmpty then decide (0 ≤ e.from_) && decide (1 ≤ e.size) && decide (e.size ≤ 16777216) && decide (e.from_ ≤ 16777216 - e.size) else decide (e.from_ = 0) && decide (e.size = 0) && decide (e.text.length ≤ 65536)) := rfl
  rw [hcp] at HC
  clear hcp
  generalize rightEB e = RB at HR
  cases hem : e.text.isEmpty with
  | true =>
    rw [hem] at HC HR
    clear hem
    rw [if_pos rfl] at HR
    obtain ⟨f, s, t⟩ := e
    simp only [EditD.parts] at HB HX HC HR ⊢
    go_enter Tryd.func40, Tryd.ntmps40
    go_wp2_with fail
    refine (HC.out _).mono ?_
    rintro r w1 ⟨rfl, hb1⟩
    have HX1 := Lib.hid (HX.out.below hb1 HX.out.lt)
    have HB1 := Lib.hid (HB.out.trans (hb1.mono (by simp)))
    clear hb1 HB HX HC
    have c0 : w1.cell? ⟨w.heap.size, 0, none⟩ = some (.int .i64 f) := HX1.out.cell 0
    have c1 : w1.cell? ⟨w.heap.size, 1, none⟩ = some (.int .i64 s) := HX1.out.cell 1
    by_cases h0 : 0 ≤ f
    · by_cases h1 : 1 ≤ s
      · by_cases h2 : s ≤ 16777216
        · by_cases h3 : f ≤ 16777216 - s
          · have HV : Hid (RB = true) := Lib.hid (by rw [HR.out]; simp; omega)
            go_wp2
            go_ret
            exact ⟨by rw [HV.out]; rfl, HB1.out⟩
          · have HV : Hid (RB = false) := Lib.hid (by rw [HR.out]; simp; omega)
            have hd : decide (f ≤ 16777216 - s) = false := decide_eq_false h3
            clear h3
            go_wp2
            go_ret
            exact ⟨by rw [HV.out]; rfl, HB1.out⟩
        · have HV : Hid (RB = false) := Lib.hid (by rw [HR.out]; simp; omega)
          have hd : decide (s ≤ 16777216) = false := decide_eq_false h2
          clear h2
          go_wp2
          go_ret
          exact ⟨by rw [HV.out]; rfl, HB1.out⟩
      · have HV : Hid (RB = false) := Lib.hid (by rw [HR.out]; simp; omega)
        have hd : decide (1 ≤ s) = false := decide_eq_false h1
        clear h1
        go_wp2
        go_ret
        exact ⟨by rw [HV.out]; rfl, HB1.out⟩
    · have HV : Hid (RB = false) := Lib.hid (by rw [HR.out]; simp; omega)
      have hd : decide (0 ≤ f) = false := decide_eq_false h0
      clear h0
      go_wp2
      go_ret
      exact ⟨by rw [HV.out]; rfl, HB1.out⟩
  | false =>
    rw [hem] at HC HR
    clear hem
    rw [if_neg (by decide)] at HR
    obtain ⟨f, s, t⟩ := e
    simp only [EditD.parts] at HB HX HC HR ⊢
    go_enter Tryd.func40, Tryd.ntmps40
    go_wp2_with fail
    refine (HC.out _).mono ?_
    rintro r w1 ⟨rfl, hb1⟩
    have HX1 := Lib.hid (HX.out.below hb1 HX.out.lt)
    have HB1 := Lib.hid (HB.out.trans (hb1.mono (by simp)))
    clear hb1 HB HX HC
    have c0 : w1.cell? ⟨w.heap.size, 0, none⟩ = some (.int .i64 f) := HX1.out.cell 0
    have c1 : w1.cell? ⟨w.heap.size, 1, none⟩ = some (.int .i64 s) := HX1.out.cell 1
    have c2 : w1.cell? ⟨w.heap.size, 2, none⟩ = some (.string ⟨t.toArray⟩) := HX1.out.cell 2
    by_cases h0 : f = 0
    · by_cases h1 : s = 0
      · subst h0 h1
        have HV : Hid (RB = decide ((t.length : Int) ≤ 65536)) := Lib.hid (by rw [HR.out]; simp; omega)
        go_wp2
        go_ret
        exact ⟨by rw [HV.out]; rfl, HB1.out⟩
      · subst h0
        have HV : Hid (RB = false) := Lib.hid (by rw [HR.out]; simp [h1])
        have hd : (s == 0) = false := by simpa using h1
        clear h1
        go_wp2
        go_ret
        exact ⟨by rw [HV.out]; rfl, HB1.out⟩
    · have HV : Hid (RB = false) := Lib.hid (by rw [HR.out]; simp [h0])
      have hd : (f == 0) = false := by simpa using h0
      clear h0
      go_wp2
      go_ret
      exact ⟨by rw [HV.out]; rfl, HB1.out⟩

end Go.Proofs.YtefgajipakjpeaaDoor
