/-
  Words for memory that reads as a list, and the statements' argument types in memory: units, nodes, refs, imports, layouts. What no function of the chapter reads stays an open value.
-/
import Derived.Test.YtdmomdaeiaeolaaRows
import Derived.Test.YtdmomdaeiaeolaaChecked
import Derived.WalkKit
import Derived.WalkSpells
import Derived.WalkLawsBesides
import Derived.Laws.Externs
import Derived.Lib.OthersKept
import Derived.Lib.Hide
import Derived.Outline
import Derived.RegionTactic
import Derived.Deep.QuietTactic
import Derived.BigQuiet
import Derived.Laws.OwnMore
import Derived.Deep.AppendLies
import Derived.Deep.Draws
import Derived.Deep.RegionHeld3
import Derived.ProofKit
import Derived.OpenShut
import Derived.ShutString
import Derived.ChangeOld
import Derived.Lib.SmallJoins
import Derived.Lib.Strings
import Derived.Deep.Slices
import Derived.Deep.Fields
import Derived.ChangeSame
import Derived.SliceStrings
namespace Go.Proofs.Ytdmomdaeiaeolaa
open Go.RowKit

/-- An int of Go. -/
def I64 (n : Int) : Prop := -9223372036854775808 ≤ n ∧ n ≤ 9223372036854775807

/-! ### Blocks that are known whole -/
def Blk (w : World) (g : Nat) (t : TypeId) (cs : Array Value) : Prop := w.heap[g]? = some (.cells cs t (0, 0))

section
variable {w w' : World} {g : Nat} {t : TypeId} {cs : Array Value}
theorem Blk.lt (h : Blk w g t cs) : g < w.heap.size := by
  rcases Nat.lt_or_ge g w.heap.size with hlt | hge
  · exact hlt
  · unfold Blk at h; rw [Array.getElem?_eq_none hge] at h; cases h
theorem Blk.cell (h : Blk w g t cs) (i : Nat) : w.cell? ⟨g, i, none⟩ = cs[i]? := cell_of_row w g i cs t (0, 0) h
theorem Blk.frozen (h : Blk w g t cs) (i : Nat) : w.frozen? ⟨g, i, none⟩ = false := by
  unfold Blk at h
  simp [World.frozen?, h]
theorem Blk.new (w : World) (t : TypeId) (cs : Array Value) : Blk (w.alloc (.cells cs t)) w.heap.size t cs := heap_alloc_new w _
theorem Blk.drew (h : Blk w g t cs) : Blk w.drew g t cs := h
theorem Blk.alloc (h : Blk w g t cs) (o : Obj) : Blk (w.alloc o) g t cs := (Below.heap_alloc w o g h.lt).trans h
theorem Blk.set_ (h : Blk w g t cs) (i : Nat) (u : Value) : Blk (w.setCell ⟨g, i, none⟩ u) g t (cs.setIfInBounds i u) := by
  unfold Blk at h ⊢
  simp [World.setCell, Array.getElem?_modify, h]
theorem Blk.far (h : Blk w g t cs) {p : Addr} (hp : g ≠ p.block) (u : Value) : Blk (w.setCell p u) g t cs := (Below.heap_setCell w p u g hp).trans h
theorem Blk.below {B : Nat} (h : Blk w g t cs) (hb : Below B w w') (hg : g < B) : Blk w' g t cs := (hb.block g hg).trans h
theorem Blk.grown {row : Option Nat} (h : Blk w g t cs) (hb : w.grownBy w' row) (hg : some g ≠ row) : Blk w' g t cs := (hb.block g h.lt hg).trans h
theorem Blk.others {e : TypeId} {b : Option Nat} (h : Blk w g t cs) (hb : Lib.OthersKept e b w w') (hg : some g ≠ b) (hne : t ≠ e) : Blk w' g t cs :=
  hb g _ h hg (fun c fz he => by injection he with _ h2 _; exact hne h2)
theorem Blk.shape (h : Blk w g t cs) : w.shape? g = some (t, cs.size) := by
  unfold Blk at h
  simp [World.shape?, h]
theorem Blk.ne_ {g' : Nat} {t' : TypeId} {cs' : Array Value} (h : Blk w g t cs) (h' : Blk w g' t' cs') (hne : t ≠ t') : g ≠ g' := by
  rintro rfl
  unfold Blk at h h'
  rw [h] at h'
  injection h' with h'
  injection h' with _ ht
  exact hne ht
end

theorem block_of_add (a : Addr) (n : Nat) : (a.add n).block = a.block := by unfold Addr.add; split <;> rfl
theorem add_of_add (a : Addr) (i j : Nat) : (a.add i).add j = a.add (i + j) := by
  unfold Addr.add
  by_cases hi : i = 0 <;> by_cases hj : j = 0 <;> simp [hi, hj, Nat.add_assoc]

def Reads (w : World) (B size : Nat) (A : Option Addr) (n : Nat) (xs : List Value) : Prop :=
  xs.length = n * size ∧ (0 < n → ∃ ad, A = some ad ∧ ad.block < B ∧ ∀ j u, xs[j]? = some u → w.cell? (ad.add j) = some u)

section
variable {w w' : World} {B B' size n : Nat} {A : Option Addr} {xs : List Value}
theorem Reads.none_ : Reads w B size A 0 [] := ⟨by simp, fun h => absurd h (by omega)⟩
theorem Reads.at_ {k : Nat} (h : Reads w B 1 A n xs) (hk : k < n) : ∃ ad u, A = some ad ∧ ad.block < B ∧ xs[k]? = some u ∧ w.cell? (ad.add k) = some u := by
  obtain ⟨ad, e, hb, hc⟩ := h.2 (by omega)
  have hl : k < xs.length := by have := h.1; omega
  exact ⟨ad, xs[k], e, hb, List.getElem?_eq_getElem hl, hc k _ (List.getElem?_eq_getElem hl)⟩
theorem Reads.keep (h : Reads w B size A n xs) (hk : ∀ p : Addr, p.block < B → w'.cell? p = w.cell? p) : Reads w' B size A n xs :=
  ⟨h.1, fun hn => by
    obtain ⟨ad, e, hb, hc⟩ := h.2 hn
    exact ⟨ad, e, hb, fun j u hu => (hk _ (by rw [block_of_add]; exact hb)).trans (hc j u hu)⟩⟩
theorem Reads.more (h : Reads w B size A n xs) (hB : B ≤ B') : Reads w B' size A n xs :=
  ⟨h.1, fun hn => by
    obtain ⟨ad, e, hb, hc⟩ := h.2 hn
    exact ⟨ad, e, by omega, hc⟩⟩
theorem Reads.below (h : Reads w B size A n xs) (hb : Below B w w') : Reads w' B size A n xs := h.keep fun _ hp => hb.cell hp
theorem Reads.drew (h : Reads w B size A n xs) : Reads w.drew B size A n xs := h
theorem Reads.drewN (h : Reads w B size A n xs) (k : Nat) : Reads (w.drewN k) B size A n xs := h
theorem Reads.alloc (h : Reads w B size A n xs) (hB : B ≤ w.heap.size) (o : Obj) : Reads (w.alloc o) B size A n xs := h.keep fun p hp => World.cell?_alloc_lt w o p (by omega)
theorem Reads.setCell (h : Reads w B size A n xs) {p : Addr} (hB : B ≤ p.block) (u : Value) : Reads (w.setCell p u) B size A n xs :=
  h.keep fun q hq => World.cell?_setCell_other w p q u (fun e => by subst e; omega)
theorem Reads.grown (h : Reads w B size A n xs) {row : Option Nat} (hg : w.grownBy w' row) (hB : B ≤ w.heap.size) (hr : ∀ g, row = some g → B ≤ g) : Reads w' B size A n xs :=
  h.keep fun p hp => World.cell?_of_block (hg.block p.block (by omega) (fun e => by have := hr _ e.symm; omega))
theorem Reads.of_own {base : Nat} {e : TypeId} {c : Nat} (h : w.ownsRow base e size (.slice A n c) n xs) : Reads w w.heap.size size A n xs := by
  refine ⟨h.1, fun hn => ?_⟩
  obtain ⟨g, cap, hv, _, hlt⟩ := h.form hn
  have hA : A = some ⟨g, 0, none⟩ := by injection hv
  subst hA
  exact ⟨_, rfl, hlt, h.cells (g := g) rfl⟩
end

/-- The cells of a slice of ints; of strings. -/
def intCells (zs : List Int) : List Value := zs.map (Value.int .i64)
def strCellsL (ls : List (List UInt8)) : List Value := ls.map fun l => Value.string ⟨l.toArray⟩

theorem intCells_length (zs : List Int) : (intCells zs).length = zs.length := by simp [intCells]
theorem strCellsL_length (ls : List (List UInt8)) : (strCellsL ls).length = ls.length := by simp [strCellsL]

theorem Reads.lit {w : World} {B size n : Nat} {A : Option Addr} {xs : List Value} (h : Reads w B size A n xs) (hn : 0 < n) (hs : 0 < size) :
    ∃ b off, A = some ⟨b, off, none⟩ ∧ b < B ∧ ∀ j u, xs[j]? = some u → w.cell? ⟨b, off + j, none⟩ = some u := by
  obtain ⟨⟨b, off, spot⟩, rfl, hb, hc⟩ := h.2 hn
  have hl : 0 < xs.length := by rw [h.1]; exact Nat.mul_pos hn hs
  have h0 := hc 0 _ (List.getElem?_eq_getElem hl)
  have hspot : spot = none := by simpa [Addr.add] using World.cell?_spot h0
  subst hspot
  refine ⟨b, off, rfl, hb, fun j u hu => ?_⟩
  have := hc j u hu
  have e : (⟨b, off, none⟩ : Addr).add j = ⟨b, off + j, none⟩ := by unfold Addr.add; split <;> simp_all
  rw [← e]
  exact this

theorem wf_I64 {n : Int} (h : (Lit.int .i64 n).wf = true) : I64 n := by
  simp [Lit.wf, IntKind.min, IntKind.max, IntKind.bits, IntKind.signed] at h
  exact h

theorem cell_lt {w : World} {p : Addr} {v : Value} (h : w.cell? p = some v) : p.block < w.heap.size := by
  rcases Nat.lt_or_ge p.block w.heap.size with h1 | h1
  · exact h1
  · simp [World.cell?, Array.getElem?_eq_none h1] at h


/-! ### Rows of structs -/
/-- A slice that nothing reads. -/
structure SlD where
  A : Option Addr
  n : Nat
  c : Nat

theorem flat_length {α : Type} (f : α → List Value) (k : Nat) (hk : ∀ a, (f a).length = k) : ∀ (l : List α), (l.flatMap f).length = l.length * k
  | [] => by simp
  | a :: l => by rw [List.flatMap_cons, List.length_append, hk, flat_length f k hk l, List.length_cons, Nat.succ_mul]; omega
theorem flat_at {α : Type} (f : α → List Value) (k : Nat) (hk : ∀ a, (f a).length = k) : ∀ (l : List α) (i j : Nat) (hi : i < l.length), j < k → (l.flatMap f)[i * k + j]? = (f (l[i]'hi))[j]?
  | [], i, j, hi, _ => by simp at hi
  | a :: l, 0, j, _, hj => by
    rw [List.flatMap_cons, Nat.zero_mul, Nat.zero_add, List.getElem?_append_left (by rw [hk]; exact hj)]
    rfl
  | a :: l, i + 1, j, hi, hj => by
    rw [List.flatMap_cons, List.getElem?_append_right (by rw [hk, Nat.succ_mul]; omega), hk, show (i + 1) * k + j - k = i * k + j by rw [Nat.succ_mul]; omega, flat_at f k hk l i j (by simpa using hi) hj]
    rfl

structure RefD where
  a0 : Int
  kind : Int
  tk : Int
  tn : Int
  a4 : Int
  a5 : Int
  a6 : Int
def RefD.parts (r : RefD) : List Value := [.int .i64 r.a0, .int .i64 r.kind, .int .i64 r.tk, .int .i64 r.tn, .int .i64 r.a4, .int .i64 r.a5, .int .i64 r.a6]
theorem RefD.parts_length (r : RefD) : r.parts.length = 7 := rfl
structure RefD.Ok (r : RefD) : Prop where
  kind : I64 r.kind
  tk : I64 r.tk
  tn : I64 r.tn

structure NodeD where
  b0 : ByteArray
  b1 : ByteArray
  b2 : Int
  b3 : Int
  b4 : Int
  b5 : ByteArray
  A : Option Addr
  c : Nat
  refs : List RefD
  b7 : SlD
  b8 : SlD
  b9 : SlD
  b10 : SlD
  b11 : SlD
def NodeD.parts (n : NodeD) : List Value := [.string n.b0, .string n.b1, .int .i64 n.b2, .int .i64 n.b3, .int .i64 n.b4, .string n.b5, .slice n.A n.refs.length n.c, .slice n.b7.A n.b7.n n.b7.c, .slice n.b8.A n.b8.n n.b8.c, .slice n.b9.A n.b9.n n.b9.c, .slice n.b10.A n.b10.n n.b10.c, .slice n.b11.A n.b11.n n.b11.c]
theorem NodeD.parts_length (n : NodeD) : n.parts.length = 12 := rfl
structure NodeD.Ok (w : World) (B : Nat) (n : NodeD) : Prop where
  len : n.refs.length ≤ 9223372036854775807
  cells : Reads w B 7 n.A n.refs.length (n.refs.flatMap RefD.parts)
  refs : ∀ r ∈ n.refs, r.Ok

structure ImpD where
  name : List UInt8
  ver : List UInt8
  c2 : Int
  c3 : Bool
  c4 : Bool
def ImpD.parts (x : ImpD) : List Value := [.string ⟨x.name.toArray⟩, .string ⟨x.ver.toArray⟩, .int .i64 x.c2, .bool x.c3, .bool x.c4]
theorem ImpD.parts_length (x : ImpD) : x.parts.length = 5 := rfl
structure ImpD.Ok (x : ImpD) : Prop where
  name : x.name.length ≤ maxLen
  ver : x.ver.length ≤ maxLen

structure UnitD where
  u0 : ByteArray
  u1 : Bool
  nA : Option Addr
  nc : Nat
  nodes : List NodeD
  iA : Option Addr
  ic : Nat
  imps : List ImpD
  u4 : SlD
  u5 : SlD
  u6 : SlD
  u7 : SlD
  u8 : Int
  u9 : Int
  u10 : Int
  u11 : Int
  u12 : SlD
  u13 : SlD
def UnitD.parts (u : UnitD) : List Value := [.string u.u0, .bool u.u1, .slice u.nA u.nodes.length u.nc, .slice u.iA u.imps.length u.ic, .slice u.u4.A u.u4.n u.u4.c, .slice u.u5.A u.u5.n u.u5.c, .slice u.u6.A u.u6.n u.u6.c, .slice u.u7.A u.u7.n u.u7.c, .int .i64 u.u8, .int .i64 u.u9, .int .i64 u.u10, .int .i64 u.u11, .slice u.u12.A u.u12.n u.u12.c, .slice u.u13.A u.u13.n u.u13.c]
theorem UnitD.parts_length (u : UnitD) : u.parts.length = 14 := rfl
structure UnitD.Ok (w : World) (B : Nat) (u : UnitD) : Prop where
  nlen : u.nodes.length ≤ 9223372036854775807
  ilen : u.imps.length ≤ 9223372036854775807
  ncells : Reads w B 12 u.nA u.nodes.length (u.nodes.flatMap NodeD.parts)
  nodes : ∀ n ∈ u.nodes, n.Ok w B
  icells : Reads w B 5 u.iA u.imps.length (u.imps.flatMap ImpD.parts)
  imps : ∀ x ∈ u.imps, x.Ok

structure LayD where
  l0 : SlD
  sA : Option Addr
  sc : Nat
  slots : List Int
  l2 : SlD
  l3 : Int
  l4 : Int
  l5 : Int
  l6 : Int
def LayD.parts (l : LayD) : List Value := [.slice l.l0.A l.l0.n l.l0.c, .slice l.sA l.slots.length l.sc, .slice l.l2.A l.l2.n l.l2.c, .int .i64 l.l3, .int .i64 l.l4, .int .i64 l.l5, .int .i64 l.l6]
theorem LayD.parts_length (l : LayD) : l.parts.length = 7 := rfl
structure LayD.Ok (w : World) (B : Nat) (l : LayD) : Prop where
  len : l.slots.length ≤ 9223372036854775807
  cells : Reads w B 1 l.sA l.slots.length (intCells l.slots)
  slots : ∀ z ∈ l.slots, I64 z

theorem NodeD.Ok.below {w w' : World} {B : Nat} {n : NodeD} (h : n.Ok w B) (hb : Below B w w') : n.Ok w' B := ⟨h.len, h.cells.below hb, h.refs⟩
theorem NodeD.Ok.more {w : World} {B B' : Nat} {n : NodeD} (h : n.Ok w B) (hb : B ≤ B') : n.Ok w B' := ⟨h.len, h.cells.more hb, h.refs⟩
theorem UnitD.Ok.below {w w' : World} {B : Nat} {u : UnitD} (h : u.Ok w B) (hb : Below B w w') : u.Ok w' B :=
  ⟨h.nlen, h.ilen, h.ncells.below hb, fun n hn => (h.nodes n hn).below hb, h.icells.below hb, h.imps⟩
theorem UnitD.Ok.more {w : World} {B B' : Nat} {u : UnitD} (h : u.Ok w B) (hb : B ≤ B') : u.Ok w B' :=
  ⟨h.nlen, h.ilen, h.ncells.more hb, fun n hn => (h.nodes n hn).more hb, h.icells.more hb, h.imps⟩
theorem LayD.Ok.below {w w' : World} {B : Nat} {l : LayD} (h : l.Ok w B) (hb : Below B w w') : l.Ok w' B := ⟨h.len, h.cells.below hb, h.slots⟩
theorem LayD.Ok.more {w : World} {B B' : Nat} {l : LayD} (h : l.Ok w B) (hb : B ≤ B') : l.Ok w B' := ⟨h.len, h.cells.more hb, h.slots⟩

theorem below_drewN {B : Nat} {a w : World} (h : Below B a w) (n : Nat) : Below B a (w.drewN n) := ⟨h.os, h.tape, h.output, h.size, h.block⟩

theorem boolInfo : (Try.prog.info? 4).map (fun i => (i.zero, i.size, i.bytes)) = some (some (.bool false), 1, 1) := by kernel_rfl
theorem intInfo : (Try.prog.info? 3).map (fun i => (i.zero, i.size, i.bytes)) = some (some (.int .i64 0), 1, 8) := by kernel_rfl

end Go.Proofs.Ytdmomdaeiaeolaa
