/-
  image.coder that writes: contracts of the functions for one element of each list. Conditions: the encoding is at most 2^46 bytes long.
-/
import Derived.Test.YtefgajipakjpeaaDoorListW2
namespace Go.Proofs.YtefgajipakjpeaaDoor
open Go.RowKit

theorem ints_new {B cb xb : Nat} {acc : List UInt8} {w : World} {t : TypeId} {cs : Array Value} (l : List (Nat × Int)) (h : CW B cb acc w) (hBw : B ≤ w.heap.size) (hx : Blk w xb t cs) (ht : t ≠ 5) (hxc : xb ≠ cb) (hll : l.length ≤ 1000)
    (hv : ∀ x ∈ l, cs[x.1]? = some (.int .i64 x.2)) (hi : ∀ x ∈ l, I64 x.2) (hlen : acc.length + (l.flatMap fun x => wInt x.2).length ≤ 70368744177664) :
    Calls Tryd.prog 51 #[.pointer (some ⟨cb, 0, none⟩), .slice (some ⟨w.heap.size, 0, none⟩) l.length l.length] (w.alloc (.cells (l.map fun x => Value.pointer (some ⟨xb, x.1, none⟩)).toArray 105)) (PutPost B cb w (acc ++ l.flatMap fun x => wInt x.2)) := by
  have hm : ptrCells (l.map fun x => ((⟨xb, x.1, none⟩ : Addr), x.2)) = (l.map fun x => Value.pointer (some ⟨xb, x.1, none⟩)).toArray := by simp [ptrCells]
  have hf : ((l.map fun x => ((⟨xb, x.1, none⟩ : Addr), x.2)).flatMap fun x => wInt x.2) = l.flatMap fun x => wInt x.2 := by simp [List.flatMap_map]
  have hlt := h.lt
  have h1 := ints_w (B := B) (cb := cb) (g := w.heap.size) (acc := acc) (w := w.alloc (.cells (l.map fun x => Value.pointer (some ⟨xb, x.1, none⟩)).toArray 105)) (l.map fun x => ((⟨xb, x.1, none⟩ : Addr), x.2)) (h.alloc _) (Nat.le_trans hBw (by simp))
    (by rw [hm]; exact Blk.new w _ _) (by omega) (by simpa using hll) (by
      intro x hx2
      obtain ⟨y, hy, rfl⟩ := List.mem_map.1 hx2
      exact CellAt.mk_ (hx.alloc _) ht hxc (hv y hy)) (by
      intro x hx2
      obtain ⟨y, hy, rfl⟩ := List.mem_map.1 hx2
      exact hi y hy) (by rw [hf]; exact hlen)
  rw [hf, List.length_map] at h1
  refine h1.mono ?_
  rintro e w' ⟨rfl, hc, hw⟩
  exact ⟨rfl, hc, ((Wr.refl B cb w).alloc _ hBw).trans hw⟩
theorem texts_new {B cb xb : Nat} {acc : List UInt8} {w : World} {t : TypeId} {cs : Array Value} (l : List (Nat × List UInt8)) (h : CW B cb acc w) (hBw : B ≤ w.heap.size) (hx : Blk w xb t cs) (ht : t ≠ 5) (hxc : xb ≠ cb) (hll : l.length ≤ 1000)
    (hv : ∀ x ∈ l, cs[x.1]? = some (.string ⟨x.2.toArray⟩)) (hlen : acc.length + (l.flatMap fun x => wText x.2).length ≤ 70368744177664) :
    Calls Tryd.prog 53 #[.pointer (some ⟨cb, 0, none⟩), .slice (some ⟨w.heap.size, 0, none⟩) l.length l.length] (w.alloc (.cells (l.map fun x => Value.pointer (some ⟨xb, x.1, none⟩)).toArray 108)) (PutPost B cb w (acc ++ l.flatMap fun x => wText x.2)) := by
  have hm : ptrCells (l.map fun x => ((⟨xb, x.1, none⟩ : Addr), x.2)) = (l.map fun x => Value.pointer (some ⟨xb, x.1, none⟩)).toArray := by simp [ptrCells]
  have hf : ((l.map fun x => ((⟨xb, x.1, none⟩ : Addr), x.2)).flatMap fun x => wText x.2) = l.flatMap fun x => wText x.2 := by simp [List.flatMap_map]
  have hlt := h.lt
  have h1 := texts_w (B := B) (cb := cb) (g := w.heap.size) (acc := acc) (w := w.alloc (.cells (l.map fun x => Value.pointer (some ⟨xb, x.1, none⟩)).toArray 108)) (l.map fun x => ((⟨xb, x.1, none⟩ : Addr), x.2)) (h.alloc _) (Nat.le_trans hBw (by simp))
    (by rw [hm]; exact Blk.new w _ _) (by omega) (by simpa using hll) (by
      intro x hx2
      obtain ⟨y, hy, rfl⟩ := List.mem_map.1 hx2
      exact CellAt.mk_ (hx.alloc _) ht hxc (hv y hy)) (by rw [hf]; exact hlen)
  rw [hf, List.length_map] at h1
  refine h1.mono ?_
  rintro e w' ⟨rfl, hc, hw⟩
  exact ⟨rfl, hc, ((Wr.refl B cb w).alloc _ hBw).trans hw⟩

/-- The box of the coder that the closures hold. -/
def Inv0 (bx cb : Nat) (w : World) : Prop := Blk w bx 104 #[.pointer (some ⟨cb, 0, none⟩)] ∧ bx ≠ cb
theorem Inv0.keeps (B bx cb : Nat) : Keeps B cb (Inv0 bx cb) := ⟨fun _ _ h _ k => ⟨h.1.wr k h.2 (by decide), h.2⟩⟩
theorem Inv0.wr {B bx cb : Nat} {a b : World} (h : Inv0 bx cb a) (k : Wr B cb a b) : Inv0 bx cb b := ⟨h.1.wr k h.2 (by decide), h.2⟩
/-- The box of the closure that writes a string, too. -/
def Inv1 (bx tx cb : Nat) (w : World) : Prop := Inv0 bx cb w ∧ Blk w tx 110 #[.func (.func 52) #[] #[.pointer (some ⟨bx, 0, none⟩)]] ∧ tx ≠ cb
theorem Inv1.keeps (B bx tx cb : Nat) : Keeps B cb (Inv1 bx tx cb) := ⟨fun _ _ h _ k => ⟨h.1.wr k, h.2.1.wr k h.2.2 (by decide), h.2.2⟩⟩
theorem Inv1.wr {B bx tx cb : Nat} {a b : World} (h : Inv1 bx tx cb a) (k : Wr B cb a b) : Inv1 bx tx cb b := ⟨h.1.wr k, h.2.1.wr k h.2.2 (by decide), h.2.2⟩
theorem Inv0.cell {bx cb : Nat} {w : World} (h : Inv0 bx cb w) : w.cell? ⟨bx, 0, none⟩ = some (.pointer (some ⟨cb, 0, none⟩)) := h.1.cell 0
theorem Inv1.cell {bx tx cb : Nat} {w : World} (h : Inv1 bx tx cb w) : w.cell? ⟨bx, 0, none⟩ = some (.pointer (some ⟨cb, 0, none⟩)) := h.1.1.cell 0
theorem Inv1.tcell {bx tx cb : Nat} {w : World} (h : Inv1 bx tx cb w) : w.cell? ⟨tx, 0, none⟩ = some (.func (.func 52) #[] #[.pointer (some ⟨bx, 0, none⟩)]) := h.2.1.cell 0
structure Int_D.Ok (x : Int_D) : Prop where
  any : True := trivial
  f0 : I64 x.f0

structure StrD.Ok (x : StrD) : Prop where
  any : True := trivial
  f0 : x.f0.length ≤ maxLen

structure PieceD.Ok (x : PieceD) : Prop where
  any : True := trivial
  f0 : I64 x.f0
  f1 : I64 x.f1
  f2 : I64 x.f2

structure PlacedD.Ok (x : PlacedD) : Prop where
  any : True := trivial
  f0 : x.f0.length ≤ maxLen
  f1 : x.f1.length ≤ maxLen
  f2 : I64 x.f2
  f3 : I64 x.f3
  f4 : I64 x.f4
  f5 : x.f5.length ≤ maxLen
  f6 : x.f6.length ≤ maxLen

structure ExportD.Ok (x : ExportD) : Prop where
  any : True := trivial
  f0 : x.f0.length ≤ maxLen
  f1 : x.f1.length ≤ maxLen
  f3 : I64 x.f3
  f4 : I64 x.f4
  f5 : I64 x.f5

structure ImportD.Ok (x : ImportD) : Prop where
  any : True := trivial
  f0 : x.f0.length ≤ maxLen
  f1 : x.f1.length ≤ maxLen
  f2 : I64 x.f2

structure DynD.Ok (x : DynD) : Prop where
  any : True := trivial
  f0 : I64 x.f0
  f1 : I64 x.f1
  f2 : I64 x.f2
  f3 : I64 x.f3

structure VerDefD.Ok (x : VerDefD) : Prop where
  any : True := trivial
  f0 : x.f0.length ≤ maxLen
  f1 : ∀ y ∈ x.f1.xs, y.Ok

structure ConvD.Ok (x : ConvD) : Prop where
  any : True := trivial
  f0 : x.f0.length ≤ maxLen
  f1 : x.f1.length ≤ maxLen
  f2 : x.f2.length ≤ maxLen
  f3 : ∀ y ∈ x.f3.xs, y.Ok
  f4 : I64 x.f4

structure MarkD.Ok (x : MarkD) : Prop where
  any : True := trivial
  f0 : x.f0.length ≤ maxLen
  f1 : I64 x.f1
  f2 : I64 x.f2
  f3 : I64 x.f3

structure LineD.Ok (x : LineD) : Prop where
  any : True := trivial
  f0 : I64 x.f0
  f1 : I64 x.f1
  f2 : x.f2.length ≤ maxLen
  f3 : I64 x.f3

structure SpanD.Ok (x : SpanD) : Prop where
  any : True := trivial
  f0 : I64 x.f0
  f1 : I64 x.f1

structure InlineD.Ok (x : InlineD) : Prop where
  any : True := trivial
  f0 : I64 x.f0
  f1 : I64 x.f1
  f2 : I64 x.f2
  f3 : x.f3.length ≤ maxLen
  f4 : x.f4.length ≤ maxLen
  f5 : I64 x.f5

structure VarID.Ok (x : VarID) : Prop where
  any : True := trivial
  f0 : I64 x.f0
  f1 : I64 x.f1
  f2 : I64 x.f2
  f3 : x.f3.length ≤ maxLen
  f4 : I64 x.f4
  f5 : I64 x.f5

structure DepthD.Ok (x : DepthD) : Prop where
  any : True := trivial
  f0 : I64 x.f0
  f1 : I64 x.f1
  f2 : I64 x.f2
  f3 : I64 x.f3


set_option maxHeartbeats 8000000 in
set_option maxRecDepth 100000 in
theorem cloInt__w {B cb bx : Nat} {ac : List UInt8} {w : World} (xb : Nat) (x : Int_D) (hI : Inv0 bx cb w) (h : CW B cb ac w) (hBw : B ≤ w.heap.size) (hx : Blk w xb 3 x.parts.toArray) (hxc : xb ≠ cb) (hok : x.Ok) (hlen : ac.length + (wInt_ x).length ≤ 70368744177664) :
    Calls Tryd.prog 50 #[.pointer (some ⟨xb, 0, none⟩), .pointer (some ⟨bx, 0, none⟩)] w (PutPost B cb w (ac ++ wInt_ x)) := by
  have HW0 := Lib.hid (Wr.refl B cb w)
  have HC0 := Lib.hid h
  have HI0 := Lib.hid hI
  have HX := Lib.hid hx
  have HWX : Hid (wInt_ x = wInt_ x) := rfl
  have hc0 := hI.cell
  have HO0 := Lib.hid hok.f0
  clear h hI hx hok
  obtain ⟨y0⟩ := x
  simp only [Int_D.parts] at HX
  simp only at HO0
  have HWE : Hid (ac ++ wInt_ ⟨y0⟩ = ac ++ wInt y0) := Lib.hid (by simp [wInt_, List.append_assoc])
  have hln : ac.length + ((wInt y0).length) ≤ 70368744177664 := by
    have := hlen
    simp only [wInt_, List.length_append] at this
    omega
  rw [HWE.out]
  clear hlen HWE HWX
  unfold PutPost
  go_enter Tryd.func50, Tryd.ntmps50
  have HCd0 : Hid (CW B cb (ac) w) := HC0.out
  have HWd0 : Hid (Wr B cb w w) := HW0.out
  have HId0 := Lib.hid (HI0.out.wr HWd0.out)
  have HXd0 := Lib.hid (HX.out.wr HWd0.out hxc (by decide))
  have hbw0 := Nat.le_trans hBw HWd0.out.size
  have hq0 := ints_new (w := w) [(0, y0)] HCd0.out hbw0 HXd0.out (by decide) hxc (by simp) (by
    intro x hx
    simp at hx
    subst hx
    rfl) (by
    intro x hx
    simp at hx
    subst hx
    exact HO0.out) (by simp only [List.flatMap_cons, List.flatMap_nil, List.length_append, List.append_nil]; omega)
  simp only [List.flatMap_cons, List.flatMap_nil, List.append_nil, ← List.append_assoc, List.map_cons, List.map_nil, List.length_cons, List.length_nil, Nat.zero_add, Nat.reduceAdd] at hq0
  have HQ0 := Lib.hid hq0
  clear hq0
  unfold PutPost at HQ0
  go_wp2_with fail
  refine (HQ0.out).mono ?_
  rintro r w1 ⟨rfl, hc, hw⟩
  have HC1 : Hid (CW B cb (ac ++ wInt y0) w1) := hc
  have HW1 : Hid (Wr B cb w w1) := HWd0.out.trans hw
  clear hc hw HQ0 HCd0 HWd0 HId0 HXd0 hc0
  go_wp2
  go_end0
  exact ⟨rfl, HC1.out, HW1.out⟩

set_option maxHeartbeats 8000000 in
set_option maxRecDepth 100000 in
theorem cloStr_w {B cb bx : Nat} {ac : List UInt8} {w : World} (xb : Nat) (x : StrD) (hI : Inv0 bx cb w) (h : CW B cb ac w) (hBw : B ≤ w.heap.size) (hx : Blk w xb 9 x.parts.toArray) (hxc : xb ≠ cb) (hok : x.Ok) (hlen : ac.length + (wStr x).length ≤ 70368744177664) :
    Calls Tryd.prog 52 #[.pointer (some ⟨xb, 0, none⟩), .pointer (some ⟨bx, 0, none⟩)] w (PutPost B cb w (ac ++ wStr x)) := by
  have HW0 := Lib.hid (Wr.refl B cb w)
  have HC0 := Lib.hid h
  have HI0 := Lib.hid hI
  have HX := Lib.hid hx
  have HWX : Hid (wStr x = wStr x) := rfl
  have hc0 := hI.cell
  clear h hI hx hok
  obtain ⟨y0⟩ := x
  simp only [StrD.parts] at HX
  have HWE : Hid (ac ++ wStr ⟨y0⟩ = ac ++ wText y0) := Lib.hid (by simp [wStr, List.append_assoc])
  have hln : ac.length + ((wText y0).length) ≤ 70368744177664 := by
    have := hlen
    simp only [wStr, List.length_append] at this
    omega
  rw [HWE.out]
  clear hlen HWE HWX
  unfold PutPost
  go_enter Tryd.func52, Tryd.ntmps52
  have HCd0 : Hid (CW B cb (ac) w) := HC0.out
  have HWd0 : Hid (Wr B cb w w) := HW0.out
  have HId0 := Lib.hid (HI0.out.wr HWd0.out)
  have HXd0 := Lib.hid (HX.out.wr HWd0.out hxc (by decide))
  have hbw0 := Nat.le_trans hBw HWd0.out.size
  have hq0 := texts_new (w := w) [(0, y0)] HCd0.out hbw0 HXd0.out (by decide) hxc (by simp) (by
    intro x hx
    simp at hx
    subst hx
    rfl) (by simp only [List.flatMap_cons, List.flatMap_nil, List.length_append, List.append_nil]; omega)
  simp only [List.flatMap_cons, List.flatMap_nil, List.append_nil, ← List.append_assoc, List.map_cons, List.map_nil, List.length_cons, List.length_nil, Nat.zero_add, Nat.reduceAdd] at hq0
  have HQ0 := Lib.hid hq0
  clear hq0
  unfold PutPost at HQ0
  go_wp2_with fail
  refine (HQ0.out).mono ?_
  rintro r w1 ⟨rfl, hc, hw⟩
  have HC1 : Hid (CW B cb (ac ++ wText y0) w1) := hc
  have HW1 : Hid (Wr B cb w w1) := HWd0.out.trans hw
  clear hc hw HQ0 HCd0 HWd0 HId0 HXd0 hc0
  go_wp2
  go_end0
  exact ⟨rfl, HC1.out, HW1.out⟩

set_option maxHeartbeats 8000000 in
set_option maxRecDepth 100000 in
theorem cloPiece_w {B cb bx : Nat} {ac : List UInt8} {w : World} (xb : Nat) (x : PieceD) (hI : Inv0 bx cb w) (h : CW B cb ac w) (hBw : B ≤ w.heap.size) (hx : Blk w xb 157 x.parts.toArray) (hxc : xb ≠ cb) (hok : x.Ok) (hlen : ac.length + (wPiece x).length ≤ 70368744177664) :
    Calls Tryd.prog 71 #[.pointer (some ⟨xb, 0, none⟩), .pointer (some ⟨bx, 0, none⟩)] w (PutPost B cb w (ac ++ wPiece x)) := by
  have HW0 := Lib.hid (Wr.refl B cb w)
  have HC0 := Lib.hid h
  have HI0 := Lib.hid hI
  have HX := Lib.hid hx
  have HWX : Hid (wPiece x = wPiece x) := rfl
  have hc0 := hI.cell
  have HO0 := Lib.hid hok.f0
  have HO1 := Lib.hid hok.f1
  have HO2 := Lib.hid hok.f2
  clear h hI hx hok
  obtain ⟨y0, y1, y2⟩ := x
  simp only [PieceD.parts] at HX
  simp only at HO0 HO1 HO2
  have HWE : Hid (ac ++ wPiece ⟨y0, y1, y2⟩ = ac ++ wInt y0 ++ wInt y1 ++ wInt y2) := Lib.hid (by simp [wPiece, List.append_assoc])
  have hln : ac.length + ((wInt y0).length + (wInt y1).length + (wInt y2).length) ≤ 70368744177664 := by
    have := hlen
    simp only [wPiece, List.length_append] at this
    omega
  rw [HWE.out]
  clear hlen HWE HWX
  unfold PutPost
  go_enter Tryd.func71, Tryd.ntmps71
  have HCd0 : Hid (CW B cb (ac) w.drew) := HC0.out.drew
  have HWd0 : Hid (Wr B cb w w.drew) := HW0.out.drew
  have HId0 := Lib.hid (HI0.out.wr HWd0.out)
  have HXd0 := Lib.hid (HX.out.wr HWd0.out hxc (by decide))
  have hbw0 := Nat.le_trans hBw HWd0.out.size
  have hq0 := ints_new (w := w.drew) [(0, y0), (1, y1), (2, y2)] HCd0.out hbw0 HXd0.out (by decide) hxc (by simp) (by
    intro x hx
    simp at hx
    rcases hx with rfl | rfl | rfl <;> rfl) (by
    intro x hx
    simp at hx
    rcases hx with rfl | rfl | rfl
    · exact HO0.out
    · exact HO1.out
    · exact HO2.out) (by simp only [List.flatMap_cons, List.flatMap_nil, List.length_append, List.append_nil]; omega)
  simp only [List.flatMap_cons, List.flatMap_nil, List.append_nil, ← List.append_assoc, List.map_cons, List.map_nil, List.length_cons, List.length_nil, Nat.zero_add, Nat.reduceAdd] at hq0
  have HQ0 := Lib.hid hq0
  clear hq0
  unfold PutPost at HQ0
  go_wp2_with fail
  go_region_held3 (fun w' => w'.cell? ⟨bx, 0, none⟩ = some (.pointer (some ⟨cb, 0, none⟩)))
    (first | exact HJ1.out.cell | exact HId0.out.cell | exact (HId0.out.wr ((Wr.refl B cb w.drew).alloc (.cells #[.pointer (some ⟨xb, 0, none⟩), .pointer (some ⟨xb, 1, none⟩), .pointer (some ⟨xb, 2, none⟩)] 105) hbw0)).cell)
    (first
      | (go_at_call 51; refine Calls.mono HQ0.out ?_; rintro r w1 ⟨rfl, hc, hw⟩; have HJ1 := Lib.hid (HId0.out.wr hw)))
  have HC1 : Hid (CW B cb (ac ++ wInt y0 ++ wInt y1 ++ wInt y2) w1) := hc
  have HW1 : Hid (Wr B cb w w1) := HWd0.out.trans hw
  clear hc hw HQ0 HCd0 HWd0 HId0 HXd0 HJ1 hc0
  go_wp2
  go_end0
  exact ⟨rfl, HC1.out, HW1.out⟩

set_option maxHeartbeats 8000000 in
set_option maxRecDepth 100000 in
theorem cloPlaced_w {B cb bx : Nat} {ac : List UInt8} {w : World} (xb : Nat) (x : PlacedD) (hI : Inv0 bx cb w) (h : CW B cb ac w) (hBw : B ≤ w.heap.size) (hx : Blk w xb 115 x.parts.toArray) (hxc : xb ≠ cb) (hok : x.Ok) (hlen : ac.length + (wPlaced x).length ≤ 70368744177664) :
    Calls Tryd.prog 56 #[.pointer (some ⟨xb, 0, none⟩), .pointer (some ⟨bx, 0, none⟩)] w (PutPost B cb w (ac ++ wPlaced x)) := by
  have HW0 := Lib.hid (Wr.refl B cb w)
  have HC0 := Lib.hid h
  have HI0 := Lib.hid hI
  have HX := Lib.hid hx
  have HWX : Hid (wPlaced x = wPlaced x) := rfl
  have hc0 := hI.cell
  have HO2 := Lib.hid hok.f2
  have HO3 := Lib.hid hok.f3
  have HO4 := Lib.hid hok.f4
  clear h hI hx hok
  obtain ⟨y0, y1, y2, y3, y4, y5, y6⟩ := x
  simp only [PlacedD.parts] at HX
  simp only at HO2 HO3 HO4
  have HWE : Hid (ac ++ wPlaced ⟨y0, y1, y2, y3, y4, y5, y6⟩ = ac ++ wText y0 ++ wText y1 ++ wInt y2 ++ wInt y3 ++ wInt y4 ++ wText y5 ++ wText y6) := Lib.hid (by simp [wPlaced, List.append_assoc])
  have hln : ac.length + ((wText y0).length + (wText y1).length + (wInt y2).length + (wInt y3).length + (wInt y4).length + (wText y5).length + (wText y6).length) ≤ 70368744177664 := by
    have := hlen
    simp only [wPlaced, List.length_append] at this
    omega
  rw [HWE.out]
  clear hlen HWE HWX
  unfold PutPost
  go_enter Tryd.func56, Tryd.ntmps56
  have HCd0 : Hid (CW B cb (ac) w.drew) := HC0.out.drew
  have HWd0 : Hid (Wr B cb w w.drew) := HW0.out.drew
  have HId0 := Lib.hid (HI0.out.wr HWd0.out)
  have HXd0 := Lib.hid (HX.out.wr HWd0.out hxc (by decide))
  have hbw0 := Nat.le_trans hBw HWd0.out.size
  have hq0 := texts_new (w := w.drew) [(0, y0), (1, y1)] HCd0.out hbw0 HXd0.out (by decide) hxc (by simp) (by
    intro x hx
    simp at hx
    rcases hx with rfl | rfl <;> rfl) (by simp only [List.flatMap_cons, List.flatMap_nil, List.length_append, List.append_nil]; omega)
  simp only [List.flatMap_cons, List.flatMap_nil, List.append_nil, ← List.append_assoc, List.map_cons, List.map_nil, List.length_cons, List.length_nil, Nat.zero_add, Nat.reduceAdd] at hq0
  have HQ0 := Lib.hid hq0
  clear hq0
  unfold PutPost at HQ0
  go_wp2_with fail
  go_region_held3 (fun w' => w'.cell? ⟨bx, 0, none⟩ = some (.pointer (some ⟨cb, 0, none⟩)))
    (first | exact HJ1.out.cell | exact HId0.out.cell | exact (HId0.out.wr ((Wr.refl B cb w.drew).alloc (.cells #[.pointer (some ⟨xb, 0, none⟩), .pointer (some ⟨xb, 1, none⟩)] 108) hbw0)).cell)
    (first
      | (go_at_call 53; refine Calls.mono HQ0.out ?_; rintro r w1 ⟨rfl, hc, hw⟩; have HJ1 := Lib.hid (HId0.out.wr hw)))
  have HC1 : Hid (CW B cb (ac ++ wText y0 ++ wText y1) w1) := hc
  have HW1 : Hid (Wr B cb w w1) := HWd0.out.trans hw
  clear hc hw HQ0 HCd0 HWd0 HId0 HXd0 HJ1 hc0
  have HCd1 : Hid (CW B cb (ac ++ wText y0 ++ wText y1) w1.drew) := HC1.out.drew
  have HWd1 : Hid (Wr B cb w w1.drew) := HW1.out.drew
  have HId1 := Lib.hid (HI0.out.wr HWd1.out)
  have HXd1 := Lib.hid (HX.out.wr HWd1.out hxc (by decide))
  have hbw1 := Nat.le_trans hBw HWd1.out.size
  have hq1 := ints_new (w := w1.drew) [(2, y2), (3, y3), (4, y4)] HCd1.out hbw1 HXd1.out (by decide) hxc (by simp) (by
    intro x hx
    simp at hx
    rcases hx with rfl | rfl | rfl <;> rfl) (by
    intro x hx
    simp at hx
    rcases hx with rfl | rfl | rfl
    · exact HO2.out
    · exact HO3.out
    · exact HO4.out) (by simp only [List.flatMap_cons, List.flatMap_nil, List.length_append, List.append_nil]; omega)
  simp only [List.flatMap_cons, List.flatMap_nil, List.append_nil, ← List.append_assoc, List.map_cons, List.map_nil, List.length_cons, List.length_nil, Nat.zero_add, Nat.reduceAdd] at hq1
  have HQ1 := Lib.hid hq1
  clear hq1
  unfold PutPost at HQ1
  have hcq1 := (HI0.out.wr HW1.out).cell
  go_wp2_with fail
  go_region_held3 (fun w' => w'.cell? ⟨bx, 0, none⟩ = some (.pointer (some ⟨cb, 0, none⟩)))
    (first | exact HJ2.out.cell | exact HId1.out.cell | exact (HId1.out.wr ((Wr.refl B cb w1.drew).alloc (.cells #[.pointer (some ⟨xb, 2, none⟩), .pointer (some ⟨xb, 3, none⟩), .pointer (some ⟨xb, 4, none⟩)] 105) hbw1)).cell)
    (first
      | (go_at_call 51; refine Calls.mono HQ1.out ?_; rintro r w2 ⟨rfl, hc, hw⟩; have HJ2 := Lib.hid (HId1.out.wr hw)))
  have HC2 : Hid (CW B cb (ac ++ wText y0 ++ wText y1 ++ wInt y2 ++ wInt y3 ++ wInt y4) w2) := hc
  have HW2 : Hid (Wr B cb w w2) := HWd1.out.trans hw
  clear hc hw HQ1 HCd1 HWd1 HId1 HXd1 HJ2 hcq1
  have HCd2 : Hid (CW B cb (ac ++ wText y0 ++ wText y1 ++ wInt y2 ++ wInt y3 ++ wInt y4) w2.drew) := HC2.out.drew
  have HWd2 : Hid (Wr B cb w w2.drew) := HW2.out.drew
  have HId2 := Lib.hid (HI0.out.wr HWd2.out)
  have HXd2 := Lib.hid (HX.out.wr HWd2.out hxc (by decide))
  have hbw2 := Nat.le_trans hBw HWd2.out.size
  have hq2 := texts_new (w := w2.drew) [(5, y5), (6, y6)] HCd2.out hbw2 HXd2.out (by decide) hxc (by simp) (by
    intro x hx
    simp at hx
    rcases hx with rfl | rfl <;> rfl) (by simp only [List.flatMap_cons, List.flatMap_nil, List.length_append, List.append_nil]; omega)
  simp only [List.flatMap_cons, List.flatMap_nil, List.append_nil, ← List.append_assoc, List.map_cons, List.map_nil, List.length_cons, List.length_nil, Nat.zero_add, Nat.reduceAdd] at hq2
  have HQ2 := Lib.hid hq2
  clear hq2
  unfold PutPost at HQ2
  have hcq2 := (HI0.out.wr HW2.out).cell
  go_wp2_with fail
  go_region_held3 (fun w' => w'.cell? ⟨bx, 0, none⟩ = some (.pointer (some ⟨cb, 0, none⟩)))
    (first | exact HJ3.out.cell | exact HId2.out.cell | exact (HId2.out.wr ((Wr.refl B cb w2.drew).alloc (.cells #[.pointer (some ⟨xb, 5, none⟩), .pointer (some ⟨xb, 6, none⟩)] 108) hbw2)).cell)
    (first
      | (go_at_call 53; refine Calls.mono HQ2.out ?_; rintro r w3 ⟨rfl, hc, hw⟩; have HJ3 := Lib.hid (HId2.out.wr hw)))
  have HC3 : Hid (CW B cb (ac ++ wText y0 ++ wText y1 ++ wInt y2 ++ wInt y3 ++ wInt y4 ++ wText y5 ++ wText y6) w3) := hc
  have HW3 : Hid (Wr B cb w w3) := HWd2.out.trans hw
  clear hc hw HQ2 HCd2 HWd2 HId2 HXd2 HJ3 hcq2
  go_wp2
  go_end0
  exact ⟨rfl, HC3.out, HW3.out⟩

set_option maxHeartbeats 8000000 in
set_option maxRecDepth 100000 in
theorem cloExport_w {B cb bx : Nat} {ac : List UInt8} {w : World} (xb : Nat) (x : ExportD) (hI : Inv0 bx cb w) (h : CW B cb ac w) (hBw : B ≤ w.heap.size) (hx : Blk w xb 121 x.parts.toArray) (hxc : xb ≠ cb) (hok : x.Ok) (hlen : ac.length + (wExport x).length ≤ 70368744177664) :
    Calls Tryd.prog 58 #[.pointer (some ⟨xb, 0, none⟩), .pointer (some ⟨bx, 0, none⟩)] w (PutPost B cb w (ac ++ wExport x)) := by
  have HW0 := Lib.hid (Wr.refl B cb w)
  have HC0 := Lib.hid h
  have HI0 := Lib.hid hI
  have HX := Lib.hid hx
  have HWX : Hid (wExport x = wExport x) := rfl
  have hc0 := hI.cell
  have HO3 := Lib.hid hok.f3
  have HO4 := Lib.hid hok.f4
  have HO5 := Lib.hid hok.f5
  clear h hI hx hok
  obtain ⟨y0, y1, y2, y3, y4, y5⟩ := x
  simp only [ExportD.parts] at HX
  simp only at HO3 HO4 HO5
  have HWE : Hid (ac ++ wExport ⟨y0, y1, y2, y3, y4, y5⟩ = ac ++ wText y0 ++ wText y1 ++ wInt (boolI y2) ++ wInt y3 ++ wInt y4 ++ wInt y5) := Lib.hid (by simp [wExport, List.append_assoc])
  have hln : ac.length + ((wText y0).length + (wText y1).length + (wInt (boolI y2)).length + (wInt y3).length + (wInt y4).length + (wInt y5).length) ≤ 70368744177664 := by
    have := hlen
    simp only [wExport, List.length_append] at this
    omega
  rw [HWE.out]
  clear hlen HWE HWX
  unfold PutPost
  go_enter Tryd.func58, Tryd.ntmps58
  have HCd0 : Hid (CW B cb (ac) w.drew) := HC0.out.drew
  have HWd0 : Hid (Wr B cb w w.drew) := HW0.out.drew
  have HId0 := Lib.hid (HI0.out.wr HWd0.out)
  have HXd0 := Lib.hid (HX.out.wr HWd0.out hxc (by decide))
  have hbw0 := Nat.le_trans hBw HWd0.out.size
  have hq0 := texts_new (w := w.drew) [(0, y0), (1, y1)] HCd0.out hbw0 HXd0.out (by decide) hxc (by simp) (by
    intro x hx
    simp at hx
    rcases hx with rfl | rfl <;> rfl) (by simp only [List.flatMap_cons, List.flatMap_nil, List.length_append, List.append_nil]; omega)
  simp only [List.flatMap_cons, List.flatMap_nil, List.append_nil, ← List.append_assoc, List.map_cons, List.map_nil, List.length_cons, List.length_nil, Nat.zero_add, Nat.reduceAdd] at hq0
  have HQ0 := Lib.hid hq0
  clear hq0
  unfold PutPost at HQ0
  go_wp2_with fail
  go_region_held3 (fun w' => w'.cell? ⟨bx, 0, none⟩ = some (.pointer (some ⟨cb, 0, none⟩)))
    (first | exact HJ1.out.cell | exact HId0.out.cell | exact (HId0.out.wr ((Wr.refl B cb w.drew).alloc (.cells #[.pointer (some ⟨xb, 0, none⟩), .pointer (some ⟨xb, 1, none⟩)] 108) hbw0)).cell)
    (first
      | (go_at_call 53; refine Calls.mono HQ0.out ?_; rintro r w1 ⟨rfl, hc, hw⟩; have HJ1 := Lib.hid (HId0.out.wr hw)))
  have HC1 : Hid (CW B cb (ac ++ wText y0 ++ wText y1) w1) := hc
  have HW1 : Hid (Wr B cb w w1) := HWd0.out.trans hw
  clear hc hw HQ0 HCd0 HWd0 HId0 HXd0 HJ1 hc0
  have HCd1 : Hid (CW B cb (ac ++ wText y0 ++ wText y1) w1.drew) := HC1.out.drew
  have HWd1 : Hid (Wr B cb w w1.drew) := HW1.out.drew
  have HId1 := Lib.hid (HI0.out.wr HWd1.out)
  have HXd1 := Lib.hid (HX.out.wr HWd1.out hxc (by decide))
  have hbw1 := Nat.le_trans hBw HWd1.out.size
  have HQ1 := Lib.hid (bool_w (i := 2) y2 HCd1.out hbw1 HXd1.out (by decide) hxc rfl (by simp only [List.length_append]; omega))
  unfold PutPost at HQ1
  have hcq1 := (HI0.out.wr HW1.out).cell
  go_wp2_with fail
  go_region_held3 (fun w' => w'.cell? ⟨bx, 0, none⟩ = some (.pointer (some ⟨cb, 0, none⟩)))
    (first | exact HJ2.out.cell | exact HId1.out.cell)
    (first
      | (go_at_call 54; refine Calls.mono HQ1.out ?_; rintro r w2 ⟨rfl, hc, hw⟩; have HJ2 := Lib.hid (HId1.out.wr hw)))
  have HC2 : Hid (CW B cb (ac ++ wText y0 ++ wText y1 ++ wInt (boolI y2)) w2) := hc
  have HW2 : Hid (Wr B cb w w2) := HWd1.out.trans hw
  clear hc hw HQ1 HCd1 HWd1 HId1 HXd1 HJ2 hcq1
  have HCd2 : Hid (CW B cb (ac ++ wText y0 ++ wText y1 ++ wInt (boolI y2)) w2.drew) := HC2.out.drew
  have HWd2 : Hid (Wr B cb w w2.drew) := HW2.out.drew
  have HId2 := Lib.hid (HI0.out.wr HWd2.out)
  have HXd2 := Lib.hid (HX.out.wr HWd2.out hxc (by decide))
  have hbw2 := Nat.le_trans hBw HWd2.out.size
  have hq2 := ints_new (w := w2.drew) [(3, y3), (4, y4), (5, y5)] HCd2.out hbw2 HXd2.out (by decide) hxc (by simp) (by
    intro x hx
    simp at hx
    rcases hx with rfl | rfl | rfl <;> rfl) (by
    intro x hx
    simp at hx
    rcases hx with rfl | rfl | rfl
    · exact HO3.out
    · exact HO4.out
    · exact HO5.out) (by simp only [List.flatMap_cons, List.flatMap_nil, List.length_append, List.append_nil]; omega)
  simp only [List.flatMap_cons, List.flatMap_nil, List.append_nil, ← List.append_assoc, List.map_cons, List.map_nil, List.length_cons, List.length_nil, Nat.zero_add, Nat.reduceAdd] at hq2
  have HQ2 := Lib.hid hq2
  clear hq2
  unfold PutPost at HQ2
  have hcq2 := (HI0.out.wr HW2.out).cell
  go_wp2_with fail
  go_region_held3 (fun w' => w'.cell? ⟨bx, 0, none⟩ = some (.pointer (some ⟨cb, 0, none⟩)))
    (first | exact HJ3.out.cell | exact HId2.out.cell | exact (HId2.out.wr ((Wr.refl B cb w2.drew).alloc (.cells #[.pointer (some ⟨xb, 3, none⟩), .pointer (some ⟨xb, 4, none⟩), .pointer (some ⟨xb, 5, none⟩)] 105) hbw2)).cell)
    (first
      | (go_at_call 51; refine Calls.mono HQ2.out ?_; rintro r w3 ⟨rfl, hc, hw⟩; have HJ3 := Lib.hid (HId2.out.wr hw)))
  have HC3 : Hid (CW B cb (ac ++ wText y0 ++ wText y1 ++ wInt (boolI y2) ++ wInt y3 ++ wInt y4 ++ wInt y5) w3) := hc
  have HW3 : Hid (Wr B cb w w3) := HWd2.out.trans hw
  clear hc hw HQ2 HCd2 HWd2 HId2 HXd2 HJ3 hcq2
  go_wp2
  go_end0
  exact ⟨rfl, HC3.out, HW3.out⟩

set_option maxHeartbeats 8000000 in
set_option maxRecDepth 100000 in
theorem cloImport_w {B cb bx : Nat} {ac : List UInt8} {w : World} (xb : Nat) (x : ImportD) (hI : Inv0 bx cb w) (h : CW B cb ac w) (hBw : B ≤ w.heap.size) (hx : Blk w xb 127 x.parts.toArray) (hxc : xb ≠ cb) (hok : x.Ok) (hlen : ac.length + (wImport x).length ≤ 70368744177664) :
    Calls Tryd.prog 60 #[.pointer (some ⟨xb, 0, none⟩), .pointer (some ⟨bx, 0, none⟩)] w (PutPost B cb w (ac ++ wImport x)) := by
  have HW0 := Lib.hid (Wr.refl B cb w)
  have HC0 := Lib.hid h
  have HI0 := Lib.hid hI
  have HX := Lib.hid hx
  have HWX : Hid (wImport x = wImport x) := rfl
  have hc0 := hI.cell
  have HO2 := Lib.hid hok.f2
  clear h hI hx hok
  obtain ⟨y0, y1, y2, y3, y4⟩ := x
  simp only [ImportD.parts] at HX
  simp only at HO2
  have HWE : Hid (ac ++ wImport ⟨y0, y1, y2, y3, y4⟩ = ac ++ wText y0 ++ wText y1 ++ wInt y2 ++ wInt (boolI y3) ++ wInt (boolI y4)) := Lib.hid (by simp [wImport, List.append_assoc])
  have hln : ac.length + ((wText y0).length + (wText y1).length + (wInt y2).length + (wInt (boolI y3)).length + (wInt (boolI y4)).length) ≤ 70368744177664 := by
    have := hlen
    simp only [wImport, List.length_append] at this
    omega
  rw [HWE.out]
  clear hlen HWE HWX
  unfold PutPost
  go_enter Tryd.func60, Tryd.ntmps60
  have HCd0 : Hid (CW B cb (ac) w.drew) := HC0.out.drew
  have HWd0 : Hid (Wr B cb w w.drew) := HW0.out.drew
  have HId0 := Lib.hid (HI0.out.wr HWd0.out)
  have HXd0 := Lib.hid (HX.out.wr HWd0.out hxc (by decide))
  have hbw0 := Nat.le_trans hBw HWd0.out.size
  have hq0 := texts_new (w := w.drew) [(0, y0), (1, y1)] HCd0.out hbw0 HXd0.out (by decide) hxc (by simp) (by
    intro x hx
    simp at hx
    rcases hx with rfl | rfl <;> rfl) (by simp only [List.flatMap_cons, List.flatMap_nil, List.length_append, List.append_nil]; omega)
  simp only [List.flatMap_cons, List.flatMap_nil, List.append_nil, ← List.append_assoc, List.map_cons, List.map_nil, List.length_cons, List.length_nil, Nat.zero_add, Nat.reduceAdd] at hq0
  have HQ0 := Lib.hid hq0
  clear hq0
  unfold PutPost at HQ0
  go_wp2_with fail
  go_region_held3 (fun w' => w'.cell? ⟨bx, 0, none⟩ = some (.pointer (some ⟨cb, 0, none⟩)))
    (first | exact HJ1.out.cell | exact HId0.out.cell | exact (HId0.out.wr ((Wr.refl B cb w.drew).alloc (.cells #[.pointer (some ⟨xb, 0, none⟩), .pointer (some ⟨xb, 1, none⟩)] 108) hbw0)).cell)
    (first
      | (go_at_call 53; refine Calls.mono HQ0.out ?_; rintro r w1 ⟨rfl, hc, hw⟩; have HJ1 := Lib.hid (HId0.out.wr hw)))
  have HC1 : Hid (CW B cb (ac ++ wText y0 ++ wText y1) w1) := hc
  have HW1 : Hid (Wr B cb w w1) := HWd0.out.trans hw
  clear hc hw HQ0 HCd0 HWd0 HId0 HXd0 HJ1 hc0
  have HCd1 : Hid (CW B cb (ac ++ wText y0 ++ wText y1) w1.drew) := HC1.out.drew
  have HWd1 : Hid (Wr B cb w w1.drew) := HW1.out.drew
  have HId1 := Lib.hid (HI0.out.wr HWd1.out)
  have HXd1 := Lib.hid (HX.out.wr HWd1.out hxc (by decide))
  have hbw1 := Nat.le_trans hBw HWd1.out.size
  have hq1 := ints_new (w := w1.drew) [(2, y2)] HCd1.out hbw1 HXd1.out (by decide) hxc (by simp) (by
    intro x hx
    simp at hx
    subst hx
    rfl) (by
    intro x hx
    simp at hx
    subst hx
    exact HO2.out) (by simp only [List.flatMap_cons, List.flatMap_nil, List.length_append, List.append_nil]; omega)
  simp only [List.flatMap_cons, List.flatMap_nil, List.append_nil, ← List.append_assoc, List.map_cons, List.map_nil, List.length_cons, List.length_nil, Nat.zero_add, Nat.reduceAdd] at hq1
  have HQ1 := Lib.hid hq1
  clear hq1
  unfold PutPost at HQ1
  have hcq1 := (HI0.out.wr HW1.out).cell
  go_wp2_with fail
  go_region_held3 (fun w' => w'.cell? ⟨bx, 0, none⟩ = some (.pointer (some ⟨cb, 0, none⟩)))
    (first | exact HJ2.out.cell | exact HId1.out.cell | exact (HId1.out.wr ((Wr.refl B cb w1.drew).alloc (.cells #[.pointer (some ⟨xb, 2, none⟩)] 105) hbw1)).cell)
    (first
      | (go_at_call 51; refine Calls.mono HQ1.out ?_; rintro r w2 ⟨rfl, hc, hw⟩; have HJ2 := Lib.hid (HId1.out.wr hw)))
  have HC2 : Hid (CW B cb (ac ++ wText y0 ++ wText y1 ++ wInt y2) w2) := hc
  have HW2 : Hid (Wr B cb w w2) := HWd1.out.trans hw
  clear hc hw HQ1 HCd1 HWd1 HId1 HXd1 HJ2 hcq1
  have HCd2 : Hid (CW B cb (ac ++ wText y0 ++ wText y1 ++ wInt y2) w2.drew) := HC2.out.drew
  have HWd2 : Hid (Wr B cb w w2.drew) := HW2.out.drew
  have HId2 := Lib.hid (HI0.out.wr HWd2.out)
  have HXd2 := Lib.hid (HX.out.wr HWd2.out hxc (by decide))
  have hbw2 := Nat.le_trans hBw HWd2.out.size
  have HQ2 := Lib.hid (bool_w (i := 3) y3 HCd2.out hbw2 HXd2.out (by decide) hxc rfl (by simp only [List.length_append]; omega))
  unfold PutPost at HQ2
  have hcq2 := (HI0.out.wr HW2.out).cell
  go_wp2_with fail
  go_region_held3 (fun w' => w'.cell? ⟨bx, 0, none⟩ = some (.pointer (some ⟨cb, 0, none⟩)))
    (first | exact HJ3.out.cell | exact HId2.out.cell)
    (first
      | (go_at_call 54; refine Calls.mono HQ2.out ?_; rintro r w3 ⟨rfl, hc, hw⟩; have HJ3 := Lib.hid (HId2.out.wr hw)))
  have HC3 : Hid (CW B cb (ac ++ wText y0 ++ wText y1 ++ wInt y2 ++ wInt (boolI y3)) w3) := hc
  have HW3 : Hid (Wr B cb w w3) := HWd2.out.trans hw
  clear hc hw HQ2 HCd2 HWd2 HId2 HXd2 HJ3 hcq2
  have HCd3 : Hid (CW B cb (ac ++ wText y0 ++ wText y1 ++ wInt y2 ++ wInt (boolI y3)) w3.drew) := HC3.out.drew
  have HWd3 : Hid (Wr B cb w w3.drew) := HW3.out.drew
  have HId3 := Lib.hid (HI0.out.wr HWd3.out)
  have HXd3 := Lib.hid (HX.out.wr HWd3.out hxc (by decide))
  have hbw3 := Nat.le_trans hBw HWd3.out.size
  have HQ3 := Lib.hid (bool_w (i := 4) y4 HCd3.out hbw3 HXd3.out (by decide) hxc rfl (by simp only [List.length_append]; omega))
  unfold PutPost at HQ3
  have hcq3 := (HI0.out.wr HW3.out).cell
  go_wp2_with fail
  go_region_held3 (fun w' => w'.cell? ⟨bx, 0, none⟩ = some (.pointer (some ⟨cb, 0, none⟩)))
    (first | exact HJ4.out.cell | exact HId3.out.cell)
    (first
      | (go_at_call 54; refine Calls.mono HQ3.out ?_; rintro r w4 ⟨rfl, hc, hw⟩; have HJ4 := Lib.hid (HId3.out.wr hw)))
  have HC4 : Hid (CW B cb (ac ++ wText y0 ++ wText y1 ++ wInt y2 ++ wInt (boolI y3) ++ wInt (boolI y4)) w4) := hc
  have HW4 : Hid (Wr B cb w w4) := HWd3.out.trans hw
  clear hc hw HQ3 HCd3 HWd3 HId3 HXd3 HJ4 hcq3
  go_wp2
  go_end0
  exact ⟨rfl, HC4.out, HW4.out⟩

set_option maxHeartbeats 8000000 in
set_option maxRecDepth 100000 in
theorem cloDyn_w {B cb bx : Nat} {ac : List UInt8} {w : World} (xb : Nat) (x : DynD) (hI : Inv0 bx cb w) (h : CW B cb ac w) (hBw : B ≤ w.heap.size) (hx : Blk w xb 135 x.parts.toArray) (hxc : xb ≠ cb) (hok : x.Ok) (hlen : ac.length + (wDyn x).length ≤ 70368744177664) :
    Calls Tryd.prog 63 #[.pointer (some ⟨xb, 0, none⟩), .pointer (some ⟨bx, 0, none⟩)] w (PutPost B cb w (ac ++ wDyn x)) := by
  have HW0 := Lib.hid (Wr.refl B cb w)
  have HC0 := Lib.hid h
  have HI0 := Lib.hid hI
  have HX := Lib.hid hx
  have HWX : Hid (wDyn x = wDyn x) := rfl
  have hc0 := hI.cell
  have HO0 := Lib.hid hok.f0
  have HO1 := Lib.hid hok.f1
  have HO2 := Lib.hid hok.f2
  have HO3 := Lib.hid hok.f3
  clear h hI hx hok
  obtain ⟨y0, y1, y2, y3⟩ := x
  simp only [DynD.parts] at HX
  simp only at HO0 HO1 HO2 HO3
  have HWE : Hid (ac ++ wDyn ⟨y0, y1, y2, y3⟩ = ac ++ wInt y0 ++ wInt y1 ++ wInt y2 ++ wInt y3) := Lib.hid (by simp [wDyn, List.append_assoc])
  have hln : ac.length + ((wInt y0).length + (wInt y1).length + (wInt y2).length + (wInt y3).length) ≤ 70368744177664 := by
    have := hlen
    simp only [wDyn, List.length_append] at this
    omega
  rw [HWE.out]
  clear hlen HWE HWX
  unfold PutPost
  go_enter Tryd.func63, Tryd.ntmps63
  have HCd0 : Hid (CW B cb (ac) w.drew) := HC0.out.drew
  have HWd0 : Hid (Wr B cb w w.drew) := HW0.out.drew
  have HId0 := Lib.hid (HI0.out.wr HWd0.out)
  have HXd0 := Lib.hid (HX.out.wr HWd0.out hxc (by decide))
  have hbw0 := Nat.le_trans hBw HWd0.out.size
  have hq0 := ints_new (w := w.drew) [(0, y0), (1, y1), (2, y2), (3, y3)] HCd0.out hbw0 HXd0.out (by decide) hxc (by simp) (by
    intro x hx
    simp at hx
    rcases hx with rfl | rfl | rfl | rfl <;> rfl) (by
    intro x hx
    simp at hx
    rcases hx with rfl | rfl | rfl | rfl
    · exact HO0.out
    · exact HO1.out
    · exact HO2.out
    · exact HO3.out) (by simp only [List.flatMap_cons, List.flatMap_nil, List.length_append, List.append_nil]; omega)
  simp only [List.flatMap_cons, List.flatMap_nil, List.append_nil, ← List.append_assoc, List.map_cons, List.map_nil, List.length_cons, List.length_nil, Nat.zero_add, Nat.reduceAdd] at hq0
  have HQ0 := Lib.hid hq0
  clear hq0
  unfold PutPost at HQ0
  go_wp2_with fail
  go_region_held3 (fun w' => w'.cell? ⟨bx, 0, none⟩ = some (.pointer (some ⟨cb, 0, none⟩)))
    (first | exact HJ1.out.cell | exact HId0.out.cell | exact (HId0.out.wr ((Wr.refl B cb w.drew).alloc (.cells #[.pointer (some ⟨xb, 0, none⟩), .pointer (some ⟨xb, 1, none⟩), .pointer (some ⟨xb, 2, none⟩), .pointer (some ⟨xb, 3, none⟩)] 105) hbw0)).cell)
    (first
      | (go_at_call 51; refine Calls.mono HQ0.out ?_; rintro r w1 ⟨rfl, hc, hw⟩; have HJ1 := Lib.hid (HId0.out.wr hw)))
  have HC1 : Hid (CW B cb (ac ++ wInt y0 ++ wInt y1 ++ wInt y2 ++ wInt y3) w1) := hc
  have HW1 : Hid (Wr B cb w w1) := HWd0.out.trans hw
  clear hc hw HQ0 HCd0 HWd0 HId0 HXd0 HJ1 hc0
  go_wp2
  go_end0
  exact ⟨rfl, HC1.out, HW1.out⟩

set_option maxHeartbeats 8000000 in
set_option maxRecDepth 100000 in
theorem cloVerDef_w {B cb bx tx bb : Nat} {ac : List UInt8} {w : World} (xb : Nat) (x : VerDefD) (hI : Inv1 bx tx cb w) (h : CW B cb ac w) (hBw : B ≤ w.heap.size) (hx : Blk w xb 143 x.parts.toArray) (hxc : xb ≠ cb) (hok : x.Ok) (hn : x.f1.In 1 StrD.parts w bb) (hbb : bb ≤ B) (hlen : ac.length + (wVerDef x).length ≤ 70368744177664) :
    Calls Tryd.prog 66 #[.pointer (some ⟨xb, 0, none⟩), .pointer (some ⟨bx, 0, none⟩), .pointer (some ⟨tx, 0, none⟩)] w (PutPost B cb w (ac ++ wVerDef x)) := by
  have HW0 := Lib.hid (Wr.refl B cb w)
  have HC0 := Lib.hid h
  have HI0 := Lib.hid hI
  have HX := Lib.hid hx
  have HWX : Hid (wVerDef x = wVerDef x) := rfl
  have hc0 := hI.cell
  have HO1 := Lib.hid hok.f1
  have HN := Lib.hid hn
  clear h hI hx hok hn
  obtain ⟨y0, y1⟩ := x
  simp only [VerDefD.parts] at HX
  simp only at HO1 HN
  have HWE : Hid (ac ++ wVerDef ⟨y0, y1⟩ = ac ++ wText y0 ++ wList wStr y1.xs) := Lib.hid (by simp [wVerDef, List.append_assoc])
  have hln : ac.length + ((wText y0).length + (wList wStr y1.xs).length) ≤ 70368744177664 := by
    have := hlen
    simp only [wVerDef, List.length_append] at this
    omega
  rw [HWE.out]
  clear hlen HWE HWX
  unfold PutPost
  go_enter Tryd.func66, Tryd.ntmps66
  have HCd0 : Hid (CW B cb (ac) w.drew) := HC0.out.drew
  have HWd0 : Hid (Wr B cb w w.drew) := HW0.out.drew
  have HId0 := Lib.hid (HI0.out.wr HWd0.out)
  have HXd0 := Lib.hid (HX.out.wr HWd0.out hxc (by decide))
  have hbw0 := Nat.le_trans hBw HWd0.out.size
  have hq0 := texts_new (w := w.drew) [(0, y0)] HCd0.out hbw0 HXd0.out (by decide) hxc (by simp) (by
    intro x hx
    simp at hx
    subst hx
    rfl) (by simp only [List.flatMap_cons, List.flatMap_nil, List.length_append, List.append_nil]; omega)
  simp only [List.flatMap_cons, List.flatMap_nil, List.append_nil, ← List.append_assoc, List.map_cons, List.map_nil, List.length_cons, List.length_nil, Nat.zero_add, Nat.reduceAdd] at hq0
  have HQ0 := Lib.hid hq0
  clear hq0
  unfold PutPost at HQ0
  go_wp2_with fail
  go_region_held3 (fun w' => w'.cell? ⟨bx, 0, none⟩ = some (.pointer (some ⟨cb, 0, none⟩)) ∧ w'.cell? ⟨tx, 0, none⟩ = some (.func (.func 52) #[] #[.pointer (some ⟨bx, 0, none⟩)]))
    (first | exact ⟨HJ1.out.cell, HJ1.out.tcell⟩ | exact ⟨HId0.out.cell, HId0.out.tcell⟩ | exact ⟨(HId0.out.wr ((Wr.refl B cb w.drew).alloc (.cells #[.pointer (some ⟨xb, 0, none⟩)] 108) hbw0)).cell, (HId0.out.wr ((Wr.refl B cb w.drew).alloc (.cells #[.pointer (some ⟨xb, 0, none⟩)] 108) hbw0)).tcell⟩)
    (first
      | (go_at_call 53; refine Calls.mono HQ0.out ?_; rintro r w1 ⟨rfl, hc, hw⟩; have HJ1 := Lib.hid (HId0.out.wr hw)))
  have HC1 : Hid (CW B cb (ac ++ wText y0) w1) := hc
  have HW1 : Hid (Wr B cb w w1) := HWd0.out.trans hw
  clear hc hw HQ0 HCd0 HWd0 HId0 HXd0 HJ1 hc0
  have HCd1 : Hid (CW B cb (ac ++ wText y0) w1.drew) := HC1.out.drew
  have HWd1 : Hid (Wr B cb w w1.drew) := HW1.out.drew
  have HId1 := Lib.hid (HI0.out.wr HWd1.out)
  have HXd1 := Lib.hid (HX.out.wr HWd1.out hxc (by decide))
  have hbw1 := Nat.le_trans hBw HWd1.out.size
  have HQ1 := Lib.hid (listStr_w (B := B) (cb := cb) (bx := bb) (Inv0 bx cb) ⟨bx, 0, none⟩ y1 xb 1 (Inv0.keeps B bx cb) HId1.out.1 HCd1.out hbw1 HXd1.out (by decide) hxc rfl (HN.out.below (HWd1.out.below.mono hbb)) hbb (fun z hz wx a2 xb2 i2 c2 b2 k2 n2 l2 => cloStr_w xb2 z i2 c2 b2 k2 n2 (HO1.out z hz) l2) (by simp only [List.length_append]; omega))
  unfold PutPost at HQ1
  have hcq1 := (HI0.out.wr HW1.out).cell
  go_wp2_with fail
  go_region_held3 (fun w' => w'.cell? ⟨bx, 0, none⟩ = some (.pointer (some ⟨cb, 0, none⟩)) ∧ w'.cell? ⟨tx, 0, none⟩ = some (.func (.func 52) #[] #[.pointer (some ⟨bx, 0, none⟩)]))
    (first | exact ⟨HJ2.out.cell, HJ2.out.tcell⟩ | exact ⟨HId1.out.cell, HId1.out.tcell⟩)
    (first
      | (go_at_call 64; refine Calls.mono HQ1.out ?_; rintro r w2 ⟨rfl, hc, hw⟩; have HJ2 := Lib.hid (HId1.out.wr hw)))
  have HC2 : Hid (CW B cb (ac ++ wText y0 ++ wList wStr y1.xs) w2) := hc
  have HW2 : Hid (Wr B cb w w2) := HWd1.out.trans hw
  clear hc hw HQ1 HCd1 HWd1 HId1 HXd1 HJ2 hcq1
  go_wp2
  go_end0
  exact ⟨rfl, HC2.out, HW2.out⟩

set_option maxHeartbeats 8000000 in
set_option maxRecDepth 100000 in
theorem cloConv_w {B cb bx bb : Nat} {ac : List UInt8} {w : World} (xb : Nat) (x : ConvD) (hI : Inv0 bx cb w) (h : CW B cb ac w) (hBw : B ≤ w.heap.size) (hx : Blk w xb 152 x.parts.toArray) (hxc : xb ≠ cb) (hok : x.Ok) (hn : x.f3.In 3 PieceD.parts w bb) (hbb : bb ≤ B) (hlen : ac.length + (wConv x).length ≤ 70368744177664) :
    Calls Tryd.prog 69 #[.pointer (some ⟨xb, 0, none⟩), .pointer (some ⟨bx, 0, none⟩)] w (PutPost B cb w (ac ++ wConv x)) := by
  have HW0 := Lib.hid (Wr.refl B cb w)
  have HC0 := Lib.hid h
  have HI0 := Lib.hid hI
  have HX := Lib.hid hx
  have HWX : Hid (wConv x = wConv x) := rfl
  have hc0 := hI.cell
  have HO3 := Lib.hid hok.f3
  have HN := Lib.hid hn
  have HO4 := Lib.hid hok.f4
  clear h hI hx hok hn
  obtain ⟨y0, y1, y2, y3, y4⟩ := x
  simp only [ConvD.parts] at HX
  simp only at HO3 HO4 HN
  have HWE : Hid (ac ++ wConv ⟨y0, y1, y2, y3, y4⟩ = ac ++ wText y0 ++ wText y1 ++ wText y2 ++ wList wPiece y3.xs ++ wInt y4) := Lib.hid (by simp [wConv, List.append_assoc])
  have hln : ac.length + ((wText y0).length + (wText y1).length + (wText y2).length + (wList wPiece y3.xs).length + (wInt y4).length) ≤ 70368744177664 := by
    have := hlen
    simp only [wConv, List.length_append] at this
    omega
  rw [HWE.out]
  clear hlen HWE HWX
  unfold PutPost
  go_enter Tryd.func69, Tryd.ntmps69
  have HCd0 : Hid (CW B cb (ac) w.drew) := HC0.out.drew
  have HWd0 : Hid (Wr B cb w w.drew) := HW0.out.drew
  have HId0 := Lib.hid (HI0.out.wr HWd0.out)
  have HXd0 := Lib.hid (HX.out.wr HWd0.out hxc (by decide))
  have hbw0 := Nat.le_trans hBw HWd0.out.size
  have hq0 := texts_new (w := w.drew) [(0, y0), (1, y1), (2, y2)] HCd0.out hbw0 HXd0.out (by decide) hxc (by simp) (by
    intro x hx
    simp at hx
    rcases hx with rfl | rfl | rfl <;> rfl) (by simp only [List.flatMap_cons, List.flatMap_nil, List.length_append, List.append_nil]; omega)
  simp only [List.flatMap_cons, List.flatMap_nil, List.append_nil, ← List.append_assoc, List.map_cons, List.map_nil, List.length_cons, List.length_nil, Nat.zero_add, Nat.reduceAdd] at hq0
  have HQ0 := Lib.hid hq0
  clear hq0
  unfold PutPost at HQ0
  go_wp2_with fail
  go_region_held3 (fun w' => w'.cell? ⟨bx, 0, none⟩ = some (.pointer (some ⟨cb, 0, none⟩)))
    (first | exact HJ1.out.cell | exact HId0.out.cell | exact (HId0.out.wr ((Wr.refl B cb w.drew).alloc (.cells #[.pointer (some ⟨xb, 0, none⟩), .pointer (some ⟨xb, 1, none⟩), .pointer (some ⟨xb, 2, none⟩)] 108) hbw0)).cell)
    (first
      | (go_at_call 53; refine Calls.mono HQ0.out ?_; rintro r w1 ⟨rfl, hc, hw⟩; have HJ1 := Lib.hid (HId0.out.wr hw)))
  have HC1 : Hid (CW B cb (ac ++ wText y0 ++ wText y1 ++ wText y2) w1) := hc
  have HW1 : Hid (Wr B cb w w1) := HWd0.out.trans hw
  clear hc hw HQ0 HCd0 HWd0 HId0 HXd0 HJ1 hc0
  have HCd1 : Hid (CW B cb (ac ++ wText y0 ++ wText y1 ++ wText y2) w1.drew) := HC1.out.drew
  have HWd1 : Hid (Wr B cb w w1.drew) := HW1.out.drew
  have HId1 := Lib.hid (HI0.out.wr HWd1.out)
  have HXd1 := Lib.hid (HX.out.wr HWd1.out hxc (by decide))
  have hbw1 := Nat.le_trans hBw HWd1.out.size
  have HQ1 := Lib.hid (listPiece_w (B := B) (cb := cb) (bx := bb) (Inv0 bx cb) ⟨bx, 0, none⟩ y3 xb 3 (Inv0.keeps B bx cb) HId1.out HCd1.out hbw1 HXd1.out (by decide) hxc rfl (HN.out.below (HWd1.out.below.mono hbb)) hbb (fun z hz wx a2 xb2 i2 c2 b2 k2 n2 l2 => cloPiece_w xb2 z i2 c2 b2 k2 n2 (HO3.out z hz) l2) (by simp only [List.length_append]; omega))
  unfold PutPost at HQ1
  have hcq1 := (HI0.out.wr HW1.out).cell
  go_wp2_with fail
  go_region_held3 (fun w' => w'.cell? ⟨bx, 0, none⟩ = some (.pointer (some ⟨cb, 0, none⟩)))
    (first | exact HJ2.out.cell | exact HId1.out.cell)
    (first
      | (go_at_call 70; refine Calls.mono HQ1.out ?_; rintro r w2 ⟨rfl, hc, hw⟩; have HJ2 := Lib.hid (HId1.out.wr hw)))
  have HC2 : Hid (CW B cb (ac ++ wText y0 ++ wText y1 ++ wText y2 ++ wList wPiece y3.xs) w2) := hc
  have HW2 : Hid (Wr B cb w w2) := HWd1.out.trans hw
  clear hc hw HQ1 HCd1 HWd1 HId1 HXd1 HJ2 hcq1
  have HCd2 : Hid (CW B cb (ac ++ wText y0 ++ wText y1 ++ wText y2 ++ wList wPiece y3.xs) w2.drew) := HC2.out.drew
  have HWd2 : Hid (Wr B cb w w2.drew) := HW2.out.drew
  have HId2 := Lib.hid (HI0.out.wr HWd2.out)
  have HXd2 := Lib.hid (HX.out.wr HWd2.out hxc (by decide))
  have hbw2 := Nat.le_trans hBw HWd2.out.size
  have hq2 := ints_new (w := w2.drew) [(4, y4)] HCd2.out hbw2 HXd2.out (by decide) hxc (by simp) (by
    intro x hx
    simp at hx
    subst hx
    rfl) (by
    intro x hx
    simp at hx
    subst hx
    exact HO4.out) (by simp only [List.flatMap_cons, List.flatMap_nil, List.length_append, List.append_nil]; omega)
  simp only [List.flatMap_cons, List.flatMap_nil, List.append_nil, ← List.append_assoc, List.map_cons, List.map_nil, List.length_cons, List.length_nil, Nat.zero_add, Nat.reduceAdd] at hq2
  have HQ2 := Lib.hid hq2
  clear hq2
  unfold PutPost at HQ2
  have hcq2 := (HI0.out.wr HW2.out).cell
  go_wp2_with fail
  go_region_held3 (fun w' => w'.cell? ⟨bx, 0, none⟩ = some (.pointer (some ⟨cb, 0, none⟩)))
    (first | exact HJ3.out.cell | exact HId2.out.cell | exact (HId2.out.wr ((Wr.refl B cb w2.drew).alloc (.cells #[.pointer (some ⟨xb, 4, none⟩)] 105) hbw2)).cell)
    (first
      | (go_at_call 51; refine Calls.mono HQ2.out ?_; rintro r w3 ⟨rfl, hc, hw⟩; have HJ3 := Lib.hid (HId2.out.wr hw)))
  have HC3 : Hid (CW B cb (ac ++ wText y0 ++ wText y1 ++ wText y2 ++ wList wPiece y3.xs ++ wInt y4) w3) := hc
  have HW3 : Hid (Wr B cb w w3) := HWd2.out.trans hw
  clear hc hw HQ2 HCd2 HWd2 HId2 HXd2 HJ3 hcq2
  go_wp2
  go_end0
  exact ⟨rfl, HC3.out, HW3.out⟩

set_option maxHeartbeats 8000000 in
set_option maxRecDepth 100000 in
theorem cloMark_w {B cb bx : Nat} {ac : List UInt8} {w : World} (xb : Nat) (x : MarkD) (hI : Inv0 bx cb w) (h : CW B cb ac w) (hBw : B ≤ w.heap.size) (hx : Blk w xb 173 x.parts.toArray) (hxc : xb ≠ cb) (hok : x.Ok) (hlen : ac.length + (wMark x).length ≤ 70368744177664) :
    Calls Tryd.prog 78 #[.pointer (some ⟨xb, 0, none⟩), .pointer (some ⟨bx, 0, none⟩)] w (PutPost B cb w (ac ++ wMark x)) := by
  have HW0 := Lib.hid (Wr.refl B cb w)
  have HC0 := Lib.hid h
  have HI0 := Lib.hid hI
  have HX := Lib.hid hx
  have HWX : Hid (wMark x = wMark x) := rfl
  have hc0 := hI.cell
  have HO1 := Lib.hid hok.f1
  have HO2 := Lib.hid hok.f2
  have HO3 := Lib.hid hok.f3
  clear h hI hx hok
  obtain ⟨y0, y1, y2, y3⟩ := x
  simp only [MarkD.parts] at HX
  simp only at HO1 HO2 HO3
  have HWE : Hid (ac ++ wMark ⟨y0, y1, y2, y3⟩ = ac ++ wText y0 ++ wInt y1 ++ wInt y2 ++ wInt y3) := Lib.hid (by simp [wMark, List.append_assoc])
  have hln : ac.length + ((wText y0).length + (wInt y1).length + (wInt y2).length + (wInt y3).length) ≤ 70368744177664 := by
    have := hlen
    simp only [wMark, List.length_append] at this
    omega
  rw [HWE.out]
  clear hlen HWE HWX
  unfold PutPost
  go_enter Tryd.func78, Tryd.ntmps78
  have HCd0 : Hid (CW B cb (ac) w.drew) := HC0.out.drew
  have HWd0 : Hid (Wr B cb w w.drew) := HW0.out.drew
  have HId0 := Lib.hid (HI0.out.wr HWd0.out)
  have HXd0 := Lib.hid (HX.out.wr HWd0.out hxc (by decide))
  have hbw0 := Nat.le_trans hBw HWd0.out.size
  have hq0 := texts_new (w := w.drew) [(0, y0)] HCd0.out hbw0 HXd0.out (by decide) hxc (by simp) (by
    intro x hx
    simp at hx
    subst hx
    rfl) (by simp only [List.flatMap_cons, List.flatMap_nil, List.length_append, List.append_nil]; omega)
  simp only [List.flatMap_cons, List.flatMap_nil, List.append_nil, ← List.append_assoc, List.map_cons, List.map_nil, List.length_cons, List.length_nil, Nat.zero_add, Nat.reduceAdd] at hq0
  have HQ0 := Lib.hid hq0
  clear hq0
  unfold PutPost at HQ0
  go_wp2_with fail
  go_region_held3 (fun w' => w'.cell? ⟨bx, 0, none⟩ = some (.pointer (some ⟨cb, 0, none⟩)))
    (first | exact HJ1.out.cell | exact HId0.out.cell | exact (HId0.out.wr ((Wr.refl B cb w.drew).alloc (.cells #[.pointer (some ⟨xb, 0, none⟩)] 108) hbw0)).cell)
    (first
      | (go_at_call 53; refine Calls.mono HQ0.out ?_; rintro r w1 ⟨rfl, hc, hw⟩; have HJ1 := Lib.hid (HId0.out.wr hw)))
  have HC1 : Hid (CW B cb (ac ++ wText y0) w1) := hc
  have HW1 : Hid (Wr B cb w w1) := HWd0.out.trans hw
  clear hc hw HQ0 HCd0 HWd0 HId0 HXd0 HJ1 hc0
  have HCd1 : Hid (CW B cb (ac ++ wText y0) w1.drew) := HC1.out.drew
  have HWd1 : Hid (Wr B cb w w1.drew) := HW1.out.drew
  have HId1 := Lib.hid (HI0.out.wr HWd1.out)
  have HXd1 := Lib.hid (HX.out.wr HWd1.out hxc (by decide))
  have hbw1 := Nat.le_trans hBw HWd1.out.size
  have hq1 := ints_new (w := w1.drew) [(1, y1), (2, y2), (3, y3)] HCd1.out hbw1 HXd1.out (by decide) hxc (by simp) (by
    intro x hx
    simp at hx
    rcases hx with rfl | rfl | rfl <;> rfl) (by
    intro x hx
    simp at hx
    rcases hx with rfl | rfl | rfl
    · exact HO1.out
    · exact HO2.out
    · exact HO3.out) (by simp only [List.flatMap_cons, List.flatMap_nil, List.length_append, List.append_nil]; omega)
  simp only [List.flatMap_cons, List.flatMap_nil, List.append_nil, ← List.append_assoc, List.map_cons, List.map_nil, List.length_cons, List.length_nil, Nat.zero_add, Nat.reduceAdd] at hq1
  have HQ1 := Lib.hid hq1
  clear hq1
  unfold PutPost at HQ1
  have hcq1 := (HI0.out.wr HW1.out).cell
  go_wp2_with fail
  go_region_held3 (fun w' => w'.cell? ⟨bx, 0, none⟩ = some (.pointer (some ⟨cb, 0, none⟩)))
    (first | exact HJ2.out.cell | exact HId1.out.cell | exact (HId1.out.wr ((Wr.refl B cb w1.drew).alloc (.cells #[.pointer (some ⟨xb, 1, none⟩), .pointer (some ⟨xb, 2, none⟩), .pointer (some ⟨xb, 3, none⟩)] 105) hbw1)).cell)
    (first
      | (go_at_call 51; refine Calls.mono HQ1.out ?_; rintro r w2 ⟨rfl, hc, hw⟩; have HJ2 := Lib.hid (HId1.out.wr hw)))
  have HC2 : Hid (CW B cb (ac ++ wText y0 ++ wInt y1 ++ wInt y2 ++ wInt y3) w2) := hc
  have HW2 : Hid (Wr B cb w w2) := HWd1.out.trans hw
  clear hc hw HQ1 HCd1 HWd1 HId1 HXd1 HJ2 hcq1
  go_wp2
  go_end0
  exact ⟨rfl, HC2.out, HW2.out⟩

set_option maxHeartbeats 8000000 in
set_option maxRecDepth 100000 in
theorem cloLine_w {B cb bx : Nat} {ac : List UInt8} {w : World} (xb : Nat) (x : LineD) (hI : Inv0 bx cb w) (h : CW B cb ac w) (hBw : B ≤ w.heap.size) (hx : Blk w xb 179 x.parts.toArray) (hxc : xb ≠ cb) (hok : x.Ok) (hlen : ac.length + (wLine x).length ≤ 70368744177664) :
    Calls Tryd.prog 80 #[.pointer (some ⟨xb, 0, none⟩), .pointer (some ⟨bx, 0, none⟩)] w (PutPost B cb w (ac ++ wLine x)) := by
  have HW0 := Lib.hid (Wr.refl B cb w)
  have HC0 := Lib.hid h
  have HI0 := Lib.hid hI
  have HX := Lib.hid hx
  have HWX : Hid (wLine x = wLine x) := rfl
  have hc0 := hI.cell
  have HO0 := Lib.hid hok.f0
  have HO1 := Lib.hid hok.f1
  have HO3 := Lib.hid hok.f3
  clear h hI hx hok
  obtain ⟨y0, y1, y2, y3⟩ := x
  simp only [LineD.parts] at HX
  simp only at HO0 HO1 HO3
  have HWE : Hid (ac ++ wLine ⟨y0, y1, y2, y3⟩ = ac ++ wInt y0 ++ wInt y1 ++ wText y2 ++ wInt y3) := Lib.hid (by simp [wLine, List.append_assoc])
  have hln : ac.length + ((wInt y0).length + (wInt y1).length + (wText y2).length + (wInt y3).length) ≤ 70368744177664 := by
    have := hlen
    simp only [wLine, List.length_append] at this
    omega
  rw [HWE.out]
  clear hlen HWE HWX
  unfold PutPost
  go_enter Tryd.func80, Tryd.ntmps80
  have HCd0 : Hid (CW B cb (ac) w.drew) := HC0.out.drew
  have HWd0 : Hid (Wr B cb w w.drew) := HW0.out.drew
  have HId0 := Lib.hid (HI0.out.wr HWd0.out)
  have HXd0 := Lib.hid (HX.out.wr HWd0.out hxc (by decide))
  have hbw0 := Nat.le_trans hBw HWd0.out.size
  have hq0 := ints_new (w := w.drew) [(0, y0), (1, y1)] HCd0.out hbw0 HXd0.out (by decide) hxc (by simp) (by
    intro x hx
    simp at hx
    rcases hx with rfl | rfl <;> rfl) (by
    intro x hx
    simp at hx
    rcases hx with rfl | rfl
    · exact HO0.out
    · exact HO1.out) (by simp only [List.flatMap_cons, List.flatMap_nil, List.length_append, List.append_nil]; omega)
  simp only [List.flatMap_cons, List.flatMap_nil, List.append_nil, ← List.append_assoc, List.map_cons, List.map_nil, List.length_cons, List.length_nil, Nat.zero_add, Nat.reduceAdd] at hq0
  have HQ0 := Lib.hid hq0
  clear hq0
  unfold PutPost at HQ0
  go_wp2_with fail
  go_region_held3 (fun w' => w'.cell? ⟨bx, 0, none⟩ = some (.pointer (some ⟨cb, 0, none⟩)))
    (first | exact HJ1.out.cell | exact HId0.out.cell | exact (HId0.out.wr ((Wr.refl B cb w.drew).alloc (.cells #[.pointer (some ⟨xb, 0, none⟩), .pointer (some ⟨xb, 1, none⟩)] 105) hbw0)).cell)
    (first
      | (go_at_call 51; refine Calls.mono HQ0.out ?_; rintro r w1 ⟨rfl, hc, hw⟩; have HJ1 := Lib.hid (HId0.out.wr hw)))
  have HC1 : Hid (CW B cb (ac ++ wInt y0 ++ wInt y1) w1) := hc
  have HW1 : Hid (Wr B cb w w1) := HWd0.out.trans hw
  clear hc hw HQ0 HCd0 HWd0 HId0 HXd0 HJ1 hc0
  have HCd1 : Hid (CW B cb (ac ++ wInt y0 ++ wInt y1) w1.drew) := HC1.out.drew
  have HWd1 : Hid (Wr B cb w w1.drew) := HW1.out.drew
  have HId1 := Lib.hid (HI0.out.wr HWd1.out)
  have HXd1 := Lib.hid (HX.out.wr HWd1.out hxc (by decide))
  have hbw1 := Nat.le_trans hBw HWd1.out.size
  have hq1 := texts_new (w := w1.drew) [(2, y2)] HCd1.out hbw1 HXd1.out (by decide) hxc (by simp) (by
    intro x hx
    simp at hx
    subst hx
    rfl) (by simp only [List.flatMap_cons, List.flatMap_nil, List.length_append, List.append_nil]; omega)
  simp only [List.flatMap_cons, List.flatMap_nil, List.append_nil, ← List.append_assoc, List.map_cons, List.map_nil, List.length_cons, List.length_nil, Nat.zero_add, Nat.reduceAdd] at hq1
  have HQ1 := Lib.hid hq1
  clear hq1
  unfold PutPost at HQ1
  have hcq1 := (HI0.out.wr HW1.out).cell
  go_wp2_with fail
  go_region_held3 (fun w' => w'.cell? ⟨bx, 0, none⟩ = some (.pointer (some ⟨cb, 0, none⟩)))
    (first | exact HJ2.out.cell | exact HId1.out.cell | exact (HId1.out.wr ((Wr.refl B cb w1.drew).alloc (.cells #[.pointer (some ⟨xb, 2, none⟩)] 108) hbw1)).cell)
    (first
      | (go_at_call 53; refine Calls.mono HQ1.out ?_; rintro r w2 ⟨rfl, hc, hw⟩; have HJ2 := Lib.hid (HId1.out.wr hw)))
  have HC2 : Hid (CW B cb (ac ++ wInt y0 ++ wInt y1 ++ wText y2) w2) := hc
  have HW2 : Hid (Wr B cb w w2) := HWd1.out.trans hw
  clear hc hw HQ1 HCd1 HWd1 HId1 HXd1 HJ2 hcq1
  have HCd2 : Hid (CW B cb (ac ++ wInt y0 ++ wInt y1 ++ wText y2) w2.drew) := HC2.out.drew
  have HWd2 : Hid (Wr B cb w w2.drew) := HW2.out.drew
  have HId2 := Lib.hid (HI0.out.wr HWd2.out)
  have HXd2 := Lib.hid (HX.out.wr HWd2.out hxc (by decide))
  have hbw2 := Nat.le_trans hBw HWd2.out.size
  have hq2 := ints_new (w := w2.drew) [(3, y3)] HCd2.out hbw2 HXd2.out (by decide) hxc (by simp) (by
    intro x hx
    simp at hx
    subst hx
    rfl) (by
    intro x hx
    simp at hx
    subst hx
    exact HO3.out) (by simp only [List.flatMap_cons, List.flatMap_nil, List.length_append, List.append_nil]; omega)
  simp only [List.flatMap_cons, List.flatMap_nil, List.append_nil, ← List.append_assoc, List.map_cons, List.map_nil, List.length_cons, List.length_nil, Nat.zero_add, Nat.reduceAdd] at hq2
  have HQ2 := Lib.hid hq2
  clear hq2
  unfold PutPost at HQ2
  have hcq2 := (HI0.out.wr HW2.out).cell
  go_wp2_with fail
  go_region_held3 (fun w' => w'.cell? ⟨bx, 0, none⟩ = some (.pointer (some ⟨cb, 0, none⟩)))
    (first | exact HJ3.out.cell | exact HId2.out.cell | exact (HId2.out.wr ((Wr.refl B cb w2.drew).alloc (.cells #[.pointer (some ⟨xb, 3, none⟩)] 105) hbw2)).cell)
    (first
      | (go_at_call 51; refine Calls.mono HQ2.out ?_; rintro r w3 ⟨rfl, hc, hw⟩; have HJ3 := Lib.hid (HId2.out.wr hw)))
  have HC3 : Hid (CW B cb (ac ++ wInt y0 ++ wInt y1 ++ wText y2 ++ wInt y3) w3) := hc
  have HW3 : Hid (Wr B cb w w3) := HWd2.out.trans hw
  clear hc hw HQ2 HCd2 HWd2 HId2 HXd2 HJ3 hcq2
  go_wp2
  go_end0
  exact ⟨rfl, HC3.out, HW3.out⟩

set_option maxHeartbeats 8000000 in
set_option maxRecDepth 100000 in
theorem cloSpan_w {B cb bx : Nat} {ac : List UInt8} {w : World} (xb : Nat) (x : SpanD) (hI : Inv0 bx cb w) (h : CW B cb ac w) (hBw : B ≤ w.heap.size) (hx : Blk w xb 185 x.parts.toArray) (hxc : xb ≠ cb) (hok : x.Ok) (hlen : ac.length + (wSpan x).length ≤ 70368744177664) :
    Calls Tryd.prog 82 #[.pointer (some ⟨xb, 0, none⟩), .pointer (some ⟨bx, 0, none⟩)] w (PutPost B cb w (ac ++ wSpan x)) := by
  have HW0 := Lib.hid (Wr.refl B cb w)
  have HC0 := Lib.hid h
  have HI0 := Lib.hid hI
  have HX := Lib.hid hx
  have HWX : Hid (wSpan x = wSpan x) := rfl
  have hc0 := hI.cell
  have HO0 := Lib.hid hok.f0
  have HO1 := Lib.hid hok.f1
  clear h hI hx hok
  obtain ⟨y0, y1⟩ := x
  simp only [SpanD.parts] at HX
  simp only at HO0 HO1
  have HWE : Hid (ac ++ wSpan ⟨y0, y1⟩ = ac ++ wInt y0 ++ wInt y1) := Lib.hid (by simp [wSpan, List.append_assoc])
  have hln : ac.length + ((wInt y0).length + (wInt y1).length) ≤ 70368744177664 := by
    have := hlen
    simp only [wSpan, List.length_append] at this
    omega
  rw [HWE.out]
  clear hlen HWE HWX
  unfold PutPost
  go_enter Tryd.func82, Tryd.ntmps82
  have HCd0 : Hid (CW B cb (ac) w.drew) := HC0.out.drew
  have HWd0 : Hid (Wr B cb w w.drew) := HW0.out.drew
  have HId0 := Lib.hid (HI0.out.wr HWd0.out)
  have HXd0 := Lib.hid (HX.out.wr HWd0.out hxc (by decide))
  have hbw0 := Nat.le_trans hBw HWd0.out.size
  have hq0 := ints_new (w := w.drew) [(0, y0), (1, y1)] HCd0.out hbw0 HXd0.out (by decide) hxc (by simp) (by
    intro x hx
    simp at hx
    rcases hx with rfl | rfl <;> rfl) (by
    intro x hx
    simp at hx
    rcases hx with rfl | rfl
    · exact HO0.out
    · exact HO1.out) (by simp only [List.flatMap_cons, List.flatMap_nil, List.length_append, List.append_nil]; omega)
  simp only [List.flatMap_cons, List.flatMap_nil, List.append_nil, ← List.append_assoc, List.map_cons, List.map_nil, List.length_cons, List.length_nil, Nat.zero_add, Nat.reduceAdd] at hq0
  have HQ0 := Lib.hid hq0
  clear hq0
  unfold PutPost at HQ0
  go_wp2_with fail
  go_region_held3 (fun w' => w'.cell? ⟨bx, 0, none⟩ = some (.pointer (some ⟨cb, 0, none⟩)))
    (first | exact HJ1.out.cell | exact HId0.out.cell | exact (HId0.out.wr ((Wr.refl B cb w.drew).alloc (.cells #[.pointer (some ⟨xb, 0, none⟩), .pointer (some ⟨xb, 1, none⟩)] 105) hbw0)).cell)
    (first
      | (go_at_call 51; refine Calls.mono HQ0.out ?_; rintro r w1 ⟨rfl, hc, hw⟩; have HJ1 := Lib.hid (HId0.out.wr hw)))
  have HC1 : Hid (CW B cb (ac ++ wInt y0 ++ wInt y1) w1) := hc
  have HW1 : Hid (Wr B cb w w1) := HWd0.out.trans hw
  clear hc hw HQ0 HCd0 HWd0 HId0 HXd0 HJ1 hc0
  go_wp2
  go_end0
  exact ⟨rfl, HC1.out, HW1.out⟩

set_option maxHeartbeats 8000000 in
set_option maxRecDepth 100000 in
theorem cloInline_w {B cb bx : Nat} {ac : List UInt8} {w : World} (xb : Nat) (x : InlineD) (hI : Inv0 bx cb w) (h : CW B cb ac w) (hBw : B ≤ w.heap.size) (hx : Blk w xb 191 x.parts.toArray) (hxc : xb ≠ cb) (hok : x.Ok) (hlen : ac.length + (wInline x).length ≤ 70368744177664) :
    Calls Tryd.prog 84 #[.pointer (some ⟨xb, 0, none⟩), .pointer (some ⟨bx, 0, none⟩)] w (PutPost B cb w (ac ++ wInline x)) := by
  have HW0 := Lib.hid (Wr.refl B cb w)
  have HC0 := Lib.hid h
  have HI0 := Lib.hid hI
  have HX := Lib.hid hx
  have HWX : Hid (wInline x = wInline x) := rfl
  have hc0 := hI.cell
  have HO0 := Lib.hid hok.f0
  have HO1 := Lib.hid hok.f1
  have HO2 := Lib.hid hok.f2
  have HO5 := Lib.hid hok.f5
  clear h hI hx hok
  obtain ⟨y0, y1, y2, y3, y4, y5⟩ := x
  simp only [InlineD.parts] at HX
  simp only at HO0 HO1 HO2 HO5
  have HWE : Hid (ac ++ wInline ⟨y0, y1, y2, y3, y4, y5⟩ = ac ++ wInt y0 ++ wInt y1 ++ wInt y2 ++ wText y3 ++ wText y4 ++ wInt y5) := Lib.hid (by simp [wInline, List.append_assoc])
  have hln : ac.length + ((wInt y0).length + (wInt y1).length + (wInt y2).length + (wText y3).length + (wText y4).length + (wInt y5).length) ≤ 70368744177664 := by
    have := hlen
    simp only [wInline, List.length_append] at this
    omega
  rw [HWE.out]
  clear hlen HWE HWX
  unfold PutPost
  go_enter Tryd.func84, Tryd.ntmps84
  have HCd0 : Hid (CW B cb (ac) w.drew) := HC0.out.drew
  have HWd0 : Hid (Wr B cb w w.drew) := HW0.out.drew
  have HId0 := Lib.hid (HI0.out.wr HWd0.out)
  have HXd0 := Lib.hid (HX.out.wr HWd0.out hxc (by decide))
  have hbw0 := Nat.le_trans hBw HWd0.out.size
  have hq0 := ints_new (w := w.drew) [(0, y0), (1, y1), (2, y2)] HCd0.out hbw0 HXd0.out (by decide) hxc (by simp) (by
    intro x hx
    simp at hx
    rcases hx with rfl | rfl | rfl <;> rfl) (by
    intro x hx
    simp at hx
    rcases hx with rfl | rfl | rfl
    · exact HO0.out
    · exact HO1.out
    · exact HO2.out) (by simp only [List.flatMap_cons, List.flatMap_nil, List.length_append, List.append_nil]; omega)
  simp only [List.flatMap_cons, List.flatMap_nil, List.append_nil, ← List.append_assoc, List.map_cons, List.map_nil, List.length_cons, List.length_nil, Nat.zero_add, Nat.reduceAdd] at hq0
  have HQ0 := Lib.hid hq0
  clear hq0
  unfold PutPost at HQ0
  go_wp2_with fail
  go_region_held3 (fun w' => w'.cell? ⟨bx, 0, none⟩ = some (.pointer (some ⟨cb, 0, none⟩)))
    (first | exact HJ1.out.cell | exact HId0.out.cell | exact (HId0.out.wr ((Wr.refl B cb w.drew).alloc (.cells #[.pointer (some ⟨xb, 0, none⟩), .pointer (some ⟨xb, 1, none⟩), .pointer (some ⟨xb, 2, none⟩)] 105) hbw0)).cell)
    (first
      | (go_at_call 51; refine Calls.mono HQ0.out ?_; rintro r w1 ⟨rfl, hc, hw⟩; have HJ1 := Lib.hid (HId0.out.wr hw)))
  have HC1 : Hid (CW B cb (ac ++ wInt y0 ++ wInt y1 ++ wInt y2) w1) := hc
  have HW1 : Hid (Wr B cb w w1) := HWd0.out.trans hw
  clear hc hw HQ0 HCd0 HWd0 HId0 HXd0 HJ1 hc0
  have HCd1 : Hid (CW B cb (ac ++ wInt y0 ++ wInt y1 ++ wInt y2) w1.drew) := HC1.out.drew
  have HWd1 : Hid (Wr B cb w w1.drew) := HW1.out.drew
  have HId1 := Lib.hid (HI0.out.wr HWd1.out)
  have HXd1 := Lib.hid (HX.out.wr HWd1.out hxc (by decide))
  have hbw1 := Nat.le_trans hBw HWd1.out.size
  have hq1 := texts_new (w := w1.drew) [(3, y3), (4, y4)] HCd1.out hbw1 HXd1.out (by decide) hxc (by simp) (by
    intro x hx
    simp at hx
    rcases hx with rfl | rfl <;> rfl) (by simp only [List.flatMap_cons, List.flatMap_nil, List.length_append, List.append_nil]; omega)
  simp only [List.flatMap_cons, List.flatMap_nil, List.append_nil, ← List.append_assoc, List.map_cons, List.map_nil, List.length_cons, List.length_nil, Nat.zero_add, Nat.reduceAdd] at hq1
  have HQ1 := Lib.hid hq1
  clear hq1
  unfold PutPost at HQ1
  have hcq1 := (HI0.out.wr HW1.out).cell
  go_wp2_with fail
  go_region_held3 (fun w' => w'.cell? ⟨bx, 0, none⟩ = some (.pointer (some ⟨cb, 0, none⟩)))
    (first | exact HJ2.out.cell | exact HId1.out.cell | exact (HId1.out.wr ((Wr.refl B cb w1.drew).alloc (.cells #[.pointer (some ⟨xb, 3, none⟩), .pointer (some ⟨xb, 4, none⟩)] 108) hbw1)).cell)
    (first
      | (go_at_call 53; refine Calls.mono HQ1.out ?_; rintro r w2 ⟨rfl, hc, hw⟩; have HJ2 := Lib.hid (HId1.out.wr hw)))
  have HC2 : Hid (CW B cb (ac ++ wInt y0 ++ wInt y1 ++ wInt y2 ++ wText y3 ++ wText y4) w2) := hc
  have HW2 : Hid (Wr B cb w w2) := HWd1.out.trans hw
  clear hc hw HQ1 HCd1 HWd1 HId1 HXd1 HJ2 hcq1
  have HCd2 : Hid (CW B cb (ac ++ wInt y0 ++ wInt y1 ++ wInt y2 ++ wText y3 ++ wText y4) w2.drew) := HC2.out.drew
  have HWd2 : Hid (Wr B cb w w2.drew) := HW2.out.drew
  have HId2 := Lib.hid (HI0.out.wr HWd2.out)
  have HXd2 := Lib.hid (HX.out.wr HWd2.out hxc (by decide))
  have hbw2 := Nat.le_trans hBw HWd2.out.size
  have hq2 := ints_new (w := w2.drew) [(5, y5)] HCd2.out hbw2 HXd2.out (by decide) hxc (by simp) (by
    intro x hx
    simp at hx
    subst hx
    rfl) (by
    intro x hx
    simp at hx
    subst hx
    exact HO5.out) (by simp only [List.flatMap_cons, List.flatMap_nil, List.length_append, List.append_nil]; omega)
  simp only [List.flatMap_cons, List.flatMap_nil, List.append_nil, ← List.append_assoc, List.map_cons, List.map_nil, List.length_cons, List.length_nil, Nat.zero_add, Nat.reduceAdd] at hq2
  have HQ2 := Lib.hid hq2
  clear hq2
  unfold PutPost at HQ2
  have hcq2 := (HI0.out.wr HW2.out).cell
  go_wp2_with fail
  go_region_held3 (fun w' => w'.cell? ⟨bx, 0, none⟩ = some (.pointer (some ⟨cb, 0, none⟩)))
    (first | exact HJ3.out.cell | exact HId2.out.cell | exact (HId2.out.wr ((Wr.refl B cb w2.drew).alloc (.cells #[.pointer (some ⟨xb, 5, none⟩)] 105) hbw2)).cell)
    (first
      | (go_at_call 51; refine Calls.mono HQ2.out ?_; rintro r w3 ⟨rfl, hc, hw⟩; have HJ3 := Lib.hid (HId2.out.wr hw)))
  have HC3 : Hid (CW B cb (ac ++ wInt y0 ++ wInt y1 ++ wInt y2 ++ wText y3 ++ wText y4 ++ wInt y5) w3) := hc
  have HW3 : Hid (Wr B cb w w3) := HWd2.out.trans hw
  clear hc hw HQ2 HCd2 HWd2 HId2 HXd2 HJ3 hcq2
  go_wp2
  go_end0
  exact ⟨rfl, HC3.out, HW3.out⟩

set_option maxHeartbeats 8000000 in
set_option maxRecDepth 100000 in
theorem cloVarI_w {B cb bx : Nat} {ac : List UInt8} {w : World} (xb : Nat) (x : VarID) (hI : Inv0 bx cb w) (h : CW B cb ac w) (hBw : B ≤ w.heap.size) (hx : Blk w xb 197 x.parts.toArray) (hxc : xb ≠ cb) (hok : x.Ok) (hlen : ac.length + (wVarI x).length ≤ 70368744177664) :
    Calls Tryd.prog 86 #[.pointer (some ⟨xb, 0, none⟩), .pointer (some ⟨bx, 0, none⟩)] w (PutPost B cb w (ac ++ wVarI x)) := by
  have HW0 := Lib.hid (Wr.refl B cb w)
  have HC0 := Lib.hid h
  have HI0 := Lib.hid hI
  have HX := Lib.hid hx
  have HWX : Hid (wVarI x = wVarI x) := rfl
  have hc0 := hI.cell
  have HO0 := Lib.hid hok.f0
  have HO1 := Lib.hid hok.f1
  have HO2 := Lib.hid hok.f2
  have HO4 := Lib.hid hok.f4
  have HO5 := Lib.hid hok.f5
  clear h hI hx hok
  obtain ⟨y0, y1, y2, y3, y4, y5⟩ := x
  simp only [VarID.parts] at HX
  simp only at HO0 HO1 HO2 HO4 HO5
  have HWE : Hid (ac ++ wVarI ⟨y0, y1, y2, y3, y4, y5⟩ = ac ++ wInt y0 ++ wInt y1 ++ wInt y2 ++ wText y3 ++ wInt y4 ++ wInt y5) := Lib.hid (by simp [wVarI, List.append_assoc])
  have hln : ac.length + ((wInt y0).length + (wInt y1).length + (wInt y2).length + (wText y3).length + (wInt y4).length + (wInt y5).length) ≤ 70368744177664 := by
    have := hlen
    simp only [wVarI, List.length_append] at this
    omega
  rw [HWE.out]
  clear hlen HWE HWX
  unfold PutPost
  go_enter Tryd.func86, Tryd.ntmps86
  have HCd0 : Hid (CW B cb (ac) w.drew) := HC0.out.drew
  have HWd0 : Hid (Wr B cb w w.drew) := HW0.out.drew
  have HId0 := Lib.hid (HI0.out.wr HWd0.out)
  have HXd0 := Lib.hid (HX.out.wr HWd0.out hxc (by decide))
  have hbw0 := Nat.le_trans hBw HWd0.out.size
  have hq0 := ints_new (w := w.drew) [(0, y0), (1, y1), (2, y2)] HCd0.out hbw0 HXd0.out (by decide) hxc (by simp) (by
    intro x hx
    simp at hx
    rcases hx with rfl | rfl | rfl <;> rfl) (by
    intro x hx
    simp at hx
    rcases hx with rfl | rfl | rfl
    · exact HO0.out
    · exact HO1.out
    · exact HO2.out) (by simp only [List.flatMap_cons, List.flatMap_nil, List.length_append, List.append_nil]; omega)
  simp only [List.flatMap_cons, List.flatMap_nil, List.append_nil, ← List.append_assoc, List.map_cons, List.map_nil, List.length_cons, List.length_nil, Nat.zero_add, Nat.reduceAdd] at hq0
  have HQ0 := Lib.hid hq0
  clear hq0
  unfold PutPost at HQ0
  go_wp2_with fail
  go_region_held3 (fun w' => w'.cell? ⟨bx, 0, none⟩ = some (.pointer (some ⟨cb, 0, none⟩)))
    (first | exact HJ1.out.cell | exact HId0.out.cell | exact (HId0.out.wr ((Wr.refl B cb w.drew).alloc (.cells #[.pointer (some ⟨xb, 0, none⟩), .pointer (some ⟨xb, 1, none⟩), .pointer (some ⟨xb, 2, none⟩)] 105) hbw0)).cell)
    (first
      | (go_at_call 51; refine Calls.mono HQ0.out ?_; rintro r w1 ⟨rfl, hc, hw⟩; have HJ1 := Lib.hid (HId0.out.wr hw)))
  have HC1 : Hid (CW B cb (ac ++ wInt y0 ++ wInt y1 ++ wInt y2) w1) := hc
  have HW1 : Hid (Wr B cb w w1) := HWd0.out.trans hw
  clear hc hw HQ0 HCd0 HWd0 HId0 HXd0 HJ1 hc0
  have HCd1 : Hid (CW B cb (ac ++ wInt y0 ++ wInt y1 ++ wInt y2) w1.drew) := HC1.out.drew
  have HWd1 : Hid (Wr B cb w w1.drew) := HW1.out.drew
  have HId1 := Lib.hid (HI0.out.wr HWd1.out)
  have HXd1 := Lib.hid (HX.out.wr HWd1.out hxc (by decide))
  have hbw1 := Nat.le_trans hBw HWd1.out.size
  have hq1 := texts_new (w := w1.drew) [(3, y3)] HCd1.out hbw1 HXd1.out (by decide) hxc (by simp) (by
    intro x hx
    simp at hx
    subst hx
    rfl) (by simp only [List.flatMap_cons, List.flatMap_nil, List.length_append, List.append_nil]; omega)
  simp only [List.flatMap_cons, List.flatMap_nil, List.append_nil, ← List.append_assoc, List.map_cons, List.map_nil, List.length_cons, List.length_nil, Nat.zero_add, Nat.reduceAdd] at hq1
  have HQ1 := Lib.hid hq1
  clear hq1
  unfold PutPost at HQ1
  have hcq1 := (HI0.out.wr HW1.out).cell
  go_wp2_with fail
  go_region_held3 (fun w' => w'.cell? ⟨bx, 0, none⟩ = some (.pointer (some ⟨cb, 0, none⟩)))
    (first | exact HJ2.out.cell | exact HId1.out.cell | exact (HId1.out.wr ((Wr.refl B cb w1.drew).alloc (.cells #[.pointer (some ⟨xb, 3, none⟩)] 108) hbw1)).cell)
    (first
      | (go_at_call 53; refine Calls.mono HQ1.out ?_; rintro r w2 ⟨rfl, hc, hw⟩; have HJ2 := Lib.hid (HId1.out.wr hw)))
  have HC2 : Hid (CW B cb (ac ++ wInt y0 ++ wInt y1 ++ wInt y2 ++ wText y3) w2) := hc
  have HW2 : Hid (Wr B cb w w2) := HWd1.out.trans hw
  clear hc hw HQ1 HCd1 HWd1 HId1 HXd1 HJ2 hcq1
  have HCd2 : Hid (CW B cb (ac ++ wInt y0 ++ wInt y1 ++ wInt y2 ++ wText y3) w2.drew) := HC2.out.drew
  have HWd2 : Hid (Wr B cb w w2.drew) := HW2.out.drew
  have HId2 := Lib.hid (HI0.out.wr HWd2.out)
  have HXd2 := Lib.hid (HX.out.wr HWd2.out hxc (by decide))
  have hbw2 := Nat.le_trans hBw HWd2.out.size
  have hq2 := ints_new (w := w2.drew) [(4, y4), (5, y5)] HCd2.out hbw2 HXd2.out (by decide) hxc (by simp) (by
    intro x hx
    simp at hx
    rcases hx with rfl | rfl <;> rfl) (by
    intro x hx
    simp at hx
    rcases hx with rfl | rfl
    · exact HO4.out
    · exact HO5.out) (by simp only [List.flatMap_cons, List.flatMap_nil, List.length_append, List.append_nil]; omega)
  simp only [List.flatMap_cons, List.flatMap_nil, List.append_nil, ← List.append_assoc, List.map_cons, List.map_nil, List.length_cons, List.length_nil, Nat.zero_add, Nat.reduceAdd] at hq2
  have HQ2 := Lib.hid hq2
  clear hq2
  unfold PutPost at HQ2
  have hcq2 := (HI0.out.wr HW2.out).cell
  go_wp2_with fail
  go_region_held3 (fun w' => w'.cell? ⟨bx, 0, none⟩ = some (.pointer (some ⟨cb, 0, none⟩)))
    (first | exact HJ3.out.cell | exact HId2.out.cell | exact (HId2.out.wr ((Wr.refl B cb w2.drew).alloc (.cells #[.pointer (some ⟨xb, 4, none⟩), .pointer (some ⟨xb, 5, none⟩)] 105) hbw2)).cell)
    (first
      | (go_at_call 51; refine Calls.mono HQ2.out ?_; rintro r w3 ⟨rfl, hc, hw⟩; have HJ3 := Lib.hid (HId2.out.wr hw)))
  have HC3 : Hid (CW B cb (ac ++ wInt y0 ++ wInt y1 ++ wInt y2 ++ wText y3 ++ wInt y4 ++ wInt y5) w3) := hc
  have HW3 : Hid (Wr B cb w w3) := HWd2.out.trans hw
  clear hc hw HQ2 HCd2 HWd2 HId2 HXd2 HJ3 hcq2
  go_wp2
  go_end0
  exact ⟨rfl, HC3.out, HW3.out⟩

set_option maxHeartbeats 8000000 in
set_option maxRecDepth 100000 in
theorem cloDepth_w {B cb bx : Nat} {ac : List UInt8} {w : World} (xb : Nat) (x : DepthD) (hI : Inv0 bx cb w) (h : CW B cb ac w) (hBw : B ≤ w.heap.size) (hx : Blk w xb 203 x.parts.toArray) (hxc : xb ≠ cb) (hok : x.Ok) (hlen : ac.length + (wDepth x).length ≤ 70368744177664) :
    Calls Tryd.prog 88 #[.pointer (some ⟨xb, 0, none⟩), .pointer (some ⟨bx, 0, none⟩)] w (PutPost B cb w (ac ++ wDepth x)) := by
  have HW0 := Lib.hid (Wr.refl B cb w)
  have HC0 := Lib.hid h
  have HI0 := Lib.hid hI
  have HX := Lib.hid hx
  have HWX : Hid (wDepth x = wDepth x) := rfl
  have hc0 := hI.cell
  have HO0 := Lib.hid hok.f0
  have HO1 := Lib.hid hok.f1
  have HO2 := Lib.hid hok.f2
  have HO3 := Lib.hid hok.f3
  clear h hI hx hok
  obtain ⟨y0, y1, y2, y3⟩ := x
  simp only [DepthD.parts] at HX
  simp only at HO0 HO1 HO2 HO3
  have HWE : Hid (ac ++ wDepth ⟨y0, y1, y2, y3⟩ = ac ++ wInt y0 ++ wInt y1 ++ wInt y2 ++ wInt y3) := Lib.hid (by simp [wDepth, List.append_assoc])
  have hln : ac.length + ((wInt y0).length + (wInt y1).length + (wInt y2).length + (wInt y3).length) ≤ 70368744177664 := by
    have := hlen
    simp only [wDepth, List.length_append] at this
    omega
  rw [HWE.out]
  clear hlen HWE HWX
  unfold PutPost
  go_enter Tryd.func88, Tryd.ntmps88
  have HCd0 : Hid (CW B cb (ac) w.drew) := HC0.out.drew
  have HWd0 : Hid (Wr B cb w w.drew) := HW0.out.drew
  have HId0 := Lib.hid (HI0.out.wr HWd0.out)
  have HXd0 := Lib.hid (HX.out.wr HWd0.out hxc (by decide))
  have hbw0 := Nat.le_trans hBw HWd0.out.size
  have hq0 := ints_new (w := w.drew) [(0, y0), (1, y1), (2, y2), (3, y3)] HCd0.out hbw0 HXd0.out (by decide) hxc (by simp) (by
    intro x hx
    simp at hx
    rcases hx with rfl | rfl | rfl | rfl <;> rfl) (by
    intro x hx
    simp at hx
    rcases hx with rfl | rfl | rfl | rfl
    · exact HO0.out
    · exact HO1.out
    · exact HO2.out
    · exact HO3.out) (by simp only [List.flatMap_cons, List.flatMap_nil, List.length_append, List.append_nil]; omega)
  simp only [List.flatMap_cons, List.flatMap_nil, List.append_nil, ← List.append_assoc, List.map_cons, List.map_nil, List.length_cons, List.length_nil, Nat.zero_add, Nat.reduceAdd] at hq0
  have HQ0 := Lib.hid hq0
  clear hq0
  unfold PutPost at HQ0
  go_wp2_with fail
  go_region_held3 (fun w' => w'.cell? ⟨bx, 0, none⟩ = some (.pointer (some ⟨cb, 0, none⟩)))
    (first | exact HJ1.out.cell | exact HId0.out.cell | exact (HId0.out.wr ((Wr.refl B cb w.drew).alloc (.cells #[.pointer (some ⟨xb, 0, none⟩), .pointer (some ⟨xb, 1, none⟩), .pointer (some ⟨xb, 2, none⟩), .pointer (some ⟨xb, 3, none⟩)] 105) hbw0)).cell)
    (first
      | (go_at_call 51; refine Calls.mono HQ0.out ?_; rintro r w1 ⟨rfl, hc, hw⟩; have HJ1 := Lib.hid (HId0.out.wr hw)))
  have HC1 : Hid (CW B cb (ac ++ wInt y0 ++ wInt y1 ++ wInt y2 ++ wInt y3) w1) := hc
  have HW1 : Hid (Wr B cb w w1) := HWd0.out.trans hw
  clear hc hw HQ0 HCd0 HWd0 HId0 HXd0 HJ1 hc0
  go_wp2
  go_end0
  exact ⟨rfl, HC1.out, HW1.out⟩

end Go.Proofs.YtefgajipakjpeaaDoor
