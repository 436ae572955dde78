/-
  image.coder that writes: contracts of image.list, one for each type of elements. Conditions: the encoding is at most 2^46 bytes long; the contract of the function for one element is a premise.
-/
import Derived.Test.YtefgajipakjpeaaDoorListW1
namespace Go.Proofs.YtefgajipakjpeaaDoor
open Go.RowKit

theorem cells_of_Piece {w : World} {B : Nat} {A : Option Addr} {xs : List PieceD} (h : Reads w B 3 A xs.length (xs.flatMap PieceD.parts)) {i : Nat} (hi : i < xs.length) :
    ∃ b off, A = some ⟨b, off, none⟩ ∧ b < B ∧ w.cell? ⟨b, off + i * 3, none⟩ = some (.int .i64 (xs[i]'hi).f0) ∧ w.cell? ⟨b, off + i * 3 + 1, none⟩ = some (.int .i64 (xs[i]'hi).f1) ∧ w.cell? ⟨b, off + i * 3 + 2, none⟩ = some (.int .i64 (xs[i]'hi).f2) := by
  obtain ⟨b, off, hA, hb, hc⟩ := h.lit (by omega) (by decide)
  have hcc : ∀ (j : Nat) (x : Value), j < 3 → (xs[i]'hi).parts[j]? = some x → w.cell? ⟨b, off + i * 3 + j, none⟩ = some x := fun j x hj hx => by
    rw [Nat.add_assoc]
    exact hc (i * 3 + j) x ((flat_at _ 3 PieceD.parts_length xs i j hi hj).trans hx)
  exact ⟨b, off, hA, hb, hcc 0 _ (by decide) rfl, hcc 1 _ (by decide) rfl, hcc 2 _ (by decide) rfl⟩

set_option maxHeartbeats 8000000 in
set_option maxRecDepth 100000 in
theorem listPiece_w {B cb bx : Nat} {acc : List UInt8} {w : World} (Inv : World → Prop) (cap : Addr) (s : SlD PieceD) (ib off : Nat) {ti : TypeId} {ci : Array Value} (hK : Keeps B cb Inv) (hI : Inv w) (h : CW B cb acc w) (hBw : B ≤ w.heap.size)
    (hp : Blk w ib ti ci) (hpt : ti ≠ 5) (hpc : ib ≠ cb) (hpv : ci[off]? = some (.slice s.A s.xs.length s.c)) (hs : s.In 3 PieceD.parts w bx) (hbx : bx ≤ B)
    (hone : ∀ x ∈ s.xs, ∀ (wx : World) (ac : List UInt8) (xb : Nat), Inv wx → CW B cb ac wx → B ≤ wx.heap.size → Blk wx xb 157 x.parts.toArray → xb ≠ cb → ac.length + (wPiece x).length ≤ 70368744177664 →
      Calls Tryd.prog 71 #[.pointer (some ⟨xb, 0, none⟩), .pointer (some cap)] wx (PutPost B cb wx (ac ++ wPiece x)))
    (hlen : acc.length + (wList wPiece s.xs).length ≤ 70368744177664) :
    Calls Tryd.prog 70 #[.pointer (some ⟨cb, 0, none⟩), .pointer (some ⟨ib, off, none⟩), .func (.func 71) #[] #[.pointer (some cap)]] w (PutPost B cb w (acc ++ wList wPiece s.xs)) := by
  have HONE := Lib.hid hone
  have HS := Lib.hid hs.reads
  have hsl := hs.len
  unfold maxLen at hsl
  have HI := Lib.hid hI
  have HC := Lib.hid h
  have HP := Lib.hid (CellAt.mk_ (cb := cb) hp hpt hpc hpv)
  have HK := Lib.hid hK
  clear hone hs hI h hp hpt hpc hpv hK
  unfold PutPost
  obtain ⟨sA, sc, xs⟩ := s
  simp only at HONE HS HP hsl hlen ⊢
  have HWL : Hid (wList wPiece xs = Lib.uvarint xs.length ++ xs.flatMap wPiece) := rfl
  have hlen2 : acc.length + (Lib.uvarint xs.length).length + (xs.flatMap wPiece).length ≤ 70368744177664 := by
    rw [HWL.out, List.length_append] at hlen; omega
  have hnum : wNum (xs.length : Int) = Lib.uvarint xs.length := by
    unfold wNum
    rw [if_neg (by omega)]
    rfl
  have HNU := Lib.hid (Num_any (xs.length : Int) ⟨by omega, by omega⟩)
  rw [hnum] at HNU
  unfold str at HNU
  clear hnum hlen
  have cin := HC.out.in_
  have cp := HP.out.cell
  go_enter Tryd.func70, Tryd.ntmps70
  go_wp2_with fail
  have HCd : Hid (CW B cb acc w.drew) := HC.out.drew
  have HPd : Hid (CellAt cb w.drew ⟨ib, off, none⟩ (.slice sA xs.length sc)) := HP.out.wr ((Wr.refl B cb w).drew)
  have HWd : Hid (Wr B cb w w.drew) := (Wr.refl B cb w).drew
  generalize Lib.uvarint xs.length = un at HNU HWL hlen2
  go_region_held3 (fun w' => w'.cell? ⟨ib, off, none⟩ = some (.slice sA xs.length sc))
    (first | exact HP5.out.cell | exact HP4.out.cell | exact HPd.out.cell)
    (first
      | (go_at_call 21; refine Calls.mono (HC4.out.write un (by omega) (Nat.le_trans hBw HW4.out.size)) ?_; rintro e w5 ⟨rfl, hc5, hw5⟩; have HC5 := Lib.hid hc5; have HP5 := Lib.hid (HP4.out.wr hw5); have HW5 := Lib.hid (HW4.out.trans hw5); clear hc5 hw5)
      | (go_at_call 23; refine Calls.mono (HNU.out _) ?_; rintro e w4 ⟨rfl, hb4⟩; have HC4 := Lib.hid (HCd.out.keep hb4); have HP4 := Lib.hid (HPd.out.wr (Wr.of_below hb4 (Nat.le_trans hBw HWd.out.size))); have HW4 := Lib.hid (HWd.out.trans (Wr.of_below hb4 (Nat.le_trans hBw HWd.out.size))); clear hb4))
  have cp5 := HP5.out.cell
  clear HC4 HP4 HW4 HCd HPd HWd HNU cp cin
  go_wp2_with fail
  clear cp5
  go_loopw [28] (fun vi wr => ∃ i : Nat, vi = .int .i64 i ∧ i ≤ xs.length ∧ Hid (CW B cb (acc ++ un ++ (xs.take i).flatMap wPiece) wr) ∧ Hid (Wr B cb w wr)) (fun vi _ => xs.length - (intOf vi).toNat)
  case atStart => exact ⟨0, rfl, Nat.zero_le _, Lib.hid (by simpa using HC5.out), HW5⟩
  case round =>
    obtain ⟨i, rfl, hi, HCW, HW⟩ := hrel
    clear HP5 HC5 HW5
    have cp := (HP.out.wr HW.out).cell
    by_cases hil : i < xs.length
    · obtain ⟨bb, oo, hA, _, d0, d1, d2⟩ := cells_of_Piece (HS.out.below (HW.out.below.mono hbx)) hil
      have HT := Lib.hid (List.take_succ_eq_append_getElem hil)
      have HX := Lib.hid (HONE.out _ (List.getElem_mem hil))
      have hpre : (xs.take (i + 1)).flatMap wPiece ++ (xs.drop (i + 1)).flatMap wPiece = xs.flatMap wPiece := by rw [← List.flatMap_append, List.take_append_drop]
      have hpl := congrArg List.length hpre
      rw [HT.out, List.flatMap_append] at hpl
      simp only [List.length_append, List.flatMap_cons, List.flatMap_nil, List.append_nil] at hpl
      have HLN : Hid (acc ++ un ++ (xs.take (i + 1)).flatMap wPiece = acc ++ un ++ (xs.take i).flatMap wPiece ++ wPiece (xs[i]'hil)) := Lib.hid (by rw [HT.out, List.flatMap_append]; simp)
      have hacc : (acc ++ un ++ (xs.take i).flatMap wPiece).length + (wPiece (xs[i]'hil)).length ≤ 70368744177664 := by simp only [List.length_append]; omega
      generalize acc ++ un ++ (xs.take i).flatMap wPiece = ac at HCW HLN hacc
      generalize xs[i]'hil = y at d0 d1 d2 HX HLN hacc
      have HXC : Hid (Calls Tryd.prog 71 #[.pointer (some ⟨wr.heap.size, 0, none⟩), .pointer (some cap)] (wr.alloc (.cells y.parts.toArray 157)) (PutPost B cb (wr.alloc (.cells y.parts.toArray 157)) (ac ++ wPiece y))) :=
        HX.out _ ac wr.heap.size (HK.out.wr _ _ HI.out hBw (HW.out.alloc _ (Nat.le_trans hBw HW.out.size))) (HCW.out.alloc _) (Nat.le_trans hBw (Nat.le_trans HW.out.size (by simp))) (Blk.new _ _ _) (by have := HCW.out.lt; omega) hacc
      unfold PutPost at HXC
      rw [hA] at cp
      clear hA hpre hpl HT HX hacc
      obtain ⟨y0, y1, y2⟩ := y
      simp only at d0 d1 d2
      simp only [PieceD.parts] at HXC
      have HWA := Lib.hid (HW.out.alloc (.cells #[.int .i64 y0, .int .i64 y1, .int .i64 y2] 157) (Nat.le_trans hBw HW.out.size))
      have hi0 : (0 : Int) ≤ (i : Int) := by omega
      have hiI : (i : Int) < (xs.length : Int) := by omega
      go_wp2_with fail
      refine (HXC.out).mono ?_
      rintro r w5 ⟨rfl, hc5, hw5⟩
      have HC5 := Lib.hid hc5
      have HW5 := Lib.hid (HWA.out.trans hw5)
      clear hc5 hw5 HXC HWA cp
      rw [← HLN.out] at HC5
      go_wp2
      go_roundw
      case rel => exact ⟨i + 1, by go_num, by omega, HC5, HW5⟩
      case measure => simp [intOf]; omega
    · obtain rfl : i = xs.length := by omega
      rw [List.take_length, List.append_assoc, ← HWL.out] at HCW
      go_wp2
      exact bodyPost_ret (v := .tuple #[]) (by simp [results, Tryd.results70, go_sem]) rfl ⟨rfl, HCW.out, HW.out⟩

theorem cells_of_Conv {w : World} {B : Nat} {A : Option Addr} {xs : List ConvD} (h : Reads w B 5 A xs.length (xs.flatMap ConvD.parts)) {i : Nat} (hi : i < xs.length) :
    ∃ b off, A = some ⟨b, off, none⟩ ∧ b < B ∧ w.cell? ⟨b, off + i * 5, none⟩ = some (.string ⟨(xs[i]'hi).f0.toArray⟩) ∧ w.cell? ⟨b, off + i * 5 + 1, none⟩ = some (.string ⟨(xs[i]'hi).f1.toArray⟩) ∧ w.cell? ⟨b, off + i * 5 + 2, none⟩ = some (.string ⟨(xs[i]'hi).f2.toArray⟩) ∧ w.cell? ⟨b, off + i * 5 + 3, none⟩ = some (.slice (xs[i]'hi).f3.A (xs[i]'hi).f3.xs.length (xs[i]'hi).f3.c) ∧ w.cell? ⟨b, off + i * 5 + 4, none⟩ = some (.int .i64 (xs[i]'hi).f4) := by
  obtain ⟨b, off, hA, hb, hc⟩ := h.lit (by omega) (by decide)
  have hcc : ∀ (j : Nat) (x : Value), j < 5 → (xs[i]'hi).parts[j]? = some x → w.cell? ⟨b, off + i * 5 + j, none⟩ = some x := fun j x hj hx => by
    rw [Nat.add_assoc]
    exact hc (i * 5 + j) x ((flat_at _ 5 ConvD.parts_length xs i j hi hj).trans hx)
  exact ⟨b, off, hA, hb, hcc 0 _ (by decide) rfl, hcc 1 _ (by decide) rfl, hcc 2 _ (by decide) rfl, hcc 3 _ (by decide) rfl, hcc 4 _ (by decide) rfl⟩

set_option maxHeartbeats 8000000 in
set_option maxRecDepth 100000 in
theorem listConv_w {B cb bx : Nat} {acc : List UInt8} {w : World} (Inv : World → Prop) (cap : Addr) (s : SlD ConvD) (ib off : Nat) {ti : TypeId} {ci : Array Value} (hK : Keeps B cb Inv) (hI : Inv w) (h : CW B cb acc w) (hBw : B ≤ w.heap.size)
    (hp : Blk w ib ti ci) (hpt : ti ≠ 5) (hpc : ib ≠ cb) (hpv : ci[off]? = some (.slice s.A s.xs.length s.c)) (hs : s.In 5 ConvD.parts w bx) (hbx : bx ≤ B)
    (hone : ∀ x ∈ s.xs, ∀ (wx : World) (ac : List UInt8) (xb : Nat), Inv wx → CW B cb ac wx → B ≤ wx.heap.size → Blk wx xb 152 x.parts.toArray → xb ≠ cb → ac.length + (wConv x).length ≤ 70368744177664 →
      Calls Tryd.prog 69 #[.pointer (some ⟨xb, 0, none⟩), .pointer (some cap)] wx (PutPost B cb wx (ac ++ wConv x)))
    (hlen : acc.length + (wList wConv s.xs).length ≤ 70368744177664) :
    Calls Tryd.prog 68 #[.pointer (some ⟨cb, 0, none⟩), .pointer (some ⟨ib, off, none⟩), .func (.func 69) #[] #[.pointer (some cap)]] w (PutPost B cb w (acc ++ wList wConv s.xs)) := by
  have HONE := Lib.hid hone
  have HS := Lib.hid hs.reads
  have hsl := hs.len
  unfold maxLen at hsl
  have HI := Lib.hid hI
  have HC := Lib.hid h
  have HP := Lib.hid (CellAt.mk_ (cb := cb) hp hpt hpc hpv)
  have HK := Lib.hid hK
  clear hone hs hI h hp hpt hpc hpv hK
  unfold PutPost
  obtain ⟨sA, sc, xs⟩ := s
  simp only at HONE HS HP hsl hlen ⊢
  have HWL : Hid (wList wConv xs = Lib.uvarint xs.length ++ xs.flatMap wConv) := rfl
  have hlen2 : acc.length + (Lib.uvarint xs.length).length + (xs.flatMap wConv).length ≤ 70368744177664 := by
    rw [HWL.out, List.length_append] at hlen; omega
  have hnum : wNum (xs.length : Int) = Lib.uvarint xs.length := by
    unfold wNum
    rw [if_neg (by omega)]
    rfl
  have HNU := Lib.hid (Num_any (xs.length : Int) ⟨by omega, by omega⟩)
  rw [hnum] at HNU
  unfold str at HNU
  clear hnum hlen
  have cin := HC.out.in_
  have cp := HP.out.cell
  go_enter Tryd.func68, Tryd.ntmps68
  go_wp2_with fail
  have HCd : Hid (CW B cb acc w.drew) := HC.out.drew
  have HPd : Hid (CellAt cb w.drew ⟨ib, off, none⟩ (.slice sA xs.length sc)) := HP.out.wr ((Wr.refl B cb w).drew)
  have HWd : Hid (Wr B cb w w.drew) := (Wr.refl B cb w).drew
  generalize Lib.uvarint xs.length = un at HNU HWL hlen2
  go_region_held3 (fun w' => w'.cell? ⟨ib, off, none⟩ = some (.slice sA xs.length sc))
    (first | exact HP5.out.cell | exact HP4.out.cell | exact HPd.out.cell)
    (first
      | (go_at_call 21; refine Calls.mono (HC4.out.write un (by omega) (Nat.le_trans hBw HW4.out.size)) ?_; rintro e w5 ⟨rfl, hc5, hw5⟩; have HC5 := Lib.hid hc5; have HP5 := Lib.hid (HP4.out.wr hw5); have HW5 := Lib.hid (HW4.out.trans hw5); clear hc5 hw5)
      | (go_at_call 23; refine Calls.mono (HNU.out _) ?_; rintro e w4 ⟨rfl, hb4⟩; have HC4 := Lib.hid (HCd.out.keep hb4); have HP4 := Lib.hid (HPd.out.wr (Wr.of_below hb4 (Nat.le_trans hBw HWd.out.size))); have HW4 := Lib.hid (HWd.out.trans (Wr.of_below hb4 (Nat.le_trans hBw HWd.out.size))); clear hb4))
  have cp5 := HP5.out.cell
  clear HC4 HP4 HW4 HCd HPd HWd HNU cp cin
  go_wp2_with fail
  clear cp5
  go_loopw [28] (fun vi wr => ∃ i : Nat, vi = .int .i64 i ∧ i ≤ xs.length ∧ Hid (CW B cb (acc ++ un ++ (xs.take i).flatMap wConv) wr) ∧ Hid (Wr B cb w wr)) (fun vi _ => xs.length - (intOf vi).toNat)
  case atStart => exact ⟨0, rfl, Nat.zero_le _, Lib.hid (by simpa using HC5.out), HW5⟩
  case round =>
    obtain ⟨i, rfl, hi, HCW, HW⟩ := hrel
    clear HP5 HC5 HW5
    have cp := (HP.out.wr HW.out).cell
    by_cases hil : i < xs.length
    · obtain ⟨bb, oo, hA, _, d0, d1, d2, d3, d4⟩ := cells_of_Conv (HS.out.below (HW.out.below.mono hbx)) hil
      have HT := Lib.hid (List.take_succ_eq_append_getElem hil)
      have HX := Lib.hid (HONE.out _ (List.getElem_mem hil))
      have hpre : (xs.take (i + 1)).flatMap wConv ++ (xs.drop (i + 1)).flatMap wConv = xs.flatMap wConv := by rw [← List.flatMap_append, List.take_append_drop]
      have hpl := congrArg List.length hpre
      rw [HT.out, List.flatMap_append] at hpl
      simp only [List.length_append, List.flatMap_cons, List.flatMap_nil, List.append_nil] at hpl
      have HLN : Hid (acc ++ un ++ (xs.take (i + 1)).flatMap wConv = acc ++ un ++ (xs.take i).flatMap wConv ++ wConv (xs[i]'hil)) := Lib.hid (by rw [HT.out, List.flatMap_append]; simp)
      have hacc : (acc ++ un ++ (xs.take i).flatMap wConv).length + (wConv (xs[i]'hil)).length ≤ 70368744177664 := by simp only [List.length_append]; omega
      generalize acc ++ un ++ (xs.take i).flatMap wConv = ac at HCW HLN hacc
      generalize xs[i]'hil = y at d0 d1 d2 d3 d4 HX HLN hacc
      have HXC : Hid (Calls Tryd.prog 69 #[.pointer (some ⟨wr.heap.size, 0, none⟩), .pointer (some cap)] (wr.alloc (.cells y.parts.toArray 152)) (PutPost B cb (wr.alloc (.cells y.parts.toArray 152)) (ac ++ wConv y))) :=
        HX.out _ ac wr.heap.size (HK.out.wr _ _ HI.out hBw (HW.out.alloc _ (Nat.le_trans hBw HW.out.size))) (HCW.out.alloc _) (Nat.le_trans hBw (Nat.le_trans HW.out.size (by simp))) (Blk.new _ _ _) (by have := HCW.out.lt; omega) hacc
      unfold PutPost at HXC
      rw [hA] at cp
      clear hA hpre hpl HT HX hacc
      obtain ⟨y0, y1, y2, y3, y4⟩ := y
      simp only at d0 d1 d2 d3 d4
      simp only [ConvD.parts] at HXC
      have HWA := Lib.hid (HW.out.alloc (.cells #[.string ⟨y0.toArray⟩, .string ⟨y1.toArray⟩, .string ⟨y2.toArray⟩, .slice y3.A y3.xs.length y3.c, .int .i64 y4] 152) (Nat.le_trans hBw HW.out.size))
      have hi0 : (0 : Int) ≤ (i : Int) := by omega
      have hiI : (i : Int) < (xs.length : Int) := by omega
      go_wp2_with fail
      refine (HXC.out).mono ?_
      rintro r w5 ⟨rfl, hc5, hw5⟩
      have HC5 := Lib.hid hc5
      have HW5 := Lib.hid (HWA.out.trans hw5)
      clear hc5 hw5 HXC HWA cp
      rw [← HLN.out] at HC5
      go_wp2
      go_roundw
      case rel => exact ⟨i + 1, by go_num, by omega, HC5, HW5⟩
      case measure => simp [intOf]; omega
    · obtain rfl : i = xs.length := by omega
      rw [List.take_length, List.append_assoc, ← HWL.out] at HCW
      go_wp2
      exact bodyPost_ret (v := .tuple #[]) (by simp [results, Tryd.results68, go_sem]) rfl ⟨rfl, HCW.out, HW.out⟩

theorem cells_of_Mark {w : World} {B : Nat} {A : Option Addr} {xs : List MarkD} (h : Reads w B 4 A xs.length (xs.flatMap MarkD.parts)) {i : Nat} (hi : i < xs.length) :
    ∃ b off, A = some ⟨b, off, none⟩ ∧ b < B ∧ w.cell? ⟨b, off + i * 4, none⟩ = some (.string ⟨(xs[i]'hi).f0.toArray⟩) ∧ w.cell? ⟨b, off + i * 4 + 1, none⟩ = some (.int .i64 (xs[i]'hi).f1) ∧ w.cell? ⟨b, off + i * 4 + 2, none⟩ = some (.int .i64 (xs[i]'hi).f2) ∧ w.cell? ⟨b, off + i * 4 + 3, none⟩ = some (.int .i64 (xs[i]'hi).f3) := by
  obtain ⟨b, off, hA, hb, hc⟩ := h.lit (by omega) (by decide)
  have hcc : ∀ (j : Nat) (x : Value), j < 4 → (xs[i]'hi).parts[j]? = some x → w.cell? ⟨b, off + i * 4 + j, none⟩ = some x := fun j x hj hx => by
    rw [Nat.add_assoc]
    exact hc (i * 4 + j) x ((flat_at _ 4 MarkD.parts_length xs i j hi hj).trans hx)
  exact ⟨b, off, hA, hb, hcc 0 _ (by decide) rfl, hcc 1 _ (by decide) rfl, hcc 2 _ (by decide) rfl, hcc 3 _ (by decide) rfl⟩

set_option maxHeartbeats 8000000 in
set_option maxRecDepth 100000 in
theorem listMark_w {B cb bx : Nat} {acc : List UInt8} {w : World} (Inv : World → Prop) (cap : Addr) (s : SlD MarkD) (ib off : Nat) {ti : TypeId} {ci : Array Value} (hK : Keeps B cb Inv) (hI : Inv w) (h : CW B cb acc w) (hBw : B ≤ w.heap.size)
    (hp : Blk w ib ti ci) (hpt : ti ≠ 5) (hpc : ib ≠ cb) (hpv : ci[off]? = some (.slice s.A s.xs.length s.c)) (hs : s.In 4 MarkD.parts w bx) (hbx : bx ≤ B)
    (hone : ∀ x ∈ s.xs, ∀ (wx : World) (ac : List UInt8) (xb : Nat), Inv wx → CW B cb ac wx → B ≤ wx.heap.size → Blk wx xb 173 x.parts.toArray → xb ≠ cb → ac.length + (wMark x).length ≤ 70368744177664 →
      Calls Tryd.prog 78 #[.pointer (some ⟨xb, 0, none⟩), .pointer (some cap)] wx (PutPost B cb wx (ac ++ wMark x)))
    (hlen : acc.length + (wList wMark s.xs).length ≤ 70368744177664) :
    Calls Tryd.prog 77 #[.pointer (some ⟨cb, 0, none⟩), .pointer (some ⟨ib, off, none⟩), .func (.func 78) #[] #[.pointer (some cap)]] w (PutPost B cb w (acc ++ wList wMark s.xs)) := by
  have HONE := Lib.hid hone
  have HS := Lib.hid hs.reads
  have hsl := hs.len
  unfold maxLen at hsl
  have HI := Lib.hid hI
  have HC := Lib.hid h
  have HP := Lib.hid (CellAt.mk_ (cb := cb) hp hpt hpc hpv)
  have HK := Lib.hid hK
  clear hone hs hI h hp hpt hpc hpv hK
  unfold PutPost
  obtain ⟨sA, sc, xs⟩ := s
  simp only at HONE HS HP hsl hlen ⊢
  have HWL : Hid (wList wMark xs = Lib.uvarint xs.length ++ xs.flatMap wMark) := rfl
  have hlen2 : acc.length + (Lib.uvarint xs.length).length + (xs.flatMap wMark).length ≤ 70368744177664 := by
    rw [HWL.out, List.length_append] at hlen; omega
  have hnum : wNum (xs.length : Int) = Lib.uvarint xs.length := by
    unfold wNum
    rw [if_neg (by omega)]
    rfl
  have HNU := Lib.hid (Num_any (xs.length : Int) ⟨by omega, by omega⟩)
  rw [hnum] at HNU
  unfold str at HNU
  clear hnum hlen
  have cin := HC.out.in_
  have cp := HP.out.cell
  go_enter Tryd.func77, Tryd.ntmps77
  go_wp2_with fail
  have HCd : Hid (CW B cb acc w.drew) := HC.out.drew
  have HPd : Hid (CellAt cb w.drew ⟨ib, off, none⟩ (.slice sA xs.length sc)) := HP.out.wr ((Wr.refl B cb w).drew)
  have HWd : Hid (Wr B cb w w.drew) := (Wr.refl B cb w).drew
  generalize Lib.uvarint xs.length = un at HNU HWL hlen2
  go_region_held3 (fun w' => w'.cell? ⟨ib, off, none⟩ = some (.slice sA xs.length sc))
    (first | exact HP5.out.cell | exact HP4.out.cell | exact HPd.out.cell)
    (first
      | (go_at_call 21; refine Calls.mono (HC4.out.write un (by omega) (Nat.le_trans hBw HW4.out.size)) ?_; rintro e w5 ⟨rfl, hc5, hw5⟩; have HC5 := Lib.hid hc5; have HP5 := Lib.hid (HP4.out.wr hw5); have HW5 := Lib.hid (HW4.out.trans hw5); clear hc5 hw5)
      | (go_at_call 23; refine Calls.mono (HNU.out _) ?_; rintro e w4 ⟨rfl, hb4⟩; have HC4 := Lib.hid (HCd.out.keep hb4); have HP4 := Lib.hid (HPd.out.wr (Wr.of_below hb4 (Nat.le_trans hBw HWd.out.size))); have HW4 := Lib.hid (HWd.out.trans (Wr.of_below hb4 (Nat.le_trans hBw HWd.out.size))); clear hb4))
  have cp5 := HP5.out.cell
  clear HC4 HP4 HW4 HCd HPd HWd HNU cp cin
  go_wp2_with fail
  clear cp5
  go_loopw [28] (fun vi wr => ∃ i : Nat, vi = .int .i64 i ∧ i ≤ xs.length ∧ Hid (CW B cb (acc ++ un ++ (xs.take i).flatMap wMark) wr) ∧ Hid (Wr B cb w wr)) (fun vi _ => xs.length - (intOf vi).toNat)
  case atStart => exact ⟨0, rfl, Nat.zero_le _, Lib.hid (by simpa using HC5.out), HW5⟩
  case round =>
    obtain ⟨i, rfl, hi, HCW, HW⟩ := hrel
    clear HP5 HC5 HW5
    have cp := (HP.out.wr HW.out).cell
    by_cases hil : i < xs.length
    · obtain ⟨bb, oo, hA, _, d0, d1, d2, d3⟩ := cells_of_Mark (HS.out.below (HW.out.below.mono hbx)) hil
      have HT := Lib.hid (List.take_succ_eq_append_getElem hil)
      have HX := Lib.hid (HONE.out _ (List.getElem_mem hil))
      have hpre : (xs.take (i + 1)).flatMap wMark ++ (xs.drop (i + 1)).flatMap wMark = xs.flatMap wMark := by rw [← List.flatMap_append, List.take_append_drop]
      have hpl := congrArg List.length hpre
      rw [HT.out, List.flatMap_append] at hpl
      simp only [List.length_append, List.flatMap_cons, List.flatMap_nil, List.append_nil] at hpl
      have HLN : Hid (acc ++ un ++ (xs.take (i + 1)).flatMap wMark = acc ++ un ++ (xs.take i).flatMap wMark ++ wMark (xs[i]'hil)) := Lib.hid (by rw [HT.out, List.flatMap_append]; simp)
      have hacc : (acc ++ un ++ (xs.take i).flatMap wMark).length + (wMark (xs[i]'hil)).length ≤ 70368744177664 := by simp only [List.length_append]; omega
      generalize acc ++ un ++ (xs.take i).flatMap wMark = ac at HCW HLN hacc
      generalize xs[i]'hil = y at d0 d1 d2 d3 HX HLN hacc
      have HXC : Hid (Calls Tryd.prog 78 #[.pointer (some ⟨wr.heap.size, 0, none⟩), .pointer (some cap)] (wr.alloc (.cells y.parts.toArray 173)) (PutPost B cb (wr.alloc (.cells y.parts.toArray 173)) (ac ++ wMark y))) :=
        HX.out _ ac wr.heap.size (HK.out.wr _ _ HI.out hBw (HW.out.alloc _ (Nat.le_trans hBw HW.out.size))) (HCW.out.alloc _) (Nat.le_trans hBw (Nat.le_trans HW.out.size (by simp))) (Blk.new _ _ _) (by have := HCW.out.lt; omega) hacc
      unfold PutPost at HXC
      rw [hA] at cp
      clear hA hpre hpl HT HX hacc
      obtain ⟨y0, y1, y2, y3⟩ := y
      simp only at d0 d1 d2 d3
      simp only [MarkD.parts] at HXC
      have HWA := Lib.hid (HW.out.alloc (.cells #[.string ⟨y0.toArray⟩, .int .i64 y1, .int .i64 y2, .int .i64 y3] 173) (Nat.le_trans hBw HW.out.size))
      have hi0 : (0 : Int) ≤ (i : Int) := by omega
      have hiI : (i : Int) < (xs.length : Int) := by omega
      go_wp2_with fail
      refine (HXC.out).mono ?_
      rintro r w5 ⟨rfl, hc5, hw5⟩
      have HC5 := Lib.hid hc5
      have HW5 := Lib.hid (HWA.out.trans hw5)
      clear hc5 hw5 HXC HWA cp
      rw [← HLN.out] at HC5
      go_wp2
      go_roundw
      case rel => exact ⟨i + 1, by go_num, by omega, HC5, HW5⟩
      case measure => simp [intOf]; omega
    · obtain rfl : i = xs.length := by omega
      rw [List.take_length, List.append_assoc, ← HWL.out] at HCW
      go_wp2
      exact bodyPost_ret (v := .tuple #[]) (by simp [results, Tryd.results77, go_sem]) rfl ⟨rfl, HCW.out, HW.out⟩

theorem cells_of_Line {w : World} {B : Nat} {A : Option Addr} {xs : List LineD} (h : Reads w B 4 A xs.length (xs.flatMap LineD.parts)) {i : Nat} (hi : i < xs.length) :
    ∃ b off, A = some ⟨b, off, none⟩ ∧ b < B ∧ w.cell? ⟨b, off + i * 4, none⟩ = some (.int .i64 (xs[i]'hi).f0) ∧ w.cell? ⟨b, off + i * 4 + 1, none⟩ = some (.int .i64 (xs[i]'hi).f1) ∧ w.cell? ⟨b, off + i * 4 + 2, none⟩ = some (.string ⟨(xs[i]'hi).f2.toArray⟩) ∧ w.cell? ⟨b, off + i * 4 + 3, none⟩ = some (.int .i64 (xs[i]'hi).f3) := by
  obtain ⟨b, off, hA, hb, hc⟩ := h.lit (by omega) (by decide)
  have hcc : ∀ (j : Nat) (x : Value), j < 4 → (xs[i]'hi).parts[j]? = some x → w.cell? ⟨b, off + i * 4 + j, none⟩ = some x := fun j x hj hx => by
    rw [Nat.add_assoc]
    exact hc (i * 4 + j) x ((flat_at _ 4 LineD.parts_length xs i j hi hj).trans hx)
  exact ⟨b, off, hA, hb, hcc 0 _ (by decide) rfl, hcc 1 _ (by decide) rfl, hcc 2 _ (by decide) rfl, hcc 3 _ (by decide) rfl⟩

set_option maxHeartbeats 8000000 in
set_option maxRecDepth 100000 in
theorem listLine_w {B cb bx : Nat} {acc : List UInt8} {w : World} (Inv : World → Prop) (cap : Addr) (s : SlD LineD) (ib off : Nat) {ti : TypeId} {ci : Array Value} (hK : Keeps B cb Inv) (hI : Inv w) (h : CW B cb acc w) (hBw : B ≤ w.heap.size)
    (hp : Blk w ib ti ci) (hpt : ti ≠ 5) (hpc : ib ≠ cb) (hpv : ci[off]? = some (.slice s.A s.xs.length s.c)) (hs : s.In 4 LineD.parts w bx) (hbx : bx ≤ B)
    (hone : ∀ x ∈ s.xs, ∀ (wx : World) (ac : List UInt8) (xb : Nat), Inv wx → CW B cb ac wx → B ≤ wx.heap.size → Blk wx xb 179 x.parts.toArray → xb ≠ cb → ac.length + (wLine x).length ≤ 70368744177664 →
      Calls Tryd.prog 80 #[.pointer (some ⟨xb, 0, none⟩), .pointer (some cap)] wx (PutPost B cb wx (ac ++ wLine x)))
    (hlen : acc.length + (wList wLine s.xs).length ≤ 70368744177664) :
    Calls Tryd.prog 79 #[.pointer (some ⟨cb, 0, none⟩), .pointer (some ⟨ib, off, none⟩), .func (.func 80) #[] #[.pointer (some cap)]] w (PutPost B cb w (acc ++ wList wLine s.xs)) := by
  have HONE := Lib.hid hone
  have HS := Lib.hid hs.reads
  have hsl := hs.len
  unfold maxLen at hsl
  have HI := Lib.hid hI
  have HC := Lib.hid h
  have HP := Lib.hid (CellAt.mk_ (cb := cb) hp hpt hpc hpv)
  have HK := Lib.hid hK
  clear hone hs hI h hp hpt hpc hpv hK
  unfold PutPost
  obtain ⟨sA, sc, xs⟩ := s
  simp only at HONE HS HP hsl hlen ⊢
  have HWL : Hid (wList wLine xs = Lib.uvarint xs.length ++ xs.flatMap wLine) := rfl
  have hlen2 : acc.length + (Lib.uvarint xs.length).length + (xs.flatMap wLine).length ≤ 70368744177664 := by
    rw [HWL.out, List.length_append] at hlen; omega
  have hnum : wNum (xs.length : Int) = Lib.uvarint xs.length := by
    unfold wNum
    rw [if_neg (by omega)]
    rfl
  have HNU := Lib.hid (Num_any (xs.length : Int) ⟨by omega, by omega⟩)
  rw [hnum] at HNU
  unfold str at HNU
  clear hnum hlen
  have cin := HC.out.in_
  have cp := HP.out.cell
  go_enter Tryd.func79, Tryd.ntmps79
  go_wp2_with fail
  have HCd : Hid (CW B cb acc w.drew) := HC.out.drew
  have HPd : Hid (CellAt cb w.drew ⟨ib, off, none⟩ (.slice sA xs.length sc)) := HP.out.wr ((Wr.refl B cb w).drew)
  have HWd : Hid (Wr B cb w w.drew) := (Wr.refl B cb w).drew
  generalize Lib.uvarint xs.length = un at HNU HWL hlen2
  go_region_held3 (fun w' => w'.cell? ⟨ib, off, none⟩ = some (.slice sA xs.length sc))
    (first | exact HP5.out.cell | exact HP4.out.cell | exact HPd.out.cell)
    (first
      | (go_at_call 21; refine Calls.mono (HC4.out.write un (by omega) (Nat.le_trans hBw HW4.out.size)) ?_; rintro e w5 ⟨rfl, hc5, hw5⟩; have HC5 := Lib.hid hc5; have HP5 := Lib.hid (HP4.out.wr hw5); have HW5 := Lib.hid (HW4.out.trans hw5); clear hc5 hw5)
      | (go_at_call 23; refine Calls.mono (HNU.out _) ?_; rintro e w4 ⟨rfl, hb4⟩; have HC4 := Lib.hid (HCd.out.keep hb4); have HP4 := Lib.hid (HPd.out.wr (Wr.of_below hb4 (Nat.le_trans hBw HWd.out.size))); have HW4 := Lib.hid (HWd.out.trans (Wr.of_below hb4 (Nat.le_trans hBw HWd.out.size))); clear hb4))
  have cp5 := HP5.out.cell
  clear HC4 HP4 HW4 HCd HPd HWd HNU cp cin
  go_wp2_with fail
  clear cp5
  go_loopw [28] (fun vi wr => ∃ i : Nat, vi = .int .i64 i ∧ i ≤ xs.length ∧ Hid (CW B cb (acc ++ un ++ (xs.take i).flatMap wLine) wr) ∧ Hid (Wr B cb w wr)) (fun vi _ => xs.length - (intOf vi).toNat)
  case atStart => exact ⟨0, rfl, Nat.zero_le _, Lib.hid (by simpa using HC5.out), HW5⟩
  case round =>
    obtain ⟨i, rfl, hi, HCW, HW⟩ := hrel
    clear HP5 HC5 HW5
    have cp := (HP.out.wr HW.out).cell
    by_cases hil : i < xs.length
    · obtain ⟨bb, oo, hA, _, d0, d1, d2, d3⟩ := cells_of_Line (HS.out.below (HW.out.below.mono hbx)) hil
      have HT := Lib.hid (List.take_succ_eq_append_getElem hil)
      have HX := Lib.hid (HONE.out _ (List.getElem_mem hil))
      have hpre : (xs.take (i + 1)).flatMap wLine ++ (xs.drop (i + 1)).flatMap wLine = xs.flatMap wLine := by rw [← List.flatMap_append, List.take_append_drop]
      have hpl := congrArg List.length hpre
      rw [HT.out, List.flatMap_append] at hpl
      simp only [List.length_append, List.flatMap_cons, List.flatMap_nil, List.append_nil] at hpl
      have HLN : Hid (acc ++ un ++ (xs.take (i + 1)).flatMap wLine = acc ++ un ++ (xs.take i).flatMap wLine ++ wLine (xs[i]'hil)) := Lib.hid (by rw [HT.out, List.flatMap_append]; simp)
      have hacc : (acc ++ un ++ (xs.take i).flatMap wLine).length + (wLine (xs[i]'hil)).length ≤ 70368744177664 := by simp only [List.length_append]; omega
      generalize acc ++ un ++ (xs.take i).flatMap wLine = ac at HCW HLN hacc
      generalize xs[i]'hil = y at d0 d1 d2 d3 HX HLN hacc
      have HXC : Hid (Calls Tryd.prog 80 #[.pointer (some ⟨wr.heap.size, 0, none⟩), .pointer (some cap)] (wr.alloc (.cells y.parts.toArray 179)) (PutPost B cb (wr.alloc (.cells y.parts.toArray 179)) (ac ++ wLine y))) :=
        HX.out _ ac wr.heap.size (HK.out.wr _ _ HI.out hBw (HW.out.alloc _ (Nat.le_trans hBw HW.out.size))) (HCW.out.alloc _) (Nat.le_trans hBw (Nat.le_trans HW.out.size (by simp))) (Blk.new _ _ _) (by have := HCW.out.lt; omega) hacc
      unfold PutPost at HXC
      rw [hA] at cp
      clear hA hpre hpl HT HX hacc
      obtain ⟨y0, y1, y2, y3⟩ := y
      simp only at d0 d1 d2 d3
      simp only [LineD.parts] at HXC
      have HWA := Lib.hid (HW.out.alloc (.cells #[.int .i64 y0, .int .i64 y1, .string ⟨y2.toArray⟩, .int .i64 y3] 179) (Nat.le_trans hBw HW.out.size))
      have hi0 : (0 : Int) ≤ (i : Int) := by omega
      have hiI : (i : Int) < (xs.length : Int) := by omega
      go_wp2_with fail
      refine (HXC.out).mono ?_
      rintro r w5 ⟨rfl, hc5, hw5⟩
      have HC5 := Lib.hid hc5
      have HW5 := Lib.hid (HWA.out.trans hw5)
      clear hc5 hw5 HXC HWA cp
      rw [← HLN.out] at HC5
      go_wp2
      go_roundw
      case rel => exact ⟨i + 1, by go_num, by omega, HC5, HW5⟩
      case measure => simp [intOf]; omega
    · obtain rfl : i = xs.length := by omega
      rw [List.take_length, List.append_assoc, ← HWL.out] at HCW
      go_wp2
      exact bodyPost_ret (v := .tuple #[]) (by simp [results, Tryd.results79, go_sem]) rfl ⟨rfl, HCW.out, HW.out⟩

theorem cells_of_Span {w : World} {B : Nat} {A : Option Addr} {xs : List SpanD} (h : Reads w B 2 A xs.length (xs.flatMap SpanD.parts)) {i : Nat} (hi : i < xs.length) :
    ∃ b off, A = some ⟨b, off, none⟩ ∧ b < B ∧ w.cell? ⟨b, off + i * 2, none⟩ = some (.int .i64 (xs[i]'hi).f0) ∧ w.cell? ⟨b, off + i * 2 + 1, none⟩ = some (.int .i64 (xs[i]'hi).f1) := by
  obtain ⟨b, off, hA, hb, hc⟩ := h.lit (by omega) (by decide)
  have hcc : ∀ (j : Nat) (x : Value), j < 2 → (xs[i]'hi).parts[j]? = some x → w.cell? ⟨b, off + i * 2 + j, none⟩ = some x := fun j x hj hx => by
    rw [Nat.add_assoc]
    exact hc (i * 2 + j) x ((flat_at _ 2 SpanD.parts_length xs i j hi hj).trans hx)
  exact ⟨b, off, hA, hb, hcc 0 _ (by decide) rfl, hcc 1 _ (by decide) rfl⟩

set_option maxHeartbeats 8000000 in
set_option maxRecDepth 100000 in
theorem listSpan_w {B cb bx : Nat} {acc : List UInt8} {w : World} (Inv : World → Prop) (cap : Addr) (s : SlD SpanD) (ib off : Nat) {ti : TypeId} {ci : Array Value} (hK : Keeps B cb Inv) (hI : Inv w) (h : CW B cb acc w) (hBw : B ≤ w.heap.size)
    (hp : Blk w ib ti ci) (hpt : ti ≠ 5) (hpc : ib ≠ cb) (hpv : ci[off]? = some (.slice s.A s.xs.length s.c)) (hs : s.In 2 SpanD.parts w bx) (hbx : bx ≤ B)
    (hone : ∀ x ∈ s.xs, ∀ (wx : World) (ac : List UInt8) (xb : Nat), Inv wx → CW B cb ac wx → B ≤ wx.heap.size → Blk wx xb 185 x.parts.toArray → xb ≠ cb → ac.length + (wSpan x).length ≤ 70368744177664 →
      Calls Tryd.prog 82 #[.pointer (some ⟨xb, 0, none⟩), .pointer (some cap)] wx (PutPost B cb wx (ac ++ wSpan x)))
    (hlen : acc.length + (wList wSpan s.xs).length ≤ 70368744177664) :
    Calls Tryd.prog 81 #[.pointer (some ⟨cb, 0, none⟩), .pointer (some ⟨ib, off, none⟩), .func (.func 82) #[] #[.pointer (some cap)]] w (PutPost B cb w (acc ++ wList wSpan s.xs)) := by
  have HONE := Lib.hid hone
  have HS := Lib.hid hs.reads
  have hsl := hs.len
  unfold maxLen at hsl
  have HI := Lib.hid hI
  have HC := Lib.hid h
  have HP := Lib.hid (CellAt.mk_ (cb := cb) hp hpt hpc hpv)
  have HK := Lib.hid hK
  clear hone hs hI h hp hpt hpc hpv hK
  unfold PutPost
  obtain ⟨sA, sc, xs⟩ := s
  simp only at HONE HS HP hsl hlen ⊢
  have HWL : Hid (wList wSpan xs = Lib.uvarint xs.length ++ xs.flatMap wSpan) := rfl
  have hlen2 : acc.length + (Lib.uvarint xs.length).length + (xs.flatMap wSpan).length ≤ 70368744177664 := by
    rw [HWL.out, List.length_append] at hlen; omega
  have hnum : wNum (xs.length : Int) = Lib.uvarint xs.length := by
    unfold wNum
    rw [if_neg (by omega)]
    rfl
  have HNU := Lib.hid (Num_any (xs.length : Int) ⟨by omega, by omega⟩)
  rw [hnum] at HNU
  unfold str at HNU
  clear hnum hlen
  have cin := HC.out.in_
  have cp := HP.out.cell
  go_enter Tryd.func81, Tryd.ntmps81
  go_wp2_with fail
  have HCd : Hid (CW B cb acc w.drew) := HC.out.drew
  have HPd : Hid (CellAt cb w.drew ⟨ib, off, none⟩ (.slice sA xs.length sc)) := HP.out.wr ((Wr.refl B cb w).drew)
  have HWd : Hid (Wr B cb w w.drew) := (Wr.refl B cb w).drew
  generalize Lib.uvarint xs.length = un at HNU HWL hlen2
  go_region_held3 (fun w' => w'.cell? ⟨ib, off, none⟩ = some (.slice sA xs.length sc))
    (first | exact HP5.out.cell | exact HP4.out.cell | exact HPd.out.cell)
    (first
      | (go_at_call 21; refine Calls.mono (HC4.out.write un (by omega) (Nat.le_trans hBw HW4.out.size)) ?_; rintro e w5 ⟨rfl, hc5, hw5⟩; have HC5 := Lib.hid hc5; have HP5 := Lib.hid (HP4.out.wr hw5); have HW5 := Lib.hid (HW4.out.trans hw5); clear hc5 hw5)
      | (go_at_call 23; refine Calls.mono (HNU.out _) ?_; rintro e w4 ⟨rfl, hb4⟩; have HC4 := Lib.hid (HCd.out.keep hb4); have HP4 := Lib.hid (HPd.out.wr (Wr.of_below hb4 (Nat.le_trans hBw HWd.out.size))); have HW4 := Lib.hid (HWd.out.trans (Wr.of_below hb4 (Nat.le_trans hBw HWd.out.size))); clear hb4))
  have cp5 := HP5.out.cell
  clear HC4 HP4 HW4 HCd HPd HWd HNU cp cin
  go_wp2_with fail
  clear cp5
  go_loopw [28] (fun vi wr => ∃ i : Nat, vi = .int .i64 i ∧ i ≤ xs.length ∧ Hid (CW B cb (acc ++ un ++ (xs.take i).flatMap wSpan) wr) ∧ Hid (Wr B cb w wr)) (fun vi _ => xs.length - (intOf vi).toNat)
  case atStart => exact ⟨0, rfl, Nat.zero_le _, Lib.hid (by simpa using HC5.out), HW5⟩
  case round =>
    obtain ⟨i, rfl, hi, HCW, HW⟩ := hrel
    clear HP5 HC5 HW5
    have cp := (HP.out.wr HW.out).cell
    by_cases hil : i < xs.length
    · obtain ⟨bb, oo, hA, _, d0, d1⟩ := cells_of_Span (HS.out.below (HW.out.below.mono hbx)) hil
      have HT := Lib.hid (List.take_succ_eq_append_getElem hil)
      have HX := Lib.hid (HONE.out _ (List.getElem_mem hil))
      have hpre : (xs.take (i + 1)).flatMap wSpan ++ (xs.drop (i + 1)).flatMap wSpan = xs.flatMap wSpan := by rw [← List.flatMap_append, List.take_append_drop]
      have hpl := congrArg List.length hpre
      rw [HT.out, List.flatMap_append] at hpl
      simp only [List.length_append, List.flatMap_cons, List.flatMap_nil, List.append_nil] at hpl
      have HLN : Hid (acc ++ un ++ (xs.take (i + 1)).flatMap wSpan = acc ++ un ++ (xs.take i).flatMap wSpan ++ wSpan (xs[i]'hil)) := Lib.hid (by rw [HT.out, List.flatMap_append]; simp)
      have hacc : (acc ++ un ++ (xs.take i).flatMap wSpan).length + (wSpan (xs[i]'hil)).length ≤ 70368744177664 := by simp only [List.length_append]; omega
      generalize acc ++ un ++ (xs.take i).flatMap wSpan = ac at HCW HLN hacc
      generalize xs[i]'hil = y at d0 d1 HX HLN hacc
      have HXC : Hid (Calls Tryd.prog 82 #[.pointer (some ⟨wr.heap.size, 0, none⟩), .pointer (some cap)] (wr.alloc (.cells y.parts.toArray 185)) (PutPost B cb (wr.alloc (.cells y.parts.toArray 185)) (ac ++ wSpan y))) :=
        HX.out _ ac wr.heap.size (HK.out.wr _ _ HI.out hBw (HW.out.alloc _ (Nat.le_trans hBw HW.out.size))) (HCW.out.alloc _) (Nat.le_trans hBw (Nat.le_trans HW.out.size (by simp))) (Blk.new _ _ _) (by have := HCW.out.lt; omega) hacc
      unfold PutPost at HXC
      rw [hA] at cp
      clear hA hpre hpl HT HX hacc
      obtain ⟨y0, y1⟩ := y
      simp only at d0 d1
      simp only [SpanD.parts] at HXC
      have HWA := Lib.hid (HW.out.alloc (.cells #[.int .i64 y0, .int .i64 y1] 185) (Nat.le_trans hBw HW.out.size))
      have hi0 : (0 : Int) ≤ (i : Int) := by omega
      have hiI : (i : Int) < (xs.length : Int) := by omega
      go_wp2_with fail
      refine (HXC.out).mono ?_
      rintro r w5 ⟨rfl, hc5, hw5⟩
      have HC5 := Lib.hid hc5
      have HW5 := Lib.hid (HWA.out.trans hw5)
      clear hc5 hw5 HXC HWA cp
      rw [← HLN.out] at HC5
      go_wp2
      go_roundw
      case rel => exact ⟨i + 1, by go_num, by omega, HC5, HW5⟩
      case measure => simp [intOf]; omega
    · obtain rfl : i = xs.length := by omega
      rw [List.take_length, List.append_assoc, ← HWL.out] at HCW
      go_wp2
      exact bodyPost_ret (v := .tuple #[]) (by simp [results, Tryd.results81, go_sem]) rfl ⟨rfl, HCW.out, HW.out⟩

theorem cells_of_Inline {w : World} {B : Nat} {A : Option Addr} {xs : List InlineD} (h : Reads w B 6 A xs.length (xs.flatMap InlineD.parts)) {i : Nat} (hi : i < xs.length) :
    ∃ b off, A = some ⟨b, off, none⟩ ∧ b < B ∧ w.cell? ⟨b, off + i * 6, none⟩ = some (.int .i64 (xs[i]'hi).f0) ∧ w.cell? ⟨b, off + i * 6 + 1, none⟩ = some (.int .i64 (xs[i]'hi).f1) ∧ w.cell? ⟨b, off + i * 6 + 2, none⟩ = some (.int .i64 (xs[i]'hi).f2) ∧ w.cell? ⟨b, off + i * 6 + 3, none⟩ = some (.string ⟨(xs[i]'hi).f3.toArray⟩) ∧ w.cell? ⟨b, off + i * 6 + 4, none⟩ = some (.string ⟨(xs[i]'hi).f4.toArray⟩) ∧ w.cell? ⟨b, off + i * 6 + 5, none⟩ = some (.int .i64 (xs[i]'hi).f5) := by
  obtain ⟨b, off, hA, hb, hc⟩ := h.lit (by omega) (by decide)
  have hcc : ∀ (j : Nat) (x : Value), j < 6 → (xs[i]'hi).parts[j]? = some x → w.cell? ⟨b, off + i * 6 + j, none⟩ = some x := fun j x hj hx => by
    rw [Nat.add_assoc]
    exact hc (i * 6 + j) x ((flat_at _ 6 InlineD.parts_length xs i j hi hj).trans hx)
  exact ⟨b, off, hA, hb, hcc 0 _ (by decide) rfl, hcc 1 _ (by decide) rfl, hcc 2 _ (by decide) rfl, hcc 3 _ (by decide) rfl, hcc 4 _ (by decide) rfl, hcc 5 _ (by decide) rfl⟩

set_option maxHeartbeats 8000000 in
set_option maxRecDepth 100000 in
theorem listInline_w {B cb bx : Nat} {acc : List UInt8} {w : World} (Inv : World → Prop) (cap : Addr) (s : SlD InlineD) (ib off : Nat) {ti : TypeId} {ci : Array Value} (hK : Keeps B cb Inv) (hI : Inv w) (h : CW B cb acc w) (hBw : B ≤ w.heap.size)
    (hp : Blk w ib ti ci) (hpt : ti ≠ 5) (hpc : ib ≠ cb) (hpv : ci[off]? = some (.slice s.A s.xs.length s.c)) (hs : s.In 6 InlineD.parts w bx) (hbx : bx ≤ B)
    (hone : ∀ x ∈ s.xs, ∀ (wx : World) (ac : List UInt8) (xb : Nat), Inv wx → CW B cb ac wx → B ≤ wx.heap.size → Blk wx xb 191 x.parts.toArray → xb ≠ cb → ac.length + (wInline x).length ≤ 70368744177664 →
      Calls Tryd.prog 84 #[.pointer (some ⟨xb, 0, none⟩), .pointer (some cap)] wx (PutPost B cb wx (ac ++ wInline x)))
    (hlen : acc.length + (wList wInline s.xs).length ≤ 70368744177664) :
    Calls Tryd.prog 83 #[.pointer (some ⟨cb, 0, none⟩), .pointer (some ⟨ib, off, none⟩), .func (.func 84) #[] #[.pointer (some cap)]] w (PutPost B cb w (acc ++ wList wInline s.xs)) := by
  have HONE := Lib.hid hone
  have HS := Lib.hid hs.reads
  have hsl := hs.len
  unfold maxLen at hsl
  have HI := Lib.hid hI
  have HC := Lib.hid h
  have HP := Lib.hid (CellAt.mk_ (cb := cb) hp hpt hpc hpv)
  have HK := Lib.hid hK
  clear hone hs hI h hp hpt hpc hpv hK
  unfold PutPost
  obtain ⟨sA, sc, xs⟩ := s
  simp only at HONE HS HP hsl hlen ⊢
  have HWL : Hid (wList wInline xs = Lib.uvarint xs.length ++ xs.flatMap wInline) := rfl
  have hlen2 : acc.length + (Lib.uvarint xs.length).length + (xs.flatMap wInline).length ≤ 70368744177664 := by
    rw [HWL.out, List.length_append] at hlen; omega
  have hnum : wNum (xs.length : Int) = Lib.uvarint xs.length := by
    unfold wNum
    rw [if_neg (by omega)]
    rfl
  have HNU := Lib.hid (Num_any (xs.length : Int) ⟨by omega, by omega⟩)
  rw [hnum] at HNU
  unfold str at HNU
  clear hnum hlen
  have cin := HC.out.in_
  have cp := HP.out.cell
  go_enter Tryd.func83, Tryd.ntmps83
  go_wp2_with fail
  have HCd : Hid (CW B cb acc w.drew) := HC.out.drew
  have HPd : Hid (CellAt cb w.drew ⟨ib, off, none⟩ (.slice sA xs.length sc)) := HP.out.wr ((Wr.refl B cb w).drew)
  have HWd : Hid (Wr B cb w w.drew) := (Wr.refl B cb w).drew
  generalize Lib.uvarint xs.length = un at HNU HWL hlen2
  go_region_held3 (fun w' => w'.cell? ⟨ib, off, none⟩ = some (.slice sA xs.length sc))
    (first | exact HP5.out.cell | exact HP4.out.cell | exact HPd.out.cell)
    (first
      | (go_at_call 21; refine Calls.mono (HC4.out.write un (by omega) (Nat.le_trans hBw HW4.out.size)) ?_; rintro e w5 ⟨rfl, hc5, hw5⟩; have HC5 := Lib.hid hc5; have HP5 := Lib.hid (HP4.out.wr hw5); have HW5 := Lib.hid (HW4.out.trans hw5); clear hc5 hw5)
      | (go_at_call 23; refine Calls.mono (HNU.out _) ?_; rintro e w4 ⟨rfl, hb4⟩; have HC4 := Lib.hid (HCd.out.keep hb4); have HP4 := Lib.hid (HPd.out.wr (Wr.of_below hb4 (Nat.le_trans hBw HWd.out.size))); have HW4 := Lib.hid (HWd.out.trans (Wr.of_below hb4 (Nat.le_trans hBw HWd.out.size))); clear hb4))
  have cp5 := HP5.out.cell
  clear HC4 HP4 HW4 HCd HPd HWd HNU cp cin
  go_wp2_with fail
  clear cp5
  go_loopw [28] (fun vi wr => ∃ i : Nat, vi = .int .i64 i ∧ i ≤ xs.length ∧ Hid (CW B cb (acc ++ un ++ (xs.take i).flatMap wInline) wr) ∧ Hid (Wr B cb w wr)) (fun vi _ => xs.length - (intOf vi).toNat)
  case atStart => exact ⟨0, rfl, Nat.zero_le _, Lib.hid (by simpa using HC5.out), HW5⟩
  case round =>
    obtain ⟨i, rfl, hi, HCW, HW⟩ := hrel
    clear HP5 HC5 HW5
    have cp := (HP.out.wr HW.out).cell
    by_cases hil : i < xs.length
    · obtain ⟨bb, oo, hA, _, d0, d1, d2, d3, d4, d5⟩ := cells_of_Inline (HS.out.below (HW.out.below.mono hbx)) hil
      have HT := Lib.hid (List.take_succ_eq_append_getElem hil)
      have HX := Lib.hid (HONE.out _ (List.getElem_mem hil))
      have hpre : (xs.take (i + 1)).flatMap wInline ++ (xs.drop (i + 1)).flatMap wInline = xs.flatMap wInline := by rw [← List.flatMap_append, List.take_append_drop]
      have hpl := congrArg List.length hpre
      rw [HT.out, List.flatMap_append] at hpl
      simp only [List.length_append, List.flatMap_cons, List.flatMap_nil, List.append_nil] at hpl
      have HLN : Hid (acc ++ un ++ (xs.take (i + 1)).flatMap wInline = acc ++ un ++ (xs.take i).flatMap wInline ++ wInline (xs[i]'hil)) := Lib.hid (by rw [HT.out, List.flatMap_append]; simp)
      have hacc : (acc ++ un ++ (xs.take i).flatMap wInline).length + (wInline (xs[i]'hil)).length ≤ 70368744177664 := by simp only [List.length_append]; omega
      generalize acc ++ un ++ (xs.take i).flatMap wInline = ac at HCW HLN hacc
      generalize xs[i]'hil = y at d0 d1 d2 d3 d4 d5 HX HLN hacc
      have HXC : Hid (Calls Tryd.prog 84 #[.pointer (some ⟨wr.heap.size, 0, none⟩), .pointer (some cap)] (wr.alloc (.cells y.parts.toArray 191)) (PutPost B cb (wr.alloc (.cells y.parts.toArray 191)) (ac ++ wInline y))) :=
        HX.out _ ac wr.heap.size (HK.out.wr _ _ HI.out hBw (HW.out.alloc _ (Nat.le_trans hBw HW.out.size))) (HCW.out.alloc _) (Nat.le_trans hBw (Nat.le_trans HW.out.size (by simp))) (Blk.new _ _ _) (by have := HCW.out.lt; omega) hacc
      unfold PutPost at HXC
      rw [hA] at cp
      clear hA hpre hpl HT HX hacc
      obtain ⟨y0, y1, y2, y3, y4, y5⟩ := y
      simp only at d0 d1 d2 d3 d4 d5
      simp only [InlineD.parts] at HXC
      have HWA := Lib.hid (HW.out.alloc (.cells #[.int .i64 y0, .int .i64 y1, .int .i64 y2, .string ⟨y3.toArray⟩, .string ⟨y4.toArray⟩, .int .i64 y5] 191) (Nat.le_trans hBw HW.out.size))
      have hi0 : (0 : Int) ≤ (i : Int) := by omega
      have hiI : (i : Int) < (xs.length : Int) := by omega
      go_wp2_with fail
      refine (HXC.out).mono ?_
      rintro r w5 ⟨rfl, hc5, hw5⟩
      have HC5 := Lib.hid hc5
      have HW5 := Lib.hid (HWA.out.trans hw5)
      clear hc5 hw5 HXC HWA cp
      rw [← HLN.out] at HC5
      go_wp2
      go_roundw
      case rel => exact ⟨i + 1, by go_num, by omega, HC5, HW5⟩
      case measure => simp [intOf]; omega
    · obtain rfl : i = xs.length := by omega
      rw [List.take_length, List.append_assoc, ← HWL.out] at HCW
      go_wp2
      exact bodyPost_ret (v := .tuple #[]) (by simp [results, Tryd.results83, go_sem]) rfl ⟨rfl, HCW.out, HW.out⟩

theorem cells_of_VarI {w : World} {B : Nat} {A : Option Addr} {xs : List VarID} (h : Reads w B 6 A xs.length (xs.flatMap VarID.parts)) {i : Nat} (hi : i < xs.length) :
    ∃ b off, A = some ⟨b, off, none⟩ ∧ b < B ∧ w.cell? ⟨b, off + i * 6, none⟩ = some (.int .i64 (xs[i]'hi).f0) ∧ w.cell? ⟨b, off + i * 6 + 1, none⟩ = some (.int .i64 (xs[i]'hi).f1) ∧ w.cell? ⟨b, off + i * 6 + 2, none⟩ = some (.int .i64 (xs[i]'hi).f2) ∧ w.cell? ⟨b, off + i * 6 + 3, none⟩ = some (.string ⟨(xs[i]'hi).f3.toArray⟩) ∧ w.cell? ⟨b, off + i * 6 + 4, none⟩ = some (.int .i64 (xs[i]'hi).f4) ∧ w.cell? ⟨b, off + i * 6 + 5, none⟩ = some (.int .i64 (xs[i]'hi).f5) := by
  obtain ⟨b, off, hA, hb, hc⟩ := h.lit (by omega) (by decide)
  have hcc : ∀ (j : Nat) (x : Value), j < 6 → (xs[i]'hi).parts[j]? = some x → w.cell? ⟨b, off + i * 6 + j, none⟩ = some x := fun j x hj hx => by
    rw [Nat.add_assoc]
    exact hc (i * 6 + j) x ((flat_at _ 6 VarID.parts_length xs i j hi hj).trans hx)
  exact ⟨b, off, hA, hb, hcc 0 _ (by decide) rfl, hcc 1 _ (by decide) rfl, hcc 2 _ (by decide) rfl, hcc 3 _ (by decide) rfl, hcc 4 _ (by decide) rfl, hcc 5 _ (by decide) rfl⟩

set_option maxHeartbeats 8000000 in
set_option maxRecDepth 100000 in
theorem listVarI_w {B cb bx : Nat} {acc : List UInt8} {w : World} (Inv : World → Prop) (cap : Addr) (s : SlD VarID) (ib off : Nat) {ti : TypeId} {ci : Array Value} (hK : Keeps B cb Inv) (hI : Inv w) (h : CW B cb acc w) (hBw : B ≤ w.heap.size)
    (hp : Blk w ib ti ci) (hpt : ti ≠ 5) (hpc : ib ≠ cb) (hpv : ci[off]? = some (.slice s.A s.xs.length s.c)) (hs : s.In 6 VarID.parts w bx) (hbx : bx ≤ B)
    (hone : ∀ x ∈ s.xs, ∀ (wx : World) (ac : List UInt8) (xb : Nat), Inv wx → CW B cb ac wx → B ≤ wx.heap.size → Blk wx xb 197 x.parts.toArray → xb ≠ cb → ac.length + (wVarI x).length ≤ 70368744177664 →
      Calls Tryd.prog 86 #[.pointer (some ⟨xb, 0, none⟩), .pointer (some cap)] wx (PutPost B cb wx (ac ++ wVarI x)))
    (hlen : acc.length + (wList wVarI s.xs).length ≤ 70368744177664) :
    Calls Tryd.prog 85 #[.pointer (some ⟨cb, 0, none⟩), .pointer (some ⟨ib, off, none⟩), .func (.func 86) #[] #[.pointer (some cap)]] w (PutPost B cb w (acc ++ wList wVarI s.xs)) := by
  have HONE := Lib.hid hone
  have HS := Lib.hid hs.reads
  have hsl := hs.len
  unfold maxLen at hsl
  have HI := Lib.hid hI
  have HC := Lib.hid h
  have HP := Lib.hid (CellAt.mk_ (cb := cb) hp hpt hpc hpv)
  have HK := Lib.hid hK
  clear hone hs hI h hp hpt hpc hpv hK
  unfold PutPost
  obtain ⟨sA, sc, xs⟩ := s
  simp only at HONE HS HP hsl hlen ⊢
  have HWL : Hid (wList wVarI xs = Lib.uvarint xs.length ++ xs.flatMap wVarI) := rfl
  have hlen2 : acc.length + (Lib.uvarint xs.length).length + (xs.flatMap wVarI).length ≤ 70368744177664 := by
    rw [HWL.out, List.length_append] at hlen; omega
  have hnum : wNum (xs.length : Int) = Lib.uvarint xs.length := by
    unfold wNum
    rw [if_neg (by omega)]
    rfl
  have HNU := Lib.hid (Num_any (xs.length : Int) ⟨by omega, by omega⟩)
  rw [hnum] at HNU
  unfold str at HNU
  clear hnum hlen
  have cin := HC.out.in_
  have cp := HP.out.cell
  go_enter Tryd.func85, Tryd.ntmps85
  go_wp2_with fail
  have HCd : Hid (CW B cb acc w.drew) := HC.out.drew
  have HPd : Hid (CellAt cb w.drew ⟨ib, off, none⟩ (.slice sA xs.length sc)) := HP.out.wr ((Wr.refl B cb w).drew)
  have HWd : Hid (Wr B cb w w.drew) := (Wr.refl B cb w).drew
  generalize Lib.uvarint xs.length = un at HNU HWL hlen2
  go_region_held3 (fun w' => w'.cell? ⟨ib, off, none⟩ = some (.slice sA xs.length sc))
    (first | exact HP5.out.cell | exact HP4.out.cell | exact HPd.out.cell)
    (first
      | (go_at_call 21; refine Calls.mono (HC4.out.write un (by omega) (Nat.le_trans hBw HW4.out.size)) ?_; rintro e w5 ⟨rfl, hc5, hw5⟩; have HC5 := Lib.hid hc5; have HP5 := Lib.hid (HP4.out.wr hw5); have HW5 := Lib.hid (HW4.out.trans hw5); clear hc5 hw5)
      | (go_at_call 23; refine Calls.mono (HNU.out _) ?_; rintro e w4 ⟨rfl, hb4⟩; have HC4 := Lib.hid (HCd.out.keep hb4); have HP4 := Lib.hid (HPd.out.wr (Wr.of_below hb4 (Nat.le_trans hBw HWd.out.size))); have HW4 := Lib.hid (HWd.out.trans (Wr.of_below hb4 (Nat.le_trans hBw HWd.out.size))); clear hb4))
  have cp5 := HP5.out.cell
  clear HC4 HP4 HW4 HCd HPd HWd HNU cp cin
  go_wp2_with fail
  clear cp5
  go_loopw [28] (fun vi wr => ∃ i : Nat, vi = .int .i64 i ∧ i ≤ xs.length ∧ Hid (CW B cb (acc ++ un ++ (xs.take i).flatMap wVarI) wr) ∧ Hid (Wr B cb w wr)) (fun vi _ => xs.length - (intOf vi).toNat)
  case atStart => exact ⟨0, rfl, Nat.zero_le _, Lib.hid (by simpa using HC5.out), HW5⟩
  case round =>
    obtain ⟨i, rfl, hi, HCW, HW⟩ := hrel
    clear HP5 HC5 HW5
    have cp := (HP.out.wr HW.out).cell
    by_cases hil : i < xs.length
    · obtain ⟨bb, oo, hA, _, d0, d1, d2, d3, d4, d5⟩ := cells_of_VarI (HS.out.below (HW.out.below.mono hbx)) hil
      have HT := Lib.hid (List.take_succ_eq_append_getElem hil)
      have HX := Lib.hid (HONE.out _ (List.getElem_mem hil))
      have hpre : (xs.take (i + 1)).flatMap wVarI ++ (xs.drop (i + 1)).flatMap wVarI = xs.flatMap wVarI := by rw [← List.flatMap_append, List.take_append_drop]
      have hpl := congrArg List.length hpre
      rw [HT.out, List.flatMap_append] at hpl
      simp only [List.length_append, List.flatMap_cons, List.flatMap_nil, List.append_nil] at hpl
      have HLN : Hid (acc ++ un ++ (xs.take (i + 1)).flatMap wVarI = acc ++ un ++ (xs.take i).flatMap wVarI ++ wVarI (xs[i]'hil)) := Lib.hid (by rw [HT.out, List.flatMap_append]; simp)
      have hacc : (acc ++ un ++ (xs.take i).flatMap wVarI).length + (wVarI (xs[i]'hil)).length ≤ 70368744177664 := by simp only [List.length_append]; omega
      generalize acc ++ un ++ (xs.take i).flatMap wVarI = ac at HCW HLN hacc
      generalize xs[i]'hil = y at d0 d1 d2 d3 d4 d5 HX HLN hacc
      have HXC : Hid (Calls Tryd.prog 86 #[.pointer (some ⟨wr.heap.size, 0, none⟩), .pointer (some cap)] (wr.alloc (.cells y.parts.toArray 197)) (PutPost B cb (wr.alloc (.cells y.parts.toArray 197)) (ac ++ wVarI y))) :=
        HX.out _ ac wr.heap.size (HK.out.wr _ _ HI.out hBw (HW.out.alloc _ (Nat.le_trans hBw HW.out.size))) (HCW.out.alloc _) (Nat.le_trans hBw (Nat.le_trans HW.out.size (by simp))) (Blk.new _ _ _) (by have := HCW.out.lt; omega) hacc
      unfold PutPost at HXC
      rw [hA] at cp
      clear hA hpre hpl HT HX hacc
      obtain ⟨y0, y1, y2, y3, y4, y5⟩ := y
      simp only at d0 d1 d2 d3 d4 d5
      simp only [VarID.parts] at HXC
      have HWA := Lib.hid (HW.out.alloc (.cells #[.int .i64 y0, .int .i64 y1, .int .i64 y2, .string ⟨y3.toArray⟩, .int .i64 y4, .int .i64 y5] 197) (Nat.le_trans hBw HW.out.size))
      have hi0 : (0 : Int) ≤ (i : Int) := by omega
      have hiI : (i : Int) < (xs.length : Int) := by omega
      go_wp2_with fail
      refine (HXC.out).mono ?_
      rintro r w5 ⟨rfl, hc5, hw5⟩
      have HC5 := Lib.hid hc5
      have HW5 := Lib.hid (HWA.out.trans hw5)
      clear hc5 hw5 HXC HWA cp
      rw [← HLN.out] at HC5
      go_wp2
      go_roundw
      case rel => exact ⟨i + 1, by go_num, by omega, HC5, HW5⟩
      case measure => simp [intOf]; omega
    · obtain rfl : i = xs.length := by omega
      rw [List.take_length, List.append_assoc, ← HWL.out] at HCW
      go_wp2
      exact bodyPost_ret (v := .tuple #[]) (by simp [results, Tryd.results85, go_sem]) rfl ⟨rfl, HCW.out, HW.out⟩

theorem cells_of_Depth {w : World} {B : Nat} {A : Option Addr} {xs : List DepthD} (h : Reads w B 4 A xs.length (xs.flatMap DepthD.parts)) {i : Nat} (hi : i < xs.length) :
    ∃ b off, A = some ⟨b, off, none⟩ ∧ b < B ∧ w.cell? ⟨b, off + i * 4, none⟩ = some (.int .i64 (xs[i]'hi).f0) ∧ w.cell? ⟨b, off + i * 4 + 1, none⟩ = some (.int .i64 (xs[i]'hi).f1) ∧ w.cell? ⟨b, off + i * 4 + 2, none⟩ = some (.int .i64 (xs[i]'hi).f2) ∧ w.cell? ⟨b, off + i * 4 + 3, none⟩ = some (.int .i64 (xs[i]'hi).f3) := by
  obtain ⟨b, off, hA, hb, hc⟩ := h.lit (by omega) (by decide)
  have hcc : ∀ (j : Nat) (x : Value), j < 4 → (xs[i]'hi).parts[j]? = some x → w.cell? ⟨b, off + i * 4 + j, none⟩ = some x := fun j x hj hx => by
    rw [Nat.add_assoc]
    exact hc (i * 4 + j) x ((flat_at _ 4 DepthD.parts_length xs i j hi hj).trans hx)
  exact ⟨b, off, hA, hb, hcc 0 _ (by decide) rfl, hcc 1 _ (by decide) rfl, hcc 2 _ (by decide) rfl, hcc 3 _ (by decide) rfl⟩

set_option maxHeartbeats 8000000 in
set_option maxRecDepth 100000 in
theorem listDepth_w {B cb bx : Nat} {acc : List UInt8} {w : World} (Inv : World → Prop) (cap : Addr) (s : SlD DepthD) (ib off : Nat) {ti : TypeId} {ci : Array Value} (hK : Keeps B cb Inv) (hI : Inv w) (h : CW B cb acc w) (hBw : B ≤ w.heap.size)
    (hp : Blk w ib ti ci) (hpt : ti ≠ 5) (hpc : ib ≠ cb) (hpv : ci[off]? = some (.slice s.A s.xs.length s.c)) (hs : s.In 4 DepthD.parts w bx) (hbx : bx ≤ B)
    (hone : ∀ x ∈ s.xs, ∀ (wx : World) (ac : List UInt8) (xb : Nat), Inv wx → CW B cb ac wx → B ≤ wx.heap.size → Blk wx xb 203 x.parts.toArray → xb ≠ cb → ac.length + (wDepth x).length ≤ 70368744177664 →
      Calls Tryd.prog 88 #[.pointer (some ⟨xb, 0, none⟩), .pointer (some cap)] wx (PutPost B cb wx (ac ++ wDepth x)))
    (hlen : acc.length + (wList wDepth s.xs).length ≤ 70368744177664) :
    Calls Tryd.prog 87 #[.pointer (some ⟨cb, 0, none⟩), .pointer (some ⟨ib, off, none⟩), .func (.func 88) #[] #[.pointer (some cap)]] w (PutPost B cb w (acc ++ wList wDepth s.xs)) := by
  have HONE := Lib.hid hone
  have HS := Lib.hid hs.reads
  have hsl := hs.len
  unfold maxLen at hsl
  have HI := Lib.hid hI
  have HC := Lib.hid h
  have HP := Lib.hid (CellAt.mk_ (cb := cb) hp hpt hpc hpv)
  have HK := Lib.hid hK
  clear hone hs hI h hp hpt hpc hpv hK
  unfold PutPost
  obtain ⟨sA, sc, xs⟩ := s
  simp only at HONE HS HP hsl hlen ⊢
  have HWL : Hid (wList wDepth xs = Lib.uvarint xs.length ++ xs.flatMap wDepth) := rfl
  have hlen2 : acc.length + (Lib.uvarint xs.length).length + (xs.flatMap wDepth).length ≤ 70368744177664 := by
    rw [HWL.out, List.length_append] at hlen; omega
  have hnum : wNum (xs.length : Int) = Lib.uvarint xs.length := by
    unfold wNum
    rw [if_neg (by omega)]
    rfl
  have HNU := Lib.hid (Num_any (xs.length : Int) ⟨by omega, by omega⟩)
  rw [hnum] at HNU
  unfold str at HNU
  clear hnum hlen
  have cin := HC.out.in_
  have cp := HP.out.cell
  go_enter Tryd.func87, Tryd.ntmps87
  go_wp2_with fail
  have HCd : Hid (CW B cb acc w.drew) := HC.out.drew
  have HPd : Hid (CellAt cb w.drew ⟨ib, off, none⟩ (.slice sA xs.length sc)) := HP.out.wr ((Wr.refl B cb w).drew)
  have HWd : Hid (Wr B cb w w.drew) := (Wr.refl B cb w).drew
  generalize Lib.uvarint xs.length = un at HNU HWL hlen2
  go_region_held3 (fun w' => w'.cell? ⟨ib, off, none⟩ = some (.slice sA xs.length sc))
    (first | exact HP5.out.cell | exact HP4.out.cell | exact HPd.out.cell)
    (first
      | (go_at_call 21; refine Calls.mono (HC4.out.write un (by omega) (Nat.le_trans hBw HW4.out.size)) ?_; rintro e w5 ⟨rfl, hc5, hw5⟩; have HC5 := Lib.hid hc5; have HP5 := Lib.hid (HP4.out.wr hw5); have HW5 := Lib.hid (HW4.out.trans hw5); clear hc5 hw5)
      | (go_at_call 23; refine Calls.mono (HNU.out _) ?_; rintro e w4 ⟨rfl, hb4⟩; have HC4 := Lib.hid (HCd.out.keep hb4); have HP4 := Lib.hid (HPd.out.wr (Wr.of_below hb4 (Nat.le_trans hBw HWd.out.size))); have HW4 := Lib.hid (HWd.out.trans (Wr.of_below hb4 (Nat.le_trans hBw HWd.out.size))); clear hb4))
  have cp5 := HP5.out.cell
  clear HC4 HP4 HW4 HCd HPd HWd HNU cp cin
  go_wp2_with fail
  clear cp5
  go_loopw [28] (fun vi wr => ∃ i : Nat, vi = .int .i64 i ∧ i ≤ xs.length ∧ Hid (CW B cb (acc ++ un ++ (xs.take i).flatMap wDepth) wr) ∧ Hid (Wr B cb w wr)) (fun vi _ => xs.length - (intOf vi).toNat)
  case atStart => exact ⟨0, rfl, Nat.zero_le _, Lib.hid (by simpa using HC5.out), HW5⟩
  case round =>
    obtain ⟨i, rfl, hi, HCW, HW⟩ := hrel
    clear HP5 HC5 HW5
    have cp := (HP.out.wr HW.out).cell
    by_cases hil : i < xs.length
    · obtain ⟨bb, oo, hA, _, d0, d1, d2, d3⟩ := cells_of_Depth (HS.out.below (HW.out.below.mono hbx)) hil
      have HT := Lib.hid (List.take_succ_eq_append_getElem hil)
      have HX := Lib.hid (HONE.out _ (List.getElem_mem hil))
      have hpre : (xs.take (i + 1)).flatMap wDepth ++ (xs.drop (i + 1)).flatMap wDepth = xs.flatMap wDepth := by rw [← List.flatMap_append, List.take_append_drop]
      have hpl := congrArg List.length hpre
      rw [HT.out, List.flatMap_append] at hpl
      simp only [List.length_append, List.flatMap_cons, List.flatMap_nil, List.append_nil] at hpl
      have HLN : Hid (acc ++ un ++ (xs.take (i + 1)).flatMap wDepth = acc ++ un ++ (xs.take i).flatMap wDepth ++ wDepth (xs[i]'hil)) := Lib.hid (by rw [HT.out, List.flatMap_append]; simp)
      have hacc : (acc ++ un ++ (xs.take i).flatMap wDepth).length + (wDepth (xs[i]'hil)).length ≤ 70368744177664 := by simp only [List.length_append]; omega
      generalize acc ++ un ++ (xs.take i).flatMap wDepth = ac at HCW HLN hacc
      generalize xs[i]'hil = y at d0 d1 d2 d3 HX HLN hacc
      have HXC : Hid (Calls Tryd.prog 88 #[.pointer (some ⟨wr.heap.size, 0, none⟩), .pointer (some cap)] (wr.alloc (.cells y.parts.toArray 203)) (PutPost B cb (wr.alloc (.cells y.parts.toArray 203)) (ac ++ wDepth y))) :=
        HX.out _ ac wr.heap.size (HK.out.wr _ _ HI.out hBw (HW.out.alloc _ (Nat.le_trans hBw HW.out.size))) (HCW.out.alloc _) (Nat.le_trans hBw (Nat.le_trans HW.out.size (by simp))) (Blk.new _ _ _) (by have := HCW.out.lt; omega) hacc
      unfold PutPost at HXC
      rw [hA] at cp
      clear hA hpre hpl HT HX hacc
      obtain ⟨y0, y1, y2, y3⟩ := y
      simp only at d0 d1 d2 d3
      simp only [DepthD.parts] at HXC
      have HWA := Lib.hid (HW.out.alloc (.cells #[.int .i64 y0, .int .i64 y1, .int .i64 y2, .int .i64 y3] 203) (Nat.le_trans hBw HW.out.size))
      have hi0 : (0 : Int) ≤ (i : Int) := by omega
      have hiI : (i : Int) < (xs.length : Int) := by omega
      go_wp2_with fail
      refine (HXC.out).mono ?_
      rintro r w5 ⟨rfl, hc5, hw5⟩
      have HC5 := Lib.hid hc5
      have HW5 := Lib.hid (HWA.out.trans hw5)
      clear hc5 hw5 HXC HWA cp
      rw [← HLN.out] at HC5
      go_wp2
      go_roundw
      case rel => exact ⟨i + 1, by go_num, by omega, HC5, HW5⟩
      case measure => simp [intOf]; omega
    · obtain rfl : i = xs.length := by omega
      rw [List.take_length, List.append_assoc, ← HWL.out] at HCW
      go_wp2
      exact bodyPost_ret (v := .tuple #[]) (by simp [results, Tryd.results87, go_sem]) rfl ⟨rfl, HCW.out, HW.out⟩

end Go.Proofs.YtefgajipakjpeaaDoor
