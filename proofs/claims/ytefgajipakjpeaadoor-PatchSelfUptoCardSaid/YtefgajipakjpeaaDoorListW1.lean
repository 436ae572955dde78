/-
  image.coder that writes: contracts of image.list, one for each type of elements. Conditions: the encoding is at most 2^46 bytes long; the contract of the function for one element is a premise.
-/
import Derived.Test.YtefgajipakjpeaaDoorImgD
namespace Go.Proofs.YtefgajipakjpeaaDoor
open Go.RowKit

/-- What a writing coder's callee keeps. -/
structure Keeps (B cb : Nat) (Inv : World → Prop) : Prop where
  wr : ∀ a b, Inv a → B ≤ a.heap.size → Wr B cb a b → Inv b

theorem cells_of_Placed {w : World} {B : Nat} {A : Option Addr} {xs : List PlacedD} (h : Reads w B 7 A xs.length (xs.flatMap PlacedD.parts)) {i : Nat} (hi : i < xs.length) :
    ∃ b off, A = some ⟨b, off, none⟩ ∧ b < B ∧ w.cell? ⟨b, off + i * 7, none⟩ = some (.string ⟨(xs[i]'hi).f0.toArray⟩) ∧ w.cell? ⟨b, off + i * 7 + 1, none⟩ = some (.string ⟨(xs[i]'hi).f1.toArray⟩) ∧ w.cell? ⟨b, off + i * 7 + 2, none⟩ = some (.int .i64 (xs[i]'hi).f2) ∧ w.cell? ⟨b, off + i * 7 + 3, none⟩ = some (.int .i64 (xs[i]'hi).f3) ∧ w.cell? ⟨b, off + i * 7 + 4, none⟩ = some (.int .i64 (xs[i]'hi).f4) ∧ w.cell? ⟨b, off + i * 7 + 5, none⟩ = some (.string ⟨(xs[i]'hi).f5.toArray⟩) ∧ w.cell? ⟨b, off + i * 7 + 6, none⟩ = some (.string ⟨(xs[i]'hi).f6.toArray⟩) := by
  obtain ⟨b, off, hA, hb, hc⟩ := h.lit (by omega) (by decide)
  have hcc : ∀ (j : Nat) (x : Value), j < 7 → (xs[i]'hi).parts[j]? = some x → w.cell? ⟨b, off + i * 7 + j, none⟩ = some x := fun j x hj hx => by
    rw [Nat.add_assoc]
    exact hc (i * 7 + j) x ((flat_at _ 7 PlacedD.parts_length xs i j hi hj).trans hx)
  exact ⟨b, off, hA, hb, hcc 0 _ (by decide) rfl, hcc 1 _ (by decide) rfl, hcc 2 _ (by decide) rfl, hcc 3 _ (by decide) rfl, hcc 4 _ (by decide) rfl, hcc 5 _ (by decide) rfl, hcc 6 _ (by decide) rfl⟩

set_option maxHeartbeats 8000000 in
set_option maxRecDepth 100000 in
theorem listPlaced_w {B cb bx : Nat} {acc : List UInt8} {w : World} (Inv : World → Prop) (cap : Addr) (s : SlD PlacedD) (ib off : Nat) {ti : TypeId} {ci : Array Value} (hK : Keeps B cb Inv) (hI : Inv w) (h : CW B cb acc w) (hBw : B ≤ w.heap.size)
    (hp : Blk w ib ti ci) (hpt : ti ≠ 5) (hpc : ib ≠ cb) (hpv : ci[off]? = some (.slice s.A s.xs.length s.c)) (hs : s.In 7 PlacedD.parts w bx) (hbx : bx ≤ B)
    (hone : ∀ x ∈ s.xs, ∀ (wx : World) (ac : List UInt8) (xb : Nat), Inv wx → CW B cb ac wx → B ≤ wx.heap.size → Blk wx xb 115 x.parts.toArray → xb ≠ cb → ac.length + (wPlaced x).length ≤ 70368744177664 →
      Calls Tryd.prog 56 #[.pointer (some ⟨xb, 0, none⟩), .pointer (some cap)] wx (PutPost B cb wx (ac ++ wPlaced x)))
    (hlen : acc.length + (wList wPlaced s.xs).length ≤ 70368744177664) :
    Calls Tryd.prog 55 #[.pointer (some ⟨cb, 0, none⟩), .pointer (some ⟨ib, off, none⟩), .func (.func 56) #[] #[.pointer (some cap)]] w (PutPost B cb w (acc ++ wList wPlaced s.xs)) := by
  have HONE := Lib.hid hone
  have HS := Lib.hid hs.reads
  have hsl := hs.len
  unfold maxLen at hsl
  have HI := Lib.hid hI
  have HC := Lib.hid h
  have HP := Lib.hid (CellAt.mk_ (cb := cb) hp hpt hpc hpv)
  have HK := Lib.hid hK
  clear hone hs hI h hp hpt hpc hpv hK
  unfold PutPost
  obtain ⟨sA, sc, xs⟩ := s
  simp only at HONE HS HP hsl hlen ⊢
  have HWL : Hid (wList wPlaced xs = Lib.uvarint xs.length ++ xs.flatMap wPlaced) := rfl
  have hlen2 : acc.length + (Lib.uvarint xs.length).length + (xs.flatMap wPlaced).length ≤ 70368744177664 := by
    rw [HWL.out, List.length_append] at hlen; omega
  have hnum : wNum (xs.length : Int) = Lib.uvarint xs.length := by
    unfold wNum
    rw [if_neg (by omega)]
    rfl
  have HNU := Lib.hid (Num_any (xs.length : Int) ⟨by omega, by omega⟩)
  rw [hnum] at HNU
  unfold str at HNU
  clear hnum hlen
  have cin := HC.out.in_
  have cp := HP.out.cell
  go_enter Tryd.func55, Tryd.ntmps55
  go_wp2_with fail
  have HCd : Hid (CW B cb acc w.drew) := HC.out.drew
  have HPd : Hid (CellAt cb w.drew ⟨ib, off, none⟩ (.slice sA xs.length sc)) := HP.out.wr ((Wr.refl B cb w).drew)
  have HWd : Hid (Wr B cb w w.drew) := (Wr.refl B cb w).drew
  generalize Lib.uvarint xs.length = un at HNU HWL hlen2
  go_region_held3 (fun w' => w'.cell? ⟨ib, off, none⟩ = some (.slice sA xs.length sc))
    (first | exact HP5.out.cell | exact HP4.out.cell | exact HPd.out.cell)
    (first
      | (go_at_call 21; refine Calls.mono (HC4.out.write un (by omega) (Nat.le_trans hBw HW4.out.size)) ?_; rintro e w5 ⟨rfl, hc5, hw5⟩; have HC5 := Lib.hid hc5; have HP5 := Lib.hid (HP4.out.wr hw5); have HW5 := Lib.hid (HW4.out.trans hw5); clear hc5 hw5)
      | (go_at_call 23; refine Calls.mono (HNU.out _) ?_; rintro e w4 ⟨rfl, hb4⟩; have HC4 := Lib.hid (HCd.out.keep hb4); have HP4 := Lib.hid (HPd.out.wr (Wr.of_below hb4 (Nat.le_trans hBw HWd.out.size))); have HW4 := Lib.hid (HWd.out.trans (Wr.of_below hb4 (Nat.le_trans hBw HWd.out.size))); clear hb4))
  have cp5 := HP5.out.cell
  clear HC4 HP4 HW4 HCd HPd HWd HNU cp cin
  go_wp2_with fail
  clear cp5
  go_loopw [28] (fun vi wr => ∃ i : Nat, vi = .int .i64 i ∧ i ≤ xs.length ∧ Hid (CW B cb (acc ++ un ++ (xs.take i).flatMap wPlaced) wr) ∧ Hid (Wr B cb w wr)) (fun vi _ => xs.length - (intOf vi).toNat)
  case atStart => exact ⟨0, rfl, Nat.zero_le _, Lib.hid (by simpa using HC5.out), HW5⟩
  case round =>
    obtain ⟨i, rfl, hi, HCW, HW⟩ := hrel
    clear HP5 HC5 HW5
    have cp := (HP.out.wr HW.out).cell
    by_cases hil : i < xs.length
    · obtain ⟨bb, oo, hA, _, d0, d1, d2, d3, d4, d5, d6⟩ := cells_of_Placed (HS.out.below (HW.out.below.mono hbx)) hil
      have HT := Lib.hid (List.take_succ_eq_append_getElem hil)
      have HX := Lib.hid (HONE.out _ (List.getElem_mem hil))
      have hpre : (xs.take (i + 1)).flatMap wPlaced ++ (xs.drop (i + 1)).flatMap wPlaced = xs.flatMap wPlaced := by rw [← List.flatMap_append, List.take_append_drop]
      have hpl := congrArg List.length hpre
      rw [HT.out, List.flatMap_append] at hpl
      simp only [List.length_append, List.flatMap_cons, List.flatMap_nil, List.append_nil] at hpl
      have HLN : Hid (acc ++ un ++ (xs.take (i + 1)).flatMap wPlaced = acc ++ un ++ (xs.take i).flatMap wPlaced ++ wPlaced (xs[i]'hil)) := Lib.hid (by rw [HT.out, List.flatMap_append]; simp)
      have hacc : (acc ++ un ++ (xs.take i).flatMap wPlaced).length + (wPlaced (xs[i]'hil)).length ≤ 70368744177664 := by simp only [List.length_append]; omega
      generalize acc ++ un ++ (xs.take i).flatMap wPlaced = ac at HCW HLN hacc
      generalize xs[i]'hil = y at d0 d1 d2 d3 d4 d5 d6 HX HLN hacc
      have HXC : Hid (Calls Tryd.prog 56 #[.pointer (some ⟨wr.heap.size, 0, none⟩), .pointer (some cap)] (wr.alloc (.cells y.parts.toArray 115)) (PutPost B cb (wr.alloc (.cells y.parts.toArray 115)) (ac ++ wPlaced y))) :=
        HX.out _ ac wr.heap.size (HK.out.wr _ _ HI.out hBw (HW.out.alloc _ (Nat.le_trans hBw HW.out.size))) (HCW.out.alloc _) (Nat.le_trans hBw (Nat.le_trans HW.out.size (by simp))) (Blk.new _ _ _) (by have := HCW.out.lt; omega) hacc
      unfold PutPost at HXC
      rw [hA] at cp
      clear hA hpre hpl HT HX hacc
      obtain ⟨y0, y1, y2, y3, y4, y5, y6⟩ := y
      simp only at d0 d1 d2 d3 d4 d5 d6
      simp only [PlacedD.parts] at HXC
      have HWA := Lib.hid (HW.out.alloc (.cells #[.string ⟨y0.toArray⟩, .string ⟨y1.toArray⟩, .int .i64 y2, .int .i64 y3, .int .i64 y4, .string ⟨y5.toArray⟩, .string ⟨y6.toArray⟩] 115) (Nat.le_trans hBw HW.out.size))
      have hi0 : (0 : Int) ≤ (i : Int) := by omega
      have hiI : (i : Int) < (xs.length : Int) := by omega
      go_wp2_with fail
      refine (HXC.out).mono ?_
      rintro r w5 ⟨rfl, hc5, hw5⟩
      have HC5 := Lib.hid hc5
      have HW5 := Lib.hid (HWA.out.trans hw5)
      clear hc5 hw5 HXC HWA cp
      rw [← HLN.out] at HC5
      go_wp2
      go_roundw
      case rel => exact ⟨i + 1, by go_num, by omega, HC5, HW5⟩
      case measure => simp [intOf]; omega
    · obtain rfl : i = xs.length := by omega
      rw [List.take_length, List.append_assoc, ← HWL.out] at HCW
      go_wp2
      exact bodyPost_ret (v := .tuple #[]) (by simp [results, Tryd.results55, go_sem]) rfl ⟨rfl, HCW.out, HW.out⟩

theorem cells_of_Export {w : World} {B : Nat} {A : Option Addr} {xs : List ExportD} (h : Reads w B 6 A xs.length (xs.flatMap ExportD.parts)) {i : Nat} (hi : i < xs.length) :
    ∃ b off, A = some ⟨b, off, none⟩ ∧ b < B ∧ w.cell? ⟨b, off + i * 6, none⟩ = some (.string ⟨(xs[i]'hi).f0.toArray⟩) ∧ w.cell? ⟨b, off + i * 6 + 1, none⟩ = some (.string ⟨(xs[i]'hi).f1.toArray⟩) ∧ w.cell? ⟨b, off + i * 6 + 2, none⟩ = some (.bool (xs[i]'hi).f2) ∧ w.cell? ⟨b, off + i * 6 + 3, none⟩ = some (.int .i64 (xs[i]'hi).f3) ∧ w.cell? ⟨b, off + i * 6 + 4, none⟩ = some (.int .i64 (xs[i]'hi).f4) ∧ w.cell? ⟨b, off + i * 6 + 5, none⟩ = some (.int .i64 (xs[i]'hi).f5) := by
  obtain ⟨b, off, hA, hb, hc⟩ := h.lit (by omega) (by decide)
  have hcc : ∀ (j : Nat) (x : Value), j < 6 → (xs[i]'hi).parts[j]? = some x → w.cell? ⟨b, off + i * 6 + j, none⟩ = some x := fun j x hj hx => by
    rw [Nat.add_assoc]
    exact hc (i * 6 + j) x ((flat_at _ 6 ExportD.parts_length xs i j hi hj).trans hx)
  exact ⟨b, off, hA, hb, hcc 0 _ (by decide) rfl, hcc 1 _ (by decide) rfl, hcc 2 _ (by decide) rfl, hcc 3 _ (by decide) rfl, hcc 4 _ (by decide) rfl, hcc 5 _ (by decide) rfl⟩

set_option maxHeartbeats 8000000 in
set_option maxRecDepth 100000 in
theorem listExport_w {B cb bx : Nat} {acc : List UInt8} {w : World} (Inv : World → Prop) (cap : Addr) (s : SlD ExportD) (ib off : Nat) {ti : TypeId} {ci : Array Value} (hK : Keeps B cb Inv) (hI : Inv w) (h : CW B cb acc w) (hBw : B ≤ w.heap.size)
    (hp : Blk w ib ti ci) (hpt : ti ≠ 5) (hpc : ib ≠ cb) (hpv : ci[off]? = some (.slice s.A s.xs.length s.c)) (hs : s.In 6 ExportD.parts w bx) (hbx : bx ≤ B)
    (hone : ∀ x ∈ s.xs, ∀ (wx : World) (ac : List UInt8) (xb : Nat), Inv wx → CW B cb ac wx → B ≤ wx.heap.size → Blk wx xb 121 x.parts.toArray → xb ≠ cb → ac.length + (wExport x).length ≤ 70368744177664 →
      Calls Tryd.prog 58 #[.pointer (some ⟨xb, 0, none⟩), .pointer (some cap)] wx (PutPost B cb wx (ac ++ wExport x)))
    (hlen : acc.length + (wList wExport s.xs).length ≤ 70368744177664) :
    Calls Tryd.prog 57 #[.pointer (some ⟨cb, 0, none⟩), .pointer (some ⟨ib, off, none⟩), .func (.func 58) #[] #[.pointer (some cap)]] w (PutPost B cb w (acc ++ wList wExport s.xs)) := by
  have HONE := Lib.hid hone
  have HS := Lib.hid hs.reads
  have hsl := hs.len
  unfold maxLen at hsl
  have HI := Lib.hid hI
  have HC := Lib.hid h
  have HP := Lib.hid (CellAt.mk_ (cb := cb) hp hpt hpc hpv)
  have HK := Lib.hid hK
  clear hone hs hI h hp hpt hpc hpv hK
  unfold PutPost
  obtain ⟨sA, sc, xs⟩ := s
  simp only at HONE HS HP hsl hlen ⊢
  have HWL : Hid (wList wExport xs = Lib.uvarint xs.length ++ xs.flatMap wExport) := rfl
  have hlen2 : acc.length + (Lib.uvarint xs.length).length + (xs.flatMap wExport).length ≤ 70368744177664 := by
    rw [HWL.out, List.length_append] at hlen; omega
  have hnum : wNum (xs.length : Int) = Lib.uvarint xs.length := by
    unfold wNum
    rw [if_neg (by omega)]
    rfl
  have HNU := Lib.hid (Num_any (xs.length : Int) ⟨by omega, by omega⟩)
  rw [hnum] at HNU
  unfold str at HNU
  clear hnum hlen
  have cin := HC.out.in_
  have cp := HP.out.cell
  go_enter Tryd.func57, Tryd.ntmps57
  go_wp2_with fail
  have HCd : Hid (CW B cb acc w.drew) := HC.out.drew
  have HPd : Hid (CellAt cb w.drew ⟨ib, off, none⟩ (.slice sA xs.length sc)) := HP.out.wr ((Wr.refl B cb w).drew)
  have HWd : Hid (Wr B cb w w.drew) := (Wr.refl B cb w).drew
  generalize Lib.uvarint xs.length = un at HNU HWL hlen2
  go_region_held3 (fun w' => w'.cell? ⟨ib, off, none⟩ = some (.slice sA xs.length sc))
    (first | exact HP5.out.cell | exact HP4.out.cell | exact HPd.out.cell)
    (first
      | (go_at_call 21; refine Calls.mono (HC4.out.write un (by omega) (Nat.le_trans hBw HW4.out.size)) ?_; rintro e w5 ⟨rfl, hc5, hw5⟩; have HC5 := Lib.hid hc5; have HP5 := Lib.hid (HP4.out.wr hw5); have HW5 := Lib.hid (HW4.out.trans hw5); clear hc5 hw5)
      | (go_at_call 23; refine Calls.mono (HNU.out _) ?_; rintro e w4 ⟨rfl, hb4⟩; have HC4 := Lib.hid (HCd.out.keep hb4); have HP4 := Lib.hid (HPd.out.wr (Wr.of_below hb4 (Nat.le_trans hBw HWd.out.size))); have HW4 := Lib.hid (HWd.out.trans (Wr.of_below hb4 (Nat.le_trans hBw HWd.out.size))); clear hb4))
  have cp5 := HP5.out.cell
  clear HC4 HP4 HW4 HCd HPd HWd HNU cp cin
  go_wp2_with fail
  clear cp5
  go_loopw [28] (fun vi wr => ∃ i : Nat, vi = .int .i64 i ∧ i ≤ xs.length ∧ Hid (CW B cb (acc ++ un ++ (xs.take i).flatMap wExport) wr) ∧ Hid (Wr B cb w wr)) (fun vi _ => xs.length - (intOf vi).toNat)
  case atStart => exact ⟨0, rfl, Nat.zero_le _, Lib.hid (by simpa using HC5.out), HW5⟩
  case round =>
    obtain ⟨i, rfl, hi, HCW, HW⟩ := hrel
    clear HP5 HC5 HW5
    have cp := (HP.out.wr HW.out).cell
    by_cases hil : i < xs.length
    · obtain ⟨bb, oo, hA, _, d0, d1, d2, d3, d4, d5⟩ := cells_of_Export (HS.out.below (HW.out.below.mono hbx)) hil
      have HT := Lib.hid (List.take_succ_eq_append_getElem hil)
      have HX := Lib.hid (HONE.out _ (List.getElem_mem hil))
      have hpre : (xs.take (i + 1)).flatMap wExport ++ (xs.drop (i + 1)).flatMap wExport = xs.flatMap wExport := by rw [← List.flatMap_append, List.take_append_drop]
      have hpl := congrArg List.length hpre
      rw [HT.out, List.flatMap_append] at hpl
      simp only [List.length_append, List.flatMap_cons, List.flatMap_nil, List.append_nil] at hpl
      have HLN : Hid (acc ++ un ++ (xs.take (i + 1)).flatMap wExport = acc ++ un ++ (xs.take i).flatMap wExport ++ wExport (xs[i]'hil)) := Lib.hid (by rw [HT.out, List.flatMap_append]; simp)
      have hacc : (acc ++ un ++ (xs.take i).flatMap wExport).length + (wExport (xs[i]'hil)).length ≤ 70368744177664 := by simp only [List.length_append]; omega
      generalize acc ++ un ++ (xs.take i).flatMap wExport = ac at HCW HLN hacc
      generalize xs[i]'hil = y at d0 d1 d2 d3 d4 d5 HX HLN hacc
      have HXC : Hid (Calls Tryd.prog 58 #[.pointer (some ⟨wr.heap.size, 0, none⟩), .pointer (some cap)] (wr.alloc (.cells y.parts.toArray 121)) (PutPost B cb (wr.alloc (.cells y.parts.toArray 121)) (ac ++ wExport y))) :=
        HX.out _ ac wr.heap.size (HK.out.wr _ _ HI.out hBw (HW.out.alloc _ (Nat.le_trans hBw HW.out.size))) (HCW.out.alloc _) (Nat.le_trans hBw (Nat.le_trans HW.out.size (by simp))) (Blk.new _ _ _) (by have := HCW.out.lt; omega) hacc
      unfold PutPost at HXC
      rw [hA] at cp
      clear hA hpre hpl HT HX hacc
      obtain ⟨y0, y1, y2, y3, y4, y5⟩ := y
      simp only at d0 d1 d2 d3 d4 d5
      simp only [ExportD.parts] at HXC
      have HWA := Lib.hid (HW.out.alloc (.cells #[.string ⟨y0.toArray⟩, .string ⟨y1.toArray⟩, .bool y2, .int .i64 y3, .int .i64 y4, .int .i64 y5] 121) (Nat.le_trans hBw HW.out.size))
      have hi0 : (0 : Int) ≤ (i : Int) := by omega
      have hiI : (i : Int) < (xs.length : Int) := by omega
      go_wp2_with fail
      refine (HXC.out).mono ?_
      rintro r w5 ⟨rfl, hc5, hw5⟩
      have HC5 := Lib.hid hc5
      have HW5 := Lib.hid (HWA.out.trans hw5)
      clear hc5 hw5 HXC HWA cp
      rw [← HLN.out] at HC5
      go_wp2
      go_roundw
      case rel => exact ⟨i + 1, by go_num, by omega, HC5, HW5⟩
      case measure => simp [intOf]; omega
    · obtain rfl : i = xs.length := by omega
      rw [List.take_length, List.append_assoc, ← HWL.out] at HCW
      go_wp2
      exact bodyPost_ret (v := .tuple #[]) (by simp [results, Tryd.results57, go_sem]) rfl ⟨rfl, HCW.out, HW.out⟩

theorem cells_of_Import {w : World} {B : Nat} {A : Option Addr} {xs : List ImportD} (h : Reads w B 5 A xs.length (xs.flatMap ImportD.parts)) {i : Nat} (hi : i < xs.length) :
    ∃ b off, A = some ⟨b, off, none⟩ ∧ b < B ∧ w.cell? ⟨b, off + i * 5, none⟩ = some (.string ⟨(xs[i]'hi).f0.toArray⟩) ∧ w.cell? ⟨b, off + i * 5 + 1, none⟩ = some (.string ⟨(xs[i]'hi).f1.toArray⟩) ∧ w.cell? ⟨b, off + i * 5 + 2, none⟩ = some (.int .i64 (xs[i]'hi).f2) ∧ w.cell? ⟨b, off + i * 5 + 3, none⟩ = some (.bool (xs[i]'hi).f3) ∧ w.cell? ⟨b, off + i * 5 + 4, none⟩ = some (.bool (xs[i]'hi).f4) := by
  obtain ⟨b, off, hA, hb, hc⟩ := h.lit (by omega) (by decide)
  have hcc : ∀ (j : Nat) (x : Value), j < 5 → (xs[i]'hi).parts[j]? = some x → w.cell? ⟨b, off + i * 5 + j, none⟩ = some x := fun j x hj hx => by
    rw [Nat.add_assoc]
    exact hc (i * 5 + j) x ((flat_at _ 5 ImportD.parts_length xs i j hi hj).trans hx)
  exact ⟨b, off, hA, hb, hcc 0 _ (by decide) rfl, hcc 1 _ (by decide) rfl, hcc 2 _ (by decide) rfl, hcc 3 _ (by decide) rfl, hcc 4 _ (by decide) rfl⟩

set_option maxHeartbeats 8000000 in
set_option maxRecDepth 100000 in
theorem listImport_w {B cb bx : Nat} {acc : List UInt8} {w : World} (Inv : World → Prop) (cap : Addr) (s : SlD ImportD) (ib off : Nat) {ti : TypeId} {ci : Array Value} (hK : Keeps B cb Inv) (hI : Inv w) (h : CW B cb acc w) (hBw : B ≤ w.heap.size)
    (hp : Blk w ib ti ci) (hpt : ti ≠ 5) (hpc : ib ≠ cb) (hpv : ci[off]? = some (.slice s.A s.xs.length s.c)) (hs : s.In 5 ImportD.parts w bx) (hbx : bx ≤ B)
    (hone : ∀ x ∈ s.xs, ∀ (wx : World) (ac : List UInt8) (xb : Nat), Inv wx → CW B cb ac wx → B ≤ wx.heap.size → Blk wx xb 127 x.parts.toArray → xb ≠ cb → ac.length + (wImport x).length ≤ 70368744177664 →
      Calls Tryd.prog 60 #[.pointer (some ⟨xb, 0, none⟩), .pointer (some cap)] wx (PutPost B cb wx (ac ++ wImport x)))
    (hlen : acc.length + (wList wImport s.xs).length ≤ 70368744177664) :
    Calls Tryd.prog 59 #[.pointer (some ⟨cb, 0, none⟩), .pointer (some ⟨ib, off, none⟩), .func (.func 60) #[] #[.pointer (some cap)]] w (PutPost B cb w (acc ++ wList wImport s.xs)) := by
  have HONE := Lib.hid hone
  have HS := Lib.hid hs.reads
  have hsl := hs.len
  unfold maxLen at hsl
  have HI := Lib.hid hI
  have HC := Lib.hid h
  have HP := Lib.hid (CellAt.mk_ (cb := cb) hp hpt hpc hpv)
  have HK := Lib.hid hK
  clear hone hs hI h hp hpt hpc hpv hK
  unfold PutPost
  obtain ⟨sA, sc, xs⟩ := s
  simp only at HONE HS HP hsl hlen ⊢
  have HWL : Hid (wList wImport xs = Lib.uvarint xs.length ++ xs.flatMap wImport) := rfl
  have hlen2 : acc.length + (Lib.uvarint xs.length).length + (xs.flatMap wImport).length ≤ 70368744177664 := by
    rw [HWL.out, List.length_append] at hlen; omega
  have hnum : wNum (xs.length : Int) = Lib.uvarint xs.length := by
    unfold wNum
    rw [if_neg (by omega)]
    rfl
  have HNU := Lib.hid (Num_any (xs.length : Int) ⟨by omega, by omega⟩)
  rw [hnum] at HNU
  unfold str at HNU
  clear hnum hlen
  have cin := HC.out.in_
  have cp := HP.out.cell
  go_enter Tryd.func59, Tryd.ntmps59
  go_wp2_with fail
  have HCd : Hid (CW B cb acc w.drew) := HC.out.drew
  have HPd : Hid (CellAt cb w.drew ⟨ib, off, none⟩ (.slice sA xs.length sc)) := HP.out.wr ((Wr.refl B cb w).drew)
  have HWd : Hid (Wr B cb w w.drew) := (Wr.refl B cb w).drew
  generalize Lib.uvarint xs.length = un at HNU HWL hlen2
  go_region_held3 (fun w' => w'.cell? ⟨ib, off, none⟩ = some (.slice sA xs.length sc))
    (first | exact HP5.out.cell | exact HP4.out.cell | exact HPd.out.cell)
    (first
      | (go_at_call 21; refine Calls.mono (HC4.out.write un (by omega) (Nat.le_trans hBw HW4.out.size)) ?_; rintro e w5 ⟨rfl, hc5, hw5⟩; have HC5 := Lib.hid hc5; have HP5 := Lib.hid (HP4.out.wr hw5); have HW5 := Lib.hid (HW4.out.trans hw5); clear hc5 hw5)
      | (go_at_call 23; refine Calls.mono (HNU.out _) ?_; rintro e w4 ⟨rfl, hb4⟩; have HC4 := Lib.hid (HCd.out.keep hb4); have HP4 := Lib.hid (HPd.out.wr (Wr.of_below hb4 (Nat.le_trans hBw HWd.out.size))); have HW4 := Lib.hid (HWd.out.trans (Wr.of_below hb4 (Nat.le_trans hBw HWd.out.size))); clear hb4))
  have cp5 := HP5.out.cell
  clear HC4 HP4 HW4 HCd HPd HWd HNU cp cin
  go_wp2_with fail
  clear cp5
  go_loopw [28] (fun vi wr => ∃ i : Nat, vi = .int .i64 i ∧ i ≤ xs.length ∧ Hid (CW B cb (acc ++ un ++ (xs.take i).flatMap wImport) wr) ∧ Hid (Wr B cb w wr)) (fun vi _ => xs.length - (intOf vi).toNat)
  case atStart => exact ⟨0, rfl, Nat.zero_le _, Lib.hid (by simpa using HC5.out), HW5⟩
  case round =>
    obtain ⟨i, rfl, hi, HCW, HW⟩ := hrel
    clear HP5 HC5 HW5
    have cp := (HP.out.wr HW.out).cell
    by_cases hil : i < xs.length
    · obtain ⟨bb, oo, hA, _, d0, d1, d2, d3, d4⟩ := cells_of_Import (HS.out.below (HW.out.below.mono hbx)) hil
      have HT := Lib.hid (List.take_succ_eq_append_getElem hil)
      have HX := Lib.hid (HONE.out _ (List.getElem_mem hil))
      have hpre : (xs.take (i + 1)).flatMap wImport ++ (xs.drop (i + 1)).flatMap wImport = xs.flatMap wImport := by rw [← List.flatMap_append, List.take_append_drop]
      have hpl := congrArg List.length hpre
      rw [HT.out, List.flatMap_append] at hpl
      simp only [List.length_append, List.flatMap_cons, List.flatMap_nil, List.append_nil] at hpl
      have HLN : Hid (acc ++ un ++ (xs.take (i + 1)).flatMap wImport = acc ++ un ++ (xs.take i).flatMap wImport ++ wImport (xs[i]'hil)) := Lib.hid (by rw [HT.out, List.flatMap_append]; simp)
      have hacc : (acc ++ un ++ (xs.take i).flatMap wImport).length + (wImport (xs[i]'hil)).length ≤ 70368744177664 := by simp only [List.length_append]; omega
      generalize acc ++ un ++ (xs.take i).flatMap wImport = ac at HCW HLN hacc
      generalize xs[i]'hil = y at d0 d1 d2 d3 d4 HX HLN hacc
      have HXC : Hid (Calls Tryd.prog 60 #[.pointer (some ⟨wr.heap.size, 0, none⟩), .pointer (some cap)] (wr.alloc (.cells y.parts.toArray 127)) (PutPost B cb (wr.alloc (.cells y.parts.toArray 127)) (ac ++ wImport y))) :=
        HX.out _ ac wr.heap.size (HK.out.wr _ _ HI.out hBw (HW.out.alloc _ (Nat.le_trans hBw HW.out.size))) (HCW.out.alloc _) (Nat.le_trans hBw (Nat.le_trans HW.out.size (by simp))) (Blk.new _ _ _) (by have := HCW.out.lt; omega) hacc
      unfold PutPost at HXC
      rw [hA] at cp
      clear hA hpre hpl HT HX hacc
      obtain ⟨y0, y1, y2, y3, y4⟩ := y
      simp only at d0 d1 d2 d3 d4
      simp only [ImportD.parts] at HXC
      have HWA := Lib.hid (HW.out.alloc (.cells #[.string ⟨y0.toArray⟩, .string ⟨y1.toArray⟩, .int .i64 y2, .bool y3, .bool y4] 127) (Nat.le_trans hBw HW.out.size))
      have hi0 : (0 : Int) ≤ (i : Int) := by omega
      have hiI : (i : Int) < (xs.length : Int) := by omega
      go_wp2_with fail
      refine (HXC.out).mono ?_
      rintro r w5 ⟨rfl, hc5, hw5⟩
      have HC5 := Lib.hid hc5
      have HW5 := Lib.hid (HWA.out.trans hw5)
      clear hc5 hw5 HXC HWA cp
      rw [← HLN.out] at HC5
      go_wp2
      go_roundw
      case rel => exact ⟨i + 1, by go_num, by omega, HC5, HW5⟩
      case measure => simp [intOf]; omega
    · obtain rfl : i = xs.length := by omega
      rw [List.take_length, List.append_assoc, ← HWL.out] at HCW
      go_wp2
      exact bodyPost_ret (v := .tuple #[]) (by simp [results, Tryd.results59, go_sem]) rfl ⟨rfl, HCW.out, HW.out⟩

theorem cells_of_Int_ {w : World} {B : Nat} {A : Option Addr} {xs : List Int_D} (h : Reads w B 1 A xs.length (xs.flatMap Int_D.parts)) {i : Nat} (hi : i < xs.length) :
    ∃ b off, A = some ⟨b, off, none⟩ ∧ b < B ∧ w.cell? ⟨b, off + i, none⟩ = some (.int .i64 (xs[i]'hi).f0) := by
  obtain ⟨b, off, hA, hb, hc⟩ := h.lit (by omega) (by decide)
  have hcc : ∀ (j : Nat) (x : Value), j < 1 → (xs[i]'hi).parts[j]? = some x → w.cell? ⟨b, off + i * 1 + j, none⟩ = some x := fun j x hj hx => by
    rw [Nat.add_assoc]
    exact hc (i * 1 + j) x ((flat_at _ 1 Int_D.parts_length xs i j hi hj).trans hx)
  exact ⟨b, off, hA, hb, by have := hcc 0 _ (by decide) rfl; simpa using this⟩

set_option maxHeartbeats 8000000 in
set_option maxRecDepth 100000 in
theorem listInt__w {B cb bx : Nat} {acc : List UInt8} {w : World} (Inv : World → Prop) (cap : Addr) (s : SlD Int_D) (ib off : Nat) {ti : TypeId} {ci : Array Value} (hK : Keeps B cb Inv) (hI : Inv w) (h : CW B cb acc w) (hBw : B ≤ w.heap.size)
    (hp : Blk w ib ti ci) (hpt : ti ≠ 5) (hpc : ib ≠ cb) (hpv : ci[off]? = some (.slice s.A s.xs.length s.c)) (hs : s.In 1 Int_D.parts w bx) (hbx : bx ≤ B)
    (hone : ∀ x ∈ s.xs, ∀ (wx : World) (ac : List UInt8) (xb : Nat), Inv wx → CW B cb ac wx → B ≤ wx.heap.size → Blk wx xb 3 x.parts.toArray → xb ≠ cb → ac.length + (wInt_ x).length ≤ 70368744177664 →
      Calls Tryd.prog 50 #[.pointer (some ⟨xb, 0, none⟩), .pointer (some cap)] wx (PutPost B cb wx (ac ++ wInt_ x)))
    (hlen : acc.length + (wList wInt_ s.xs).length ≤ 70368744177664) :
    Calls Tryd.prog 61 #[.pointer (some ⟨cb, 0, none⟩), .pointer (some ⟨ib, off, none⟩), .func (.func 50) #[] #[.pointer (some cap)]] w (PutPost B cb w (acc ++ wList wInt_ s.xs)) := by
  have HONE := Lib.hid hone
  have HS := Lib.hid hs.reads
  have hsl := hs.len
  unfold maxLen at hsl
  have HI := Lib.hid hI
  have HC := Lib.hid h
  have HP := Lib.hid (CellAt.mk_ (cb := cb) hp hpt hpc hpv)
  have HK := Lib.hid hK
  clear hone hs hI h hp hpt hpc hpv hK
  unfold PutPost
  obtain ⟨sA, sc, xs⟩ := s
  simp only at HONE HS HP hsl hlen ⊢
  have HWL : Hid (wList wInt_ xs = Lib.uvarint xs.length ++ xs.flatMap wInt_) := rfl
  have hlen2 : acc.length + (Lib.uvarint xs.length).length + (xs.flatMap wInt_).length ≤ 70368744177664 := by
    rw [HWL.out, List.length_append] at hlen; omega
  have hnum : wNum (xs.length : Int) = Lib.uvarint xs.length := by
    unfold wNum
    rw [if_neg (by omega)]
    rfl
  have HNU := Lib.hid (Num_any (xs.length : Int) ⟨by omega, by omega⟩)
  rw [hnum] at HNU
  unfold str at HNU
  clear hnum hlen
  have cin := HC.out.in_
  have cp := HP.out.cell
  go_enter Tryd.func61, Tryd.ntmps61
  go_wp2_with fail
  have HCd : Hid (CW B cb acc w.drew) := HC.out.drew
  have HPd : Hid (CellAt cb w.drew ⟨ib, off, none⟩ (.slice sA xs.length sc)) := HP.out.wr ((Wr.refl B cb w).drew)
  have HWd : Hid (Wr B cb w w.drew) := (Wr.refl B cb w).drew
  generalize Lib.uvarint xs.length = un at HNU HWL hlen2
  go_region_held3 (fun w' => w'.cell? ⟨ib, off, none⟩ = some (.slice sA xs.length sc))
    (first | exact HP5.out.cell | exact HP4.out.cell | exact HPd.out.cell)
    (first
      | (go_at_call 21; refine Calls.mono (HC4.out.write un (by omega) (Nat.le_trans hBw HW4.out.size)) ?_; rintro e w5 ⟨rfl, hc5, hw5⟩; have HC5 := Lib.hid hc5; have HP5 := Lib.hid (HP4.out.wr hw5); have HW5 := Lib.hid (HW4.out.trans hw5); clear hc5 hw5)
      | (go_at_call 23; refine Calls.mono (HNU.out _) ?_; rintro e w4 ⟨rfl, hb4⟩; have HC4 := Lib.hid (HCd.out.keep hb4); have HP4 := Lib.hid (HPd.out.wr (Wr.of_below hb4 (Nat.le_trans hBw HWd.out.size))); have HW4 := Lib.hid (HWd.out.trans (Wr.of_below hb4 (Nat.le_trans hBw HWd.out.size))); clear hb4))
  have cp5 := HP5.out.cell
  clear HC4 HP4 HW4 HCd HPd HWd HNU cp cin
  go_wp2_with fail
  clear cp5
  go_loopw [28] (fun vi wr => ∃ i : Nat, vi = .int .i64 i ∧ i ≤ xs.length ∧ Hid (CW B cb (acc ++ un ++ (xs.take i).flatMap wInt_) wr) ∧ Hid (Wr B cb w wr)) (fun vi _ => xs.length - (intOf vi).toNat)
  case atStart => exact ⟨0, rfl, Nat.zero_le _, Lib.hid (by simpa using HC5.out), HW5⟩
  case round =>
    obtain ⟨i, rfl, hi, HCW, HW⟩ := hrel
    clear HP5 HC5 HW5
    have cp := (HP.out.wr HW.out).cell
    by_cases hil : i < xs.length
    · obtain ⟨bb, oo, hA, _, d0⟩ := cells_of_Int_ (HS.out.below (HW.out.below.mono hbx)) hil
      have HT := Lib.hid (List.take_succ_eq_append_getElem hil)
      have HX := Lib.hid (HONE.out _ (List.getElem_mem hil))
      have hpre : (xs.take (i + 1)).flatMap wInt_ ++ (xs.drop (i + 1)).flatMap wInt_ = xs.flatMap wInt_ := by rw [← List.flatMap_append, List.take_append_drop]
      have hpl := congrArg List.length hpre
      rw [HT.out, List.flatMap_append] at hpl
      simp only [List.length_append, List.flatMap_cons, List.flatMap_nil, List.append_nil] at hpl
      have HLN : Hid (acc ++ un ++ (xs.take (i + 1)).flatMap wInt_ = acc ++ un ++ (xs.take i).flatMap wInt_ ++ wInt_ (xs[i]'hil)) := Lib.hid (by rw [HT.out, List.flatMap_append]; simp)
      have hacc : (acc ++ un ++ (xs.take i).flatMap wInt_).length + (wInt_ (xs[i]'hil)).length ≤ 70368744177664 := by simp only [List.length_append]; omega
      generalize acc ++ un ++ (xs.take i).flatMap wInt_ = ac at HCW HLN hacc
      generalize xs[i]'hil = y at d0 HX HLN hacc
      have HXC : Hid (Calls Tryd.prog 50 #[.pointer (some ⟨wr.heap.size, 0, none⟩), .pointer (some cap)] (wr.alloc (.cells y.parts.toArray 3)) (PutPost B cb (wr.alloc (.cells y.parts.toArray 3)) (ac ++ wInt_ y))) :=
        HX.out _ ac wr.heap.size (HK.out.wr _ _ HI.out hBw (HW.out.alloc _ (Nat.le_trans hBw HW.out.size))) (HCW.out.alloc _) (Nat.le_trans hBw (Nat.le_trans HW.out.size (by simp))) (Blk.new _ _ _) (by have := HCW.out.lt; omega) hacc
      unfold PutPost at HXC
      rw [hA] at cp
      clear hA hpre hpl HT HX hacc
      obtain ⟨y0⟩ := y
      simp only at d0
      simp only [Int_D.parts] at HXC
      have HWA := Lib.hid (HW.out.alloc (.cells #[.int .i64 y0] 3) (Nat.le_trans hBw HW.out.size))
      have hi0 : (0 : Int) ≤ (i : Int) := by omega
      have hiI : (i : Int) < (xs.length : Int) := by omega
      go_wp2_with fail
      refine (HXC.out).mono ?_
      rintro r w5 ⟨rfl, hc5, hw5⟩
      have HC5 := Lib.hid hc5
      have HW5 := Lib.hid (HWA.out.trans hw5)
      clear hc5 hw5 HXC HWA cp
      rw [← HLN.out] at HC5
      go_wp2
      go_roundw
      case rel => exact ⟨i + 1, by go_num, by omega, HC5, HW5⟩
      case measure => simp [intOf]; omega
    · obtain rfl : i = xs.length := by omega
      rw [List.take_length, List.append_assoc, ← HWL.out] at HCW
      go_wp2
      exact bodyPost_ret (v := .tuple #[]) (by simp [results, Tryd.results61, go_sem]) rfl ⟨rfl, HCW.out, HW.out⟩

theorem cells_of_Dyn {w : World} {B : Nat} {A : Option Addr} {xs : List DynD} (h : Reads w B 4 A xs.length (xs.flatMap DynD.parts)) {i : Nat} (hi : i < xs.length) :
    ∃ b off, A = some ⟨b, off, none⟩ ∧ b < B ∧ w.cell? ⟨b, off + i * 4, none⟩ = some (.int .i64 (xs[i]'hi).f0) ∧ w.cell? ⟨b, off + i * 4 + 1, none⟩ = some (.int .i64 (xs[i]'hi).f1) ∧ w.cell? ⟨b, off + i * 4 + 2, none⟩ = some (.int .i64 (xs[i]'hi).f2) ∧ w.cell? ⟨b, off + i * 4 + 3, none⟩ = some (.int .i64 (xs[i]'hi).f3) := by
  obtain ⟨b, off, hA, hb, hc⟩ := h.lit (by omega) (by decide)
  have hcc : ∀ (j : Nat) (x : Value), j < 4 → (xs[i]'hi).parts[j]? = some x → w.cell? ⟨b, off + i * 4 + j, none⟩ = some x := fun j x hj hx => by
    rw [Nat.add_assoc]
    exact hc (i * 4 + j) x ((flat_at _ 4 DynD.parts_length xs i j hi hj).trans hx)
  exact ⟨b, off, hA, hb, hcc 0 _ (by decide) rfl, hcc 1 _ (by decide) rfl, hcc 2 _ (by decide) rfl, hcc 3 _ (by decide) rfl⟩

set_option maxHeartbeats 8000000 in
set_option maxRecDepth 100000 in
theorem listDyn_w {B cb bx : Nat} {acc : List UInt8} {w : World} (Inv : World → Prop) (cap : Addr) (s : SlD DynD) (ib off : Nat) {ti : TypeId} {ci : Array Value} (hK : Keeps B cb Inv) (hI : Inv w) (h : CW B cb acc w) (hBw : B ≤ w.heap.size)
    (hp : Blk w ib ti ci) (hpt : ti ≠ 5) (hpc : ib ≠ cb) (hpv : ci[off]? = some (.slice s.A s.xs.length s.c)) (hs : s.In 4 DynD.parts w bx) (hbx : bx ≤ B)
    (hone : ∀ x ∈ s.xs, ∀ (wx : World) (ac : List UInt8) (xb : Nat), Inv wx → CW B cb ac wx → B ≤ wx.heap.size → Blk wx xb 135 x.parts.toArray → xb ≠ cb → ac.length + (wDyn x).length ≤ 70368744177664 →
      Calls Tryd.prog 63 #[.pointer (some ⟨xb, 0, none⟩), .pointer (some cap)] wx (PutPost B cb wx (ac ++ wDyn x)))
    (hlen : acc.length + (wList wDyn s.xs).length ≤ 70368744177664) :
    Calls Tryd.prog 62 #[.pointer (some ⟨cb, 0, none⟩), .pointer (some ⟨ib, off, none⟩), .func (.func 63) #[] #[.pointer (some cap)]] w (PutPost B cb w (acc ++ wList wDyn s.xs)) := by
  have HONE := Lib.hid hone
  have HS := Lib.hid hs.reads
  have hsl := hs.len
  unfold maxLen at hsl
  have HI := Lib.hid hI
  have HC := Lib.hid h
  have HP := Lib.hid (CellAt.mk_ (cb := cb) hp hpt hpc hpv)
  have HK := Lib.hid hK
  clear hone hs hI h hp hpt hpc hpv hK
  unfold PutPost
  obtain ⟨sA, sc, xs⟩ := s
  simp only at HONE HS HP hsl hlen ⊢
  have HWL : Hid (wList wDyn xs = Lib.uvarint xs.length ++ xs.flatMap wDyn) := rfl
  have hlen2 : acc.length + (Lib.uvarint xs.length).length + (xs.flatMap wDyn).length ≤ 70368744177664 := by
    rw [HWL.out, List.length_append] at hlen; omega
  have hnum : wNum (xs.length : Int) = Lib.uvarint xs.length := by
    unfold wNum
    rw [if_neg (by omega)]
    rfl
  have HNU := Lib.hid (Num_any (xs.length : Int) ⟨by omega, by omega⟩)
  rw [hnum] at HNU
  unfold str at HNU
  clear hnum hlen
  have cin := HC.out.in_
  have cp := HP.out.cell
  go_enter Tryd.func62, Tryd.ntmps62
  go_wp2_with fail
  have HCd : Hid (CW B cb acc w.drew) := HC.out.drew
  have HPd : Hid (CellAt cb w.drew ⟨ib, off, none⟩ (.slice sA xs.length sc)) := HP.out.wr ((Wr.refl B cb w).drew)
  have HWd : Hid (Wr B cb w w.drew) := (Wr.refl B cb w).drew
  generalize Lib.uvarint xs.length = un at HNU HWL hlen2
  go_region_held3 (fun w' => w'.cell? ⟨ib, off, none⟩ = some (.slice sA xs.length sc))
    (first | exact HP5.out.cell | exact HP4.out.cell | exact HPd.out.cell)
    (first
      | (go_at_call 21; refine Calls.mono (HC4.out.write un (by omega) (Nat.le_trans hBw HW4.out.size)) ?_; rintro e w5 ⟨rfl, hc5, hw5⟩; have HC5 := Lib.hid hc5; have HP5 := Lib.hid (HP4.out.wr hw5); have HW5 := Lib.hid (HW4.out.trans hw5); clear hc5 hw5)
      | (go_at_call 23; refine Calls.mono (HNU.out _) ?_; rintro e w4 ⟨rfl, hb4⟩; have HC4 := Lib.hid (HCd.out.keep hb4); have HP4 := Lib.hid (HPd.out.wr (Wr.of_below hb4 (Nat.le_trans hBw HWd.out.size))); have HW4 := Lib.hid (HWd.out.trans (Wr.of_below hb4 (Nat.le_trans hBw HWd.out.size))); clear hb4))
  have cp5 := HP5.out.cell
  clear HC4 HP4 HW4 HCd HPd HWd HNU cp cin
  go_wp2_with fail
  clear cp5
  go_loopw [28] (fun vi wr => ∃ i : Nat, vi = .int .i64 i ∧ i ≤ xs.length ∧ Hid (CW B cb (acc ++ un ++ (xs.take i).flatMap wDyn) wr) ∧ Hid (Wr B cb w wr)) (fun vi _ => xs.length - (intOf vi).toNat)
  case atStart => exact ⟨0, rfl, Nat.zero_le _, Lib.hid (by simpa using HC5.out), HW5⟩
  case round =>
    obtain ⟨i, rfl, hi, HCW, HW⟩ := hrel
    clear HP5 HC5 HW5
    have cp := (HP.out.wr HW.out).cell
    by_cases hil : i < xs.length
    · obtain ⟨bb, oo, hA, _, d0, d1, d2, d3⟩ := cells_of_Dyn (HS.out.below (HW.out.below.mono hbx)) hil
      have HT := Lib.hid (List.take_succ_eq_append_getElem hil)
      have HX := Lib.hid (HONE.out _ (List.getElem_mem hil))
      have hpre : (xs.take (i + 1)).flatMap wDyn ++ (xs.drop (i + 1)).flatMap wDyn = xs.flatMap wDyn := by rw [← List.flatMap_append, List.take_append_drop]
      have hpl := congrArg List.length hpre
      rw [HT.out, List.flatMap_append] at hpl
      simp only [List.length_append, List.flatMap_cons, List.flatMap_nil, List.append_nil] at hpl
      have HLN : Hid (acc ++ un ++ (xs.take (i + 1)).flatMap wDyn = acc ++ un ++ (xs.take i).flatMap wDyn ++ wDyn (xs[i]'hil)) := Lib.hid (by rw [HT.out, List.flatMap_append]; simp)
      have hacc : (acc ++ un ++ (xs.take i).flatMap wDyn).length + (wDyn (xs[i]'hil)).length ≤ 70368744177664 := by simp only [List.length_append]; omega
      generalize acc ++ un ++ (xs.take i).flatMap wDyn = ac at HCW HLN hacc
      generalize xs[i]'hil = y at d0 d1 d2 d3 HX HLN hacc
      have HXC : Hid (Calls Tryd.prog 63 #[.pointer (some ⟨wr.heap.size, 0, none⟩), .pointer (some cap)] (wr.alloc (.cells y.parts.toArray 135)) (PutPost B cb (wr.alloc (.cells y.parts.toArray 135)) (ac ++ wDyn y))) :=
        HX.out _ ac wr.heap.size (HK.out.wr _ _ HI.out hBw (HW.out.alloc _ (Nat.le_trans hBw HW.out.size))) (HCW.out.alloc _) (Nat.le_trans hBw (Nat.le_trans HW.out.size (by simp))) (Blk.new _ _ _) (by have := HCW.out.lt; omega) hacc
      unfold PutPost at HXC
      rw [hA] at cp
      clear hA hpre hpl HT HX hacc
      obtain ⟨y0, y1, y2, y3⟩ := y
      simp only at d0 d1 d2 d3
      simp only [DynD.parts] at HXC
      have HWA := Lib.hid (HW.out.alloc (.cells #[.int .i64 y0, .int .i64 y1, .int .i64 y2, .int .i64 y3] 135) (Nat.le_trans hBw HW.out.size))
      have hi0 : (0 : Int) ≤ (i : Int) := by omega
      have hiI : (i : Int) < (xs.length : Int) := by omega
      go_wp2_with fail
      refine (HXC.out).mono ?_
      rintro r w5 ⟨rfl, hc5, hw5⟩
      have HC5 := Lib.hid hc5
      have HW5 := Lib.hid (HWA.out.trans hw5)
      clear hc5 hw5 HXC HWA cp
      rw [← HLN.out] at HC5
      go_wp2
      go_roundw
      case rel => exact ⟨i + 1, by go_num, by omega, HC5, HW5⟩
      case measure => simp [intOf]; omega
    · obtain rfl : i = xs.length := by omega
      rw [List.take_length, List.append_assoc, ← HWL.out] at HCW
      go_wp2
      exact bodyPost_ret (v := .tuple #[]) (by simp [results, Tryd.results62, go_sem]) rfl ⟨rfl, HCW.out, HW.out⟩

theorem cells_of_Str {w : World} {B : Nat} {A : Option Addr} {xs : List StrD} (h : Reads w B 1 A xs.length (xs.flatMap StrD.parts)) {i : Nat} (hi : i < xs.length) :
    ∃ b off, A = some ⟨b, off, none⟩ ∧ b < B ∧ w.cell? ⟨b, off + i, none⟩ = some (.string ⟨(xs[i]'hi).f0.toArray⟩) := by
  obtain ⟨b, off, hA, hb, hc⟩ := h.lit (by omega) (by decide)
  have hcc : ∀ (j : Nat) (x : Value), j < 1 → (xs[i]'hi).parts[j]? = some x → w.cell? ⟨b, off + i * 1 + j, none⟩ = some x := fun j x hj hx => by
    rw [Nat.add_assoc]
    exact hc (i * 1 + j) x ((flat_at _ 1 StrD.parts_length xs i j hi hj).trans hx)
  exact ⟨b, off, hA, hb, by have := hcc 0 _ (by decide) rfl; simpa using this⟩

set_option maxHeartbeats 8000000 in
set_option maxRecDepth 100000 in
theorem listStr_w {B cb bx : Nat} {acc : List UInt8} {w : World} (Inv : World → Prop) (cap : Addr) (s : SlD StrD) (ib off : Nat) {ti : TypeId} {ci : Array Value} (hK : Keeps B cb Inv) (hI : Inv w) (h : CW B cb acc w) (hBw : B ≤ w.heap.size)
    (hp : Blk w ib ti ci) (hpt : ti ≠ 5) (hpc : ib ≠ cb) (hpv : ci[off]? = some (.slice s.A s.xs.length s.c)) (hs : s.In 1 StrD.parts w bx) (hbx : bx ≤ B)
    (hone : ∀ x ∈ s.xs, ∀ (wx : World) (ac : List UInt8) (xb : Nat), Inv wx → CW B cb ac wx → B ≤ wx.heap.size → Blk wx xb 9 x.parts.toArray → xb ≠ cb → ac.length + (wStr x).length ≤ 70368744177664 →
      Calls Tryd.prog 52 #[.pointer (some ⟨xb, 0, none⟩), .pointer (some cap)] wx (PutPost B cb wx (ac ++ wStr x)))
    (hlen : acc.length + (wList wStr s.xs).length ≤ 70368744177664) :
    Calls Tryd.prog 64 #[.pointer (some ⟨cb, 0, none⟩), .pointer (some ⟨ib, off, none⟩), .func (.func 52) #[] #[.pointer (some cap)]] w (PutPost B cb w (acc ++ wList wStr s.xs)) := by
  have HONE := Lib.hid hone
  have HS := Lib.hid hs.reads
  have hsl := hs.len
  unfold maxLen at hsl
  have HI := Lib.hid hI
  have HC := Lib.hid h
  have HP := Lib.hid (CellAt.mk_ (cb := cb) hp hpt hpc hpv)
  have HK := Lib.hid hK
  clear hone hs hI h hp hpt hpc hpv hK
  unfold PutPost
  obtain ⟨sA, sc, xs⟩ := s
  simp only at HONE HS HP hsl hlen ⊢
  have HWL : Hid (wList wStr xs = Lib.uvarint xs.length ++ xs.flatMap wStr) := rfl
  have hlen2 : acc.length + (Lib.uvarint xs.length).length + (xs.flatMap wStr).length ≤ 70368744177664 := by
    rw [HWL.out, List.length_append] at hlen; omega
  have hnum : wNum (xs.length : Int) = Lib.uvarint xs.length := by
    unfold wNum
    rw [if_neg (by omega)]
    rfl
  have HNU := Lib.hid (Num_any (xs.length : Int) ⟨by omega, by omega⟩)
  rw [hnum] at HNU
  unfold str at HNU
  clear hnum hlen
  have cin := HC.out.in_
  have cp := HP.out.cell
  go_enter Tryd.func64, Tryd.ntmps64
  go_wp2_with fail
  have HCd : Hid (CW B cb acc w.drew) := HC.out.drew
  have HPd : Hid (CellAt cb w.drew ⟨ib, off, none⟩ (.slice sA xs.length sc)) := HP.out.wr ((Wr.refl B cb w).drew)
  have HWd : Hid (Wr B cb w w.drew) := (Wr.refl B cb w).drew
  generalize Lib.uvarint xs.length = un at HNU HWL hlen2
  go_region_held3 (fun w' => w'.cell? ⟨ib, off, none⟩ = some (.slice sA xs.length sc))
    (first | exact HP5.out.cell | exact HP4.out.cell | exact HPd.out.cell)
    (first
      | (go_at_call 21; refine Calls.mono (HC4.out.write un (by omega) (Nat.le_trans hBw HW4.out.size)) ?_; rintro e w5 ⟨rfl, hc5, hw5⟩; have HC5 := Lib.hid hc5; have HP5 := Lib.hid (HP4.out.wr hw5); have HW5 := Lib.hid (HW4.out.trans hw5); clear hc5 hw5)
      | (go_at_call 23; refine Calls.mono (HNU.out _) ?_; rintro e w4 ⟨rfl, hb4⟩; have HC4 := Lib.hid (HCd.out.keep hb4); have HP4 := Lib.hid (HPd.out.wr (Wr.of_below hb4 (Nat.le_trans hBw HWd.out.size))); have HW4 := Lib.hid (HWd.out.trans (Wr.of_below hb4 (Nat.le_trans hBw HWd.out.size))); clear hb4))
  have cp5 := HP5.out.cell
  clear HC4 HP4 HW4 HCd HPd HWd HNU cp cin
  go_wp2_with fail
  clear cp5
  go_loopw [28] (fun vi wr => ∃ i : Nat, vi = .int .i64 i ∧ i ≤ xs.length ∧ Hid (CW B cb (acc ++ un ++ (xs.take i).flatMap wStr) wr) ∧ Hid (Wr B cb w wr)) (fun vi _ => xs.length - (intOf vi).toNat)
  case atStart => exact ⟨0, rfl, Nat.zero_le _, Lib.hid (by simpa using HC5.out), HW5⟩
  case round =>
    obtain ⟨i, rfl, hi, HCW, HW⟩ := hrel
    clear HP5 HC5 HW5
    have cp := (HP.out.wr HW.out).cell
    by_cases hil : i < xs.length
    · obtain ⟨bb, oo, hA, _, d0⟩ := cells_of_Str (HS.out.below (HW.out.below.mono hbx)) hil
      have HT := Lib.hid (List.take_succ_eq_append_getElem hil)
      have HX := Lib.hid (HONE.out _ (List.getElem_mem hil))
      have hpre : (xs.take (i + 1)).flatMap wStr ++ (xs.drop (i + 1)).flatMap wStr = xs.flatMap wStr := by rw [← List.flatMap_append, List.take_append_drop]
      have hpl := congrArg List.length hpre
      rw [HT.out, List.flatMap_append] at hpl
      simp only [List.length_append, List.flatMap_cons, List.flatMap_nil, List.append_nil] at hpl
      have HLN : Hid (acc ++ un ++ (xs.take (i + 1)).flatMap wStr = acc ++ un ++ (xs.take i).flatMap wStr ++ wStr (xs[i]'hil)) := Lib.hid (by rw [HT.out, List.flatMap_append]; simp)
      have hacc : (acc ++ un ++ (xs.take i).flatMap wStr).length + (wStr (xs[i]'hil)).length ≤ 70368744177664 := by simp only [List.length_append]; omega
      generalize acc ++ un ++ (xs.take i).flatMap wStr = ac at HCW HLN hacc
      generalize xs[i]'hil = y at d0 HX HLN hacc
      have HXC : Hid (Calls Tryd.prog 52 #[.pointer (some ⟨wr.heap.size, 0, none⟩), .pointer (some cap)] (wr.alloc (.cells y.parts.toArray 9)) (PutPost B cb (wr.alloc (.cells y.parts.toArray 9)) (ac ++ wStr y))) :=
        HX.out _ ac wr.heap.size (HK.out.wr _ _ HI.out hBw (HW.out.alloc _ (Nat.le_trans hBw HW.out.size))) (HCW.out.alloc _) (Nat.le_trans hBw (Nat.le_trans HW.out.size (by simp))) (Blk.new _ _ _) (by have := HCW.out.lt; omega) hacc
      unfold PutPost at HXC
      rw [hA] at cp
      clear hA hpre hpl HT HX hacc
      obtain ⟨y0⟩ := y
      simp only at d0
      simp only [StrD.parts] at HXC
      have HWA := Lib.hid (HW.out.alloc (.cells #[.string ⟨y0.toArray⟩] 9) (Nat.le_trans hBw HW.out.size))
      have hi0 : (0 : Int) ≤ (i : Int) := by omega
      have hiI : (i : Int) < (xs.length : Int) := by omega
      go_wp2_with fail
      refine (HXC.out).mono ?_
      rintro r w5 ⟨rfl, hc5, hw5⟩
      have HC5 := Lib.hid hc5
      have HW5 := Lib.hid (HWA.out.trans hw5)
      clear hc5 hw5 HXC HWA cp
      rw [← HLN.out] at HC5
      go_wp2
      go_roundw
      case rel => exact ⟨i + 1, by go_num, by omega, HC5, HW5⟩
      case measure => simp [intOf]; omega
    · obtain rfl : i = xs.length := by omega
      rw [List.take_length, List.append_assoc, ← HWL.out] at HCW
      go_wp2
      exact bodyPost_ret (v := .tuple #[]) (by simp [results, Tryd.results64, go_sem]) rfl ⟨rfl, HCW.out, HW.out⟩

theorem cells_of_VerDef {w : World} {B : Nat} {A : Option Addr} {xs : List VerDefD} (h : Reads w B 2 A xs.length (xs.flatMap VerDefD.parts)) {i : Nat} (hi : i < xs.length) :
    ∃ b off, A = some ⟨b, off, none⟩ ∧ b < B ∧ w.cell? ⟨b, off + i * 2, none⟩ = some (.string ⟨(xs[i]'hi).f0.toArray⟩) ∧ w.cell? ⟨b, off + i * 2 + 1, none⟩ = some (.slice (xs[i]'hi).f1.A (xs[i]'hi).f1.xs.length (xs[i]'hi).f1.c) := by
  obtain ⟨b, off, hA, hb, hc⟩ := h.lit (by omega) (by decide)
  have hcc : ∀ (j : Nat) (x : Value), j < 2 → (xs[i]'hi).parts[j]? = some x → w.cell? ⟨b, off + i * 2 + j, none⟩ = some x := fun j x hj hx => by
    rw [Nat.add_assoc]
    exact hc (i * 2 + j) x ((flat_at _ 2 VerDefD.parts_length xs i j hi hj).trans hx)
  exact ⟨b, off, hA, hb, hcc 0 _ (by decide) rfl, hcc 1 _ (by decide) rfl⟩

set_option maxHeartbeats 8000000 in
set_option maxRecDepth 100000 in
theorem listVerDef_w {B cb bx : Nat} {acc : List UInt8} {w : World} (Inv : World → Prop) (cap : Addr × Addr) (s : SlD VerDefD) (ib off : Nat) {ti : TypeId} {ci : Array Value} (hK : Keeps B cb Inv) (hI : Inv w) (h : CW B cb acc w) (hBw : B ≤ w.heap.size)
    (hp : Blk w ib ti ci) (hpt : ti ≠ 5) (hpc : ib ≠ cb) (hpv : ci[off]? = some (.slice s.A s.xs.length s.c)) (hs : s.In 2 VerDefD.parts w bx) (hbx : bx ≤ B)
    (hone : ∀ x ∈ s.xs, ∀ (wx : World) (ac : List UInt8) (xb : Nat), Inv wx → CW B cb ac wx → B ≤ wx.heap.size → Blk wx xb 143 x.parts.toArray → xb ≠ cb → ac.length + (wVerDef x).length ≤ 70368744177664 →
      Calls Tryd.prog 66 #[.pointer (some ⟨xb, 0, none⟩), .pointer (some cap.1), .pointer (some cap.2)] wx (PutPost B cb wx (ac ++ wVerDef x)))
    (hlen : acc.length + (wList wVerDef s.xs).length ≤ 70368744177664) :
    Calls Tryd.prog 65 #[.pointer (some ⟨cb, 0, none⟩), .pointer (some ⟨ib, off, none⟩), .func (.func 66) #[] #[.pointer (some cap.1), .pointer (some cap.2)]] w (PutPost B cb w (acc ++ wList wVerDef s.xs)) := by
  have HONE := Lib.hid hone
  have HS := Lib.hid hs.reads
  have hsl := hs.len
  unfold maxLen at hsl
  have HI := Lib.hid hI
  have HC := Lib.hid h
  have HP := Lib.hid (CellAt.mk_ (cb := cb) hp hpt hpc hpv)
  have HK := Lib.hid hK
  clear hone hs hI h hp hpt hpc hpv hK
  unfold PutPost
  obtain ⟨sA, sc, xs⟩ := s
  simp only at HONE HS HP hsl hlen ⊢
  have HWL : Hid (wList wVerDef xs = Lib.uvarint xs.length ++ xs.flatMap wVerDef) := rfl
  have hlen2 : acc.length + (Lib.uvarint xs.length).length + (xs.flatMap wVerDef).length ≤ 70368744177664 := by
    rw [HWL.out, List.length_append] at hlen; omega
  have hnum : wNum (xs.length : Int) = Lib.uvarint xs.length := by
    unfold wNum
    rw [if_neg (by omega)]
    rfl
  have HNU := Lib.hid (Num_any (xs.length : Int) ⟨by omega, by omega⟩)
  rw [hnum] at HNU
  unfold str at HNU
  clear hnum hlen
  have cin := HC.out.in_
  have cp := HP.out.cell
  go_enter Tryd.func65, Tryd.ntmps65
  go_wp2_with fail
  have HCd : Hid (CW B cb acc w.drew) := HC.out.drew
  have HPd : Hid (CellAt cb w.drew ⟨ib, off, none⟩ (.slice sA xs.length sc)) := HP.out.wr ((Wr.refl B cb w).drew)
  have HWd : Hid (Wr B cb w w.drew) := (Wr.refl B cb w).drew
  generalize Lib.uvarint xs.length = un at HNU HWL hlen2
  go_region_held3 (fun w' => w'.cell? ⟨ib, off, none⟩ = some (.slice sA xs.length sc))
    (first | exact HP5.out.cell | exact HP4.out.cell | exact HPd.out.cell)
    (first
      | (go_at_call 21; refine Calls.mono (HC4.out.write un (by omega) (Nat.le_trans hBw HW4.out.size)) ?_; rintro e w5 ⟨rfl, hc5, hw5⟩; have HC5 := Lib.hid hc5; have HP5 := Lib.hid (HP4.out.wr hw5); have HW5 := Lib.hid (HW4.out.trans hw5); clear hc5 hw5)
      | (go_at_call 23; refine Calls.mono (HNU.out _) ?_; rintro e w4 ⟨rfl, hb4⟩; have HC4 := Lib.hid (HCd.out.keep hb4); have HP4 := Lib.hid (HPd.out.wr (Wr.of_below hb4 (Nat.le_trans hBw HWd.out.size))); have HW4 := Lib.hid (HWd.out.trans (Wr.of_below hb4 (Nat.le_trans hBw HWd.out.size))); clear hb4))
  have cp5 := HP5.out.cell
  clear HC4 HP4 HW4 HCd HPd HWd HNU cp cin
  go_wp2_with fail
  clear cp5
  go_loopw [28] (fun vi wr => ∃ i : Nat, vi = .int .i64 i ∧ i ≤ xs.length ∧ Hid (CW B cb (acc ++ un ++ (xs.take i).flatMap wVerDef) wr) ∧ Hid (Wr B cb w wr)) (fun vi _ => xs.length - (intOf vi).toNat)
  case atStart => exact ⟨0, rfl, Nat.zero_le _, Lib.hid (by simpa using HC5.out), HW5⟩
  case round =>
    obtain ⟨i, rfl, hi, HCW, HW⟩ := hrel
    clear HP5 HC5 HW5
    have cp := (HP.out.wr HW.out).cell
    by_cases hil : i < xs.length
    · obtain ⟨bb, oo, hA, _, d0, d1⟩ := cells_of_VerDef (HS.out.below (HW.out.below.mono hbx)) hil
      have HT := Lib.hid (List.take_succ_eq_append_getElem hil)
      have HX := Lib.hid (HONE.out _ (List.getElem_mem hil))
      have hpre : (xs.take (i + 1)).flatMap wVerDef ++ (xs.drop (i + 1)).flatMap wVerDef = xs.flatMap wVerDef := by rw [← List.flatMap_append, List.take_append_drop]
      have hpl := congrArg List.length hpre
      rw [HT.out, List.flatMap_append] at hpl
      simp only [List.length_append, List.flatMap_cons, List.flatMap_nil, List.append_nil] at hpl
      have HLN : Hid (acc ++ un ++ (xs.take (i + 1)).flatMap wVerDef = acc ++ un ++ (xs.take i).flatMap wVerDef ++ wVerDef (xs[i]'hil)) := Lib.hid (by rw [HT.out, List.flatMap_append]; simp)
      have hacc : (acc ++ un ++ (xs.take i).flatMap wVerDef).length + (wVerDef (xs[i]'hil)).length ≤ 70368744177664 := by simp only [List.length_append]; omega
      generalize acc ++ un ++ (xs.take i).flatMap wVerDef = ac at HCW HLN hacc
      generalize xs[i]'hil = y at d0 d1 HX HLN hacc
      have HXC : Hid (Calls Tryd.prog 66 #[.pointer (some ⟨wr.heap.size, 0, none⟩), .pointer (some cap.1), .pointer (some cap.2)] (wr.alloc (.cells y.parts.toArray 143)) (PutPost B cb (wr.alloc (.cells y.parts.toArray 143)) (ac ++ wVerDef y))) :=
        HX.out _ ac wr.heap.size (HK.out.wr _ _ HI.out hBw (HW.out.alloc _ (Nat.le_trans hBw HW.out.size))) (HCW.out.alloc _) (Nat.le_trans hBw (Nat.le_trans HW.out.size (by simp))) (Blk.new _ _ _) (by have := HCW.out.lt; omega) hacc
      unfold PutPost at HXC
      rw [hA] at cp
      clear hA hpre hpl HT HX hacc
      obtain ⟨y0, y1⟩ := y
      simp only at d0 d1
      simp only [VerDefD.parts] at HXC
      have HWA := Lib.hid (HW.out.alloc (.cells #[.string ⟨y0.toArray⟩, .slice y1.A y1.xs.length y1.c] 143) (Nat.le_trans hBw HW.out.size))
      have hi0 : (0 : Int) ≤ (i : Int) := by omega
      have hiI : (i : Int) < (xs.length : Int) := by omega
      go_wp2_with fail
      refine (HXC.out).mono ?_
      rintro r w5 ⟨rfl, hc5, hw5⟩
      have HC5 := Lib.hid hc5
      have HW5 := Lib.hid (HWA.out.trans hw5)
      clear hc5 hw5 HXC HWA cp
      rw [← HLN.out] at HC5
      go_wp2
      go_roundw
      case rel => exact ⟨i + 1, by go_num, by omega, HC5, HW5⟩
      case measure => simp [intOf]; omega
    · obtain rfl : i = xs.length := by omega
      rw [List.take_length, List.append_assoc, ← HWL.out] at HCW
      go_wp2
      exact bodyPost_ret (v := .tuple #[]) (by simp [results, Tryd.results65, go_sem]) rfl ⟨rfl, HCW.out, HW.out⟩

end Go.Proofs.YtefgajipakjpeaaDoor
