/-
  An image, in memory and in the encoding; contracts of (*coder).info and (*coder).image where the coder writes. Conditions: the encoding is at most 2^46 bytes long.
-/
import Derived.Test.YtefgajipakjpeaaDoorCloW
import Derived.Laws.EntriesVeiled
namespace Go.Proofs.YtefgajipakjpeaaDoor
open Go.RowKit

structure ImageD where
  i0 : List UInt8
  i1 : Bool
  i2 : Int
  i3 : Int
  i4 : Int
  i5 : List UInt8
  i6 : List UInt8
  i7 : Int
  i8 : SlD PlacedD
  i9 : SlD ExportD
  i10 : SlD ImportD
  i11 : SlD Int_D
  i12 : SlD Int_D
  i13 : SlD DynD
  i14 : SlD Int_D
  i15 : SlD Int_D
  i16 : Int
  i17 : SlD StrD
  i18 : SlD VerDefD
  i19 : SlD MarkD
  i20 : SlD LineD
  i21 : SlD SpanD
  i22 : SlD InlineD
  i23 : SlD VarID
  i24 : SlD DepthD
  i25 : SlD ConvD
def ImageD.parts (x : ImageD) : List Value := [.string ⟨x.i0.toArray⟩, .bool x.i1, .int .i64 x.i2, .int .i64 x.i3, .int .i64 x.i4, .string ⟨x.i5.toArray⟩, .string ⟨x.i6.toArray⟩, .int .i64 x.i7, .slice x.i8.A x.i8.xs.length x.i8.c, .slice x.i9.A x.i9.xs.length x.i9.c, .slice x.i10.A x.i10.xs.length x.i10.c, .slice x.i11.A x.i11.xs.length x.i11.c, .slice x.i12.A x.i12.xs.length x.i12.c, .slice x.i13.A x.i13.xs.length x.i13.c, .slice x.i14.A x.i14.xs.length x.i14.c, .slice x.i15.A x.i15.xs.length x.i15.c, .int .i64 x.i16, .slice x.i17.A x.i17.xs.length x.i17.c, .slice x.i18.A x.i18.xs.length x.i18.c, .slice x.i19.A x.i19.xs.length x.i19.c, .slice x.i20.A x.i20.xs.length x.i20.c, .slice x.i21.A x.i21.xs.length x.i21.c, .slice x.i22.A x.i22.xs.length x.i22.c, .slice x.i23.A x.i23.xs.length x.i23.c, .slice x.i24.A x.i24.xs.length x.i24.c, .slice x.i25.A x.i25.xs.length x.i25.c]
def wInfo (x : ImageD) : List UInt8 := wList wMark x.i19.xs ++ wList wLine x.i20.xs ++ wList wSpan x.i21.xs ++ wList wInline x.i22.xs ++ wList wVarI x.i23.xs ++ wList wDepth x.i24.xs
def wImage (x : ImageD) : List UInt8 := wText x.i0 ++ wInt (boolI x.i1) ++ wInt x.i2 ++ wInt x.i3 ++ wInt x.i4 ++ wText x.i5 ++ wText x.i6 ++ wInt x.i7 ++ wList wPlaced x.i8.xs ++ wList wExport x.i9.xs ++ wList wImport x.i10.xs ++ wList wInt_ x.i11.xs ++ wList wInt_ x.i12.xs ++ wList wDyn x.i13.xs ++ wList wInt_ x.i14.xs ++ wList wInt_ x.i15.xs ++ wInt x.i16 ++ wList wStr x.i17.xs ++ wList wVerDef x.i18.xs ++ wInfo x ++ wList wConv x.i25.xs
structure ImageD.Ok (x : ImageD) : Prop where
  i0 : x.i0.length ≤ maxLen
  i2 : I64 x.i2
  i3 : I64 x.i3
  i4 : I64 x.i4
  i5 : x.i5.length ≤ maxLen
  i6 : x.i6.length ≤ maxLen
  i7 : I64 x.i7
  i8 : ∀ y ∈ x.i8.xs, y.Ok
  i9 : ∀ y ∈ x.i9.xs, y.Ok
  i10 : ∀ y ∈ x.i10.xs, y.Ok
  i11 : ∀ y ∈ x.i11.xs, y.Ok
  i12 : ∀ y ∈ x.i12.xs, y.Ok
  i13 : ∀ y ∈ x.i13.xs, y.Ok
  i14 : ∀ y ∈ x.i14.xs, y.Ok
  i15 : ∀ y ∈ x.i15.xs, y.Ok
  i16 : I64 x.i16
  i17 : ∀ y ∈ x.i17.xs, y.Ok
  i18 : ∀ y ∈ x.i18.xs, y.Ok
  i19 : ∀ y ∈ x.i19.xs, y.Ok
  i20 : ∀ y ∈ x.i20.xs, y.Ok
  i21 : ∀ y ∈ x.i21.xs, y.Ok
  i22 : ∀ y ∈ x.i22.xs, y.Ok
  i23 : ∀ y ∈ x.i23.xs, y.Ok
  i24 : ∀ y ∈ x.i24.xs, y.Ok
  i25 : ∀ y ∈ x.i25.xs, y.Ok
structure ImageD.In (x : ImageD) (w : World) (B : Nat) : Prop where
  i8 : x.i8.In 7 PlacedD.parts w B
  i9 : x.i9.In 6 ExportD.parts w B
  i10 : x.i10.In 5 ImportD.parts w B
  i11 : x.i11.In 1 Int_D.parts w B
  i12 : x.i12.In 1 Int_D.parts w B
  i13 : x.i13.In 4 DynD.parts w B
  i14 : x.i14.In 1 Int_D.parts w B
  i15 : x.i15.In 1 Int_D.parts w B
  i17 : x.i17.In 1 StrD.parts w B
  i18 : x.i18.In 2 VerDefD.parts w B
  i19 : x.i19.In 4 MarkD.parts w B
  i20 : x.i20.In 4 LineD.parts w B
  i21 : x.i21.In 2 SpanD.parts w B
  i22 : x.i22.In 6 InlineD.parts w B
  i23 : x.i23.In 6 VarID.parts w B
  i24 : x.i24.In 4 DepthD.parts w B
  i25 : x.i25.In 5 ConvD.parts w B
  n18 : ∀ y ∈ x.i18.xs, y.f1.In 1 StrD.parts w B
  n25 : ∀ y ∈ x.i25.xs, y.f3.In 3 PieceD.parts w B
theorem ImageD.In.below {x : ImageD} {w w' : World} {B : Nat} (h : x.In w B) (hb : Below B w w') : x.In w' B :=
  ⟨h.i8.below hb, h.i9.below hb, h.i10.below hb, h.i11.below hb, h.i12.below hb, h.i13.below hb, h.i14.below hb, h.i15.below hb, h.i17.below hb, h.i18.below hb, h.i19.below hb, h.i20.below hb, h.i21.below hb, h.i22.below hb, h.i23.below hb, h.i24.below hb, h.i25.below hb, fun y hy => (h.n18 y hy).below hb, fun y hy => (h.n25 y hy).below hb⟩
theorem ImageD.In.more {x : ImageD} {w : World} {B B' : Nat} (h : x.In w B) (hb : B ≤ B') : x.In w B' :=
  ⟨h.i8.more hb, h.i9.more hb, h.i10.more hb, h.i11.more hb, h.i12.more hb, h.i13.more hb, h.i14.more hb, h.i15.more hb, h.i17.more hb, h.i18.more hb, h.i19.more hb, h.i20.more hb, h.i21.more hb, h.i22.more hb, h.i23.more hb, h.i24.more hb, h.i25.more hb, fun y hy => (h.n18 y hy).more hb, fun y hy => (h.n25 y hy).more hb⟩

/-- What the walk of image keeps: the boxes, and what came in. -/
def Inv2 (w0 : World) (B bx tx cb : Nat) (w : World) : Prop := Inv1 bx tx cb w ∧ Below B w0 w
theorem Inv2.keeps (w0 : World) (B bx tx cb : Nat) : Keeps B cb (Inv2 w0 B bx tx cb) := ⟨fun _ _ h _ k => ⟨h.1.wr k, h.2.trans k.below⟩⟩
def Inv3 (w0 : World) (B bx cb : Nat) (w : World) : Prop := Inv0 bx cb w ∧ Below B w0 w
theorem Inv3.keeps (w0 : World) (B bx cb : Nat) : Keeps B cb (Inv3 w0 B bx cb) := ⟨fun _ _ h _ k => ⟨h.1.wr k, h.2.trans k.below⟩⟩
theorem wImage_eq (y0 : List UInt8) (y1 : Bool) (y2 : Int) (y3 : Int) (y4 : Int) (y5 : List UInt8) (y6 : List UInt8) (y7 : Int) (y8 : SlD PlacedD) (y9 : SlD ExportD) (y10 : SlD ImportD) (y11 : SlD Int_D) (y12 : SlD Int_D) (y13 : SlD DynD) (y14 : SlD Int_D) (y15 : SlD Int_D) (y16 : Int) (y17 : SlD StrD) (y18 : SlD VerDefD) (y19 : SlD MarkD) (y20 : SlD LineD) (y21 : SlD SpanD) (y22 : SlD InlineD) (y23 : SlD VarID) (y24 : SlD DepthD) (y25 : SlD ConvD) : wImage ⟨y0, y1, y2, y3, y4, y5, y6, y7, y8, y9, y10, y11, y12, y13, y14, y15, y16, y17, y18, y19, y20, y21, y22, y23, y24, y25⟩ = wText y0 ++ wInt (boolI y1) ++ wInt y2 ++ wInt y3 ++ wInt y4 ++ wText y5 ++ wText y6 ++ wInt y7 ++ wList wPlaced y8.xs ++ wList wExport y9.xs ++ wList wImport y10.xs ++ wList wInt_ y11.xs ++ wList wInt_ y12.xs ++ wList wDyn y13.xs ++ wList wInt_ y14.xs ++ wList wInt_ y15.xs ++ wInt y16 ++ wList wStr y17.xs ++ wList wVerDef y18.xs ++ wInfo ⟨y0, y1, y2, y3, y4, y5, y6, y7, y8, y9, y10, y11, y12, y13, y14, y15, y16, y17, y18, y19, y20, y21, y22, y23, y24, y25⟩ ++ wList wConv y25.xs := rfl
theorem wInfo_eq (y0 : List UInt8) (y1 : Bool) (y2 : Int) (y3 : Int) (y4 : Int) (y5 : List UInt8) (y6 : List UInt8) (y7 : Int) (y8 : SlD PlacedD) (y9 : SlD ExportD) (y10 : SlD ImportD) (y11 : SlD Int_D) (y12 : SlD Int_D) (y13 : SlD DynD) (y14 : SlD Int_D) (y15 : SlD Int_D) (y16 : Int) (y17 : SlD StrD) (y18 : SlD VerDefD) (y19 : SlD MarkD) (y20 : SlD LineD) (y21 : SlD SpanD) (y22 : SlD InlineD) (y23 : SlD VarID) (y24 : SlD DepthD) (y25 : SlD ConvD) : wInfo ⟨y0, y1, y2, y3, y4, y5, y6, y7, y8, y9, y10, y11, y12, y13, y14, y15, y16, y17, y18, y19, y20, y21, y22, y23, y24, y25⟩ = wList wMark y19.xs ++ wList wLine y20.xs ++ wList wSpan y21.xs ++ wList wInline y22.xs ++ wList wVarI y23.xs ++ wList wDepth y24.xs := rfl

set_option maxHeartbeats 40000000 in
set_option maxRecDepth 100000 in
theorem info_w {B cb ib bb : Nat} {ac : List UInt8} {w : World} (x : ImageD) (h : CW B cb ac w) (hBw : B ≤ w.heap.size) (hx : Blk w ib 50 x.parts.toArray) (hxc : ib ≠ cb) (hin : x.In w bb) (hbb : bb ≤ B) (hok : x.Ok) (hlen : ac.length + (wInfo x).length ≤ 70368744177664) :
    Calls Tryd.prog 67 #[.pointer (some ⟨cb, 0, none⟩), .pointer (some ⟨ib, 19, none⟩)] w (PutPost B cb w (ac ++ wInfo x)) := by
  have HIN := Lib.hid hin
  have HOK := Lib.hid hok
  have hclt := h.lt
  have HX := Lib.hid hx
  have HI00 : Hid (Inv0 w.heap.size cb (w.alloc (.cells #[.pointer (some ⟨cb, 0, none⟩)] 104))) := Lib.hid ⟨Blk.new w _ _, by omega⟩
  have HI0 : Hid (Inv3 w B w.heap.size cb (w.alloc (.cells #[.pointer (some ⟨cb, 0, none⟩)] 104))) := Lib.hid ⟨HI00.out, (Below.refl _ _).alloc hBw _⟩
  have HC0 : Hid (CW B cb ac (w.alloc (.cells #[.pointer (some ⟨cb, 0, none⟩)] 104))) := Lib.hid (h.alloc _)
  have HW0 : Hid (Wr B cb w (w.alloc (.cells #[.pointer (some ⟨cb, 0, none⟩)] 104))) := Lib.hid ((Wr.refl B cb w).alloc _ hBw)
  clear hin hok h hx HI00
  obtain ⟨y0, y1, y2, y3, y4, y5, y6, y7, y8, y9, y10, y11, y12, y13, y14, y15, y16, y17, y18, y19, y20, y21, y22, y23, y24, y25⟩ := x
  simp only [ImageD.parts] at HX
  rw [wInfo_eq] at hlen ⊢
  have HWE : Hid (ac ++ (wList wMark y19.xs ++ wList wLine y20.xs ++ wList wSpan y21.xs ++ wList wInline y22.xs ++ wList wVarI y23.xs ++ wList wDepth y24.xs) = ac ++ wList wMark y19.xs ++ wList wLine y20.xs ++ wList wSpan y21.xs ++ wList wInline y22.xs ++ wList wVarI y23.xs ++ wList wDepth y24.xs) := Lib.hid (by simp only [List.append_assoc])
  have hln : ac.length + ((wList wMark y19.xs).length + (wList wLine y20.xs).length + (wList wSpan y21.xs).length + (wList wInline y22.xs).length + (wList wVarI y23.xs).length + (wList wDepth y24.xs).length) ≤ 70368744177664 := by
    have := hlen
    simp only [List.length_append] at this
    omega
  rw [HWE.out]
  clear hlen HWE
  unfold PutPost
  have hc0 := HI0.out.1.cell
  go_enter Tryd.func67, Tryd.ntmps67
  go_wp2_with fail
  generalize (w.alloc (.cells #[.pointer (some ⟨cb, 0, none⟩)] 104)) = w0 at HI0 HC0 HW0 hc0 ⊢
  have HCd0 : Hid (CW B cb (ac) w0.drew) := HC0.out.drew
  have HWd0 : Hid (Wr B cb w w0.drew) := HW0.out.drew
  have HId0 : Hid (Inv3 w B w.heap.size cb w0.drew) := Lib.hid ((Inv3.keeps w B w.heap.size cb).wr _ _ HI0.out (Nat.le_trans hBw HW0.out.size) (Wr.refl B cb w0).drew)
  have HXd0 := Lib.hid (HX.out.wr HWd0.out hxc (by decide))
  have hbw0 := Nat.le_trans hBw HWd0.out.size
  have HQ0 := Lib.hid (listMark_w (B := B) (cb := cb) (bx := bb) (Inv3 w B w.heap.size cb) ⟨w.heap.size, 0, none⟩ y19 ib 19 (Inv3.keeps w B w.heap.size cb) HId0.out HCd0.out hbw0 HXd0.out (by decide) hxc rfl (HIN.out.i19.below (HWd0.out.below.mono hbb)) hbb (fun z hz wx a2 xb2 i2 c2 b2 k2 n2 l2 => cloMark_w xb2 z i2.1 c2 b2 k2 n2 (HOK.out.i19 z hz) l2) (by (try simp only [List.length_append]); omega))
  unfold PutPost at HQ0
  go_wp2_with fail
  go_region_held3 (fun w' => w'.cell? ⟨w.heap.size, 0, none⟩ = some (.pointer (some ⟨cb, 0, none⟩)))
    (first | exact HJ1.out.1.cell | exact HId0.out.1.cell)
    (first
      | (go_at_call 77; refine Calls.mono HQ0.out ?_; rintro r w1 ⟨rfl, hc, hw⟩; have HJ1 := Lib.hid ((Inv3.keeps w B w.heap.size cb).wr _ _ HId0.out hbw0 hw)))
  have HC1 : Hid (CW B cb (ac ++ wList wMark y19.xs) w1) := hc
  have HW1 : Hid (Wr B cb w w1) := HWd0.out.trans hw
  have HI1 : Hid (Inv3 w B w.heap.size cb w1) := HJ1
  clear hc hw HQ0 HCd0 HWd0 HId0 HXd0 HJ1 hc0 HC0 HW0 HI0
  have HCd1 : Hid (CW B cb (ac ++ wList wMark y19.xs) w1.drew) := HC1.out.drew
  have HWd1 : Hid (Wr B cb w w1.drew) := HW1.out.drew
  have HId1 : Hid (Inv3 w B w.heap.size cb w1.drew) := Lib.hid ((Inv3.keeps w B w.heap.size cb).wr _ _ HI1.out (Nat.le_trans hBw HW1.out.size) (Wr.refl B cb w1).drew)
  have HXd1 := Lib.hid (HX.out.wr HWd1.out hxc (by decide))
  have hbw1 := Nat.le_trans hBw HWd1.out.size
  have HQ1 := Lib.hid (listLine_w (B := B) (cb := cb) (bx := bb) (Inv3 w B w.heap.size cb) ⟨w.heap.size, 0, none⟩ y20 ib 20 (Inv3.keeps w B w.heap.size cb) HId1.out HCd1.out hbw1 HXd1.out (by decide) hxc rfl (HIN.out.i20.below (HWd1.out.below.mono hbb)) hbb (fun z hz wx a2 xb2 i2 c2 b2 k2 n2 l2 => cloLine_w xb2 z i2.1 c2 b2 k2 n2 (HOK.out.i20 z hz) l2) (by (try simp only [List.length_append]); omega))
  unfold PutPost at HQ1
  have hc1 := HI1.out.1.cell
  go_wp2_with fail
  go_region_held3 (fun w' => w'.cell? ⟨w.heap.size, 0, none⟩ = some (.pointer (some ⟨cb, 0, none⟩)))
    (first | exact HJ2.out.1.cell | exact HId1.out.1.cell)
    (first
      | (go_at_call 79; refine Calls.mono HQ1.out ?_; rintro r w2 ⟨rfl, hc, hw⟩; have HJ2 := Lib.hid ((Inv3.keeps w B w.heap.size cb).wr _ _ HId1.out hbw1 hw)))
  have HC2 : Hid (CW B cb (ac ++ wList wMark y19.xs ++ wList wLine y20.xs) w2) := hc
  have HW2 : Hid (Wr B cb w w2) := HWd1.out.trans hw
  have HI2 : Hid (Inv3 w B w.heap.size cb w2) := HJ2
  clear hc hw HQ1 HCd1 HWd1 HId1 HXd1 HJ2 hc1 HC1 HW1 HI1
  have HCd2 : Hid (CW B cb (ac ++ wList wMark y19.xs ++ wList wLine y20.xs) w2.drew) := HC2.out.drew
  have HWd2 : Hid (Wr B cb w w2.drew) := HW2.out.drew
  have HId2 : Hid (Inv3 w B w.heap.size cb w2.drew) := Lib.hid ((Inv3.keeps w B w.heap.size cb).wr _ _ HI2.out (Nat.le_trans hBw HW2.out.size) (Wr.refl B cb w2).drew)
  have HXd2 := Lib.hid (HX.out.wr HWd2.out hxc (by decide))
  have hbw2 := Nat.le_trans hBw HWd2.out.size
  have HQ2 := Lib.hid (listSpan_w (B := B) (cb := cb) (bx := bb) (Inv3 w B w.heap.size cb) ⟨w.heap.size, 0, none⟩ y21 ib 21 (Inv3.keeps w B w.heap.size cb) HId2.out HCd2.out hbw2 HXd2.out (by decide) hxc rfl (HIN.out.i21.below (HWd2.out.below.mono hbb)) hbb (fun z hz wx a2 xb2 i2 c2 b2 k2 n2 l2 => cloSpan_w xb2 z i2.1 c2 b2 k2 n2 (HOK.out.i21 z hz) l2) (by (try simp only [List.length_append]); omega))
  unfold PutPost at HQ2
  have hc2 := HI2.out.1.cell
  go_wp2_with fail
  go_region_held3 (fun w' => w'.cell? ⟨w.heap.size, 0, none⟩ = some (.pointer (some ⟨cb, 0, none⟩)))
    (first | exact HJ3.out.1.cell | exact HId2.out.1.cell)
    (first
      | (go_at_call 81; refine Calls.mono HQ2.out ?_; rintro r w3 ⟨rfl, hc, hw⟩; have HJ3 := Lib.hid ((Inv3.keeps w B w.heap.size cb).wr _ _ HId2.out hbw2 hw)))
  have HC3 : Hid (CW B cb (ac ++ wList wMark y19.xs ++ wList wLine y20.xs ++ wList wSpan y21.xs) w3) := hc
  have HW3 : Hid (Wr B cb w w3) := HWd2.out.trans hw
  have HI3 : Hid (Inv3 w B w.heap.size cb w3) := HJ3
  clear hc hw HQ2 HCd2 HWd2 HId2 HXd2 HJ3 hc2 HC2 HW2 HI2
  have HCd3 : Hid (CW B cb (ac ++ wList wMark y19.xs ++ wList wLine y20.xs ++ wList wSpan y21.xs) w3.drew) := HC3.out.drew
  have HWd3 : Hid (Wr B cb w w3.drew) := HW3.out.drew
  have HId3 : Hid (Inv3 w B w.heap.size cb w3.drew) := Lib.hid ((Inv3.keeps w B w.heap.size cb).wr _ _ HI3.out (Nat.le_trans hBw HW3.out.size) (Wr.refl B cb w3).drew)
  have HXd3 := Lib.hid (HX.out.wr HWd3.out hxc (by decide))
  have hbw3 := Nat.le_trans hBw HWd3.out.size
  have HQ3 := Lib.hid (listInline_w (B := B) (cb := cb) (bx := bb) (Inv3 w B w.heap.size cb) ⟨w.heap.size, 0, none⟩ y22 ib 22 (Inv3.keeps w B w.heap.size cb) HId3.out HCd3.out hbw3 HXd3.out (by decide) hxc rfl (HIN.out.i22.below (HWd3.out.below.mono hbb)) hbb (fun z hz wx a2 xb2 i2 c2 b2 k2 n2 l2 => cloInline_w xb2 z i2.1 c2 b2 k2 n2 (HOK.out.i22 z hz) l2) (by (try simp only [List.length_append]); omega))
  unfold PutPost at HQ3
  have hc3 := HI3.out.1.cell
  go_wp2_with fail
  go_region_held3 (fun w' => w'.cell? ⟨w.heap.size, 0, none⟩ = some (.pointer (some ⟨cb, 0, none⟩)))
    (first | exact HJ4.out.1.cell | exact HId3.out.1.cell)
    (first
      | (go_at_call 83; refine Calls.mono HQ3.out ?_; rintro r w4 ⟨rfl, hc, hw⟩; have HJ4 := Lib.hid ((Inv3.keeps w B w.heap.size cb).wr _ _ HId3.out hbw3 hw)))
  have HC4 : Hid (CW B cb (ac ++ wList wMark y19.xs ++ wList wLine y20.xs ++ wList wSpan y21.xs ++ wList wInline y22.xs) w4) := hc
  have HW4 : Hid (Wr B cb w w4) := HWd3.out.trans hw
  have HI4 : Hid (Inv3 w B w.heap.size cb w4) := HJ4
  clear hc hw HQ3 HCd3 HWd3 HId3 HXd3 HJ4 hc3 HC3 HW3 HI3
  have HCd4 : Hid (CW B cb (ac ++ wList wMark y19.xs ++ wList wLine y20.xs ++ wList wSpan y21.xs ++ wList wInline y22.xs) w4.drew) := HC4.out.drew
  have HWd4 : Hid (Wr B cb w w4.drew) := HW4.out.drew
  have HId4 : Hid (Inv3 w B w.heap.size cb w4.drew) := Lib.hid ((Inv3.keeps w B w.heap.size cb).wr _ _ HI4.out (Nat.le_trans hBw HW4.out.size) (Wr.refl B cb w4).drew)
  have HXd4 := Lib.hid (HX.out.wr HWd4.out hxc (by decide))
  have hbw4 := Nat.le_trans hBw HWd4.out.size
  have HQ4 := Lib.hid (listVarI_w (B := B) (cb := cb) (bx := bb) (Inv3 w B w.heap.size cb) ⟨w.heap.size, 0, none⟩ y23 ib 23 (Inv3.keeps w B w.heap.size cb) HId4.out HCd4.out hbw4 HXd4.out (by decide) hxc rfl (HIN.out.i23.below (HWd4.out.below.mono hbb)) hbb (fun z hz wx a2 xb2 i2 c2 b2 k2 n2 l2 => cloVarI_w xb2 z i2.1 c2 b2 k2 n2 (HOK.out.i23 z hz) l2) (by (try simp only [List.length_append]); omega))
  unfold PutPost at HQ4
  have hc4 := HI4.out.1.cell
  go_wp2_with fail
  go_region_held3 (fun w' => w'.cell? ⟨w.heap.size, 0, none⟩ = some (.pointer (some ⟨cb, 0, none⟩)))
    (first | exact HJ5.out.1.cell | exact HId4.out.1.cell)
    (first
      | (go_at_call 85; refine Calls.mono HQ4.out ?_; rintro r w5 ⟨rfl, hc, hw⟩; have HJ5 := Lib.hid ((Inv3.keeps w B w.heap.size cb).wr _ _ HId4.out hbw4 hw)))
  have HC5 : Hid (CW B cb (ac ++ wList wMark y19.xs ++ wList wLine y20.xs ++ wList wSpan y21.xs ++ wList wInline y22.xs ++ wList wVarI y23.xs) w5) := hc
  have HW5 : Hid (Wr B cb w w5) := HWd4.out.trans hw
  have HI5 : Hid (Inv3 w B w.heap.size cb w5) := HJ5
  clear hc hw HQ4 HCd4 HWd4 HId4 HXd4 HJ5 hc4 HC4 HW4 HI4
  have HCd5 : Hid (CW B cb (ac ++ wList wMark y19.xs ++ wList wLine y20.xs ++ wList wSpan y21.xs ++ wList wInline y22.xs ++ wList wVarI y23.xs) w5.drew) := HC5.out.drew
  have HWd5 : Hid (Wr B cb w w5.drew) := HW5.out.drew
  have HId5 : Hid (Inv3 w B w.heap.size cb w5.drew) := Lib.hid ((Inv3.keeps w B w.heap.size cb).wr _ _ HI5.out (Nat.le_trans hBw HW5.out.size) (Wr.refl B cb w5).drew)
  have HXd5 := Lib.hid (HX.out.wr HWd5.out hxc (by decide))
  have hbw5 := Nat.le_trans hBw HWd5.out.size
  have HQ5 := Lib.hid (listDepth_w (B := B) (cb := cb) (bx := bb) (Inv3 w B w.heap.size cb) ⟨w.heap.size, 0, none⟩ y24 ib 24 (Inv3.keeps w B w.heap.size cb) HId5.out HCd5.out hbw5 HXd5.out (by decide) hxc rfl (HIN.out.i24.below (HWd5.out.below.mono hbb)) hbb (fun z hz wx a2 xb2 i2 c2 b2 k2 n2 l2 => cloDepth_w xb2 z i2.1 c2 b2 k2 n2 (HOK.out.i24 z hz) l2) (by (try simp only [List.length_append]); omega))
  unfold PutPost at HQ5
  have hc5 := HI5.out.1.cell
  go_wp2_with fail
  go_region_held3 (fun w' => w'.cell? ⟨w.heap.size, 0, none⟩ = some (.pointer (some ⟨cb, 0, none⟩)))
    (first | exact HJ6.out.1.cell | exact HId5.out.1.cell)
    (first
      | (go_at_call 87; refine Calls.mono HQ5.out ?_; rintro r w6 ⟨rfl, hc, hw⟩; have HJ6 := Lib.hid ((Inv3.keeps w B w.heap.size cb).wr _ _ HId5.out hbw5 hw)))
  have HC6 : Hid (CW B cb (ac ++ wList wMark y19.xs ++ wList wLine y20.xs ++ wList wSpan y21.xs ++ wList wInline y22.xs ++ wList wVarI y23.xs ++ wList wDepth y24.xs) w6) := hc
  have HW6 : Hid (Wr B cb w w6) := HWd5.out.trans hw
  have HI6 : Hid (Inv3 w B w.heap.size cb w6) := HJ6
  clear hc hw HQ5 HCd5 HWd5 HId5 HXd5 HJ6 hc5 HC5 HW5 HI5
  go_wp2
  go_end0
  exact ⟨rfl, HC6.out, HW6.out⟩

set_option maxHeartbeats 40000000 in
set_option maxRecDepth 100000 in
theorem image_w {B cb ib bb : Nat} {ac : List UInt8} {w : World} (x : ImageD) (h : CW B cb ac w) (hBw : B ≤ w.heap.size) (hx : Blk w ib 50 x.parts.toArray) (hxc : ib ≠ cb) (hin : x.In w bb) (hbb : bb ≤ B) (hok : x.Ok) (hlen : ac.length + (wImage x).length ≤ 70368744177664) :
    Calls Tryd.prog 35 #[.pointer (some ⟨cb, 0, none⟩), .pointer (some ⟨ib, 0, none⟩)] w (PutPost B cb w (ac ++ wImage x)) := by
  have HIN := Lib.hid hin
  have HOK := Lib.hid hok
  have hclt := h.lt
  have HX := Lib.hid hx
  have HI00 : Hid (Inv0 w.heap.size cb ((w.alloc (.cells #[.pointer (some ⟨cb, 0, none⟩)] 104)).alloc (.cells #[.func (.func 52) #[] #[.pointer (some ⟨w.heap.size, 0, none⟩)]] 110))) := Lib.hid ⟨(Blk.new w _ _).alloc _, by omega⟩
  have HI0 : Hid (Inv2 w B w.heap.size (w.heap.size + 1) cb ((w.alloc (.cells #[.pointer (some ⟨cb, 0, none⟩)] 104)).alloc (.cells #[.func (.func 52) #[] #[.pointer (some ⟨w.heap.size, 0, none⟩)]] 110))) := Lib.hid ⟨⟨HI00.out, Blk.newAt (by simp), by omega⟩, ((Below.refl _ _).alloc hBw _).alloc (by simp; omega) _⟩
  have HC0 : Hid (CW B cb ac ((w.alloc (.cells #[.pointer (some ⟨cb, 0, none⟩)] 104)).alloc (.cells #[.func (.func 52) #[] #[.pointer (some ⟨w.heap.size, 0, none⟩)]] 110))) := Lib.hid ((h.alloc _).alloc _)
  have HW0 : Hid (Wr B cb w ((w.alloc (.cells #[.pointer (some ⟨cb, 0, none⟩)] 104)).alloc (.cells #[.func (.func 52) #[] #[.pointer (some ⟨w.heap.size, 0, none⟩)]] 110))) := Lib.hid (((Wr.refl B cb w).alloc _ hBw).alloc _ (by simp; omega))
  clear hin hok h hx HI00
  obtain ⟨y0, y1, y2, y3, y4, y5, y6, y7, y8, y9, y10, y11, y12, y13, y14, y15, y16, y17, y18, y19, y20, y21, y22, y23, y24, y25⟩ := x
  simp only [ImageD.parts] at HX
  rw [wImage_eq] at hlen ⊢
  obtain ⟨INF, hinf⟩ : ∃ z, z = wInfo ⟨y0, y1, y2, y3, y4, y5, y6, y7, y8, y9, y10, y11, y12, y13, y14, y15, y16, y17, y18, y19, y20, y21, y22, y23, y24, y25⟩ := ⟨_, rfl⟩
  rw [← hinf] at hlen ⊢
  have HINF := Lib.hid hinf
  clear hinf
  have HWE : Hid (ac ++ (wText y0 ++ wInt (boolI y1) ++ wInt y2 ++ wInt y3 ++ wInt y4 ++ wText y5 ++ wText y6 ++ wInt y7 ++ wList wPlaced y8.xs ++ wList wExport y9.xs ++ wList wImport y10.xs ++ wList wInt_ y11.xs ++ wList wInt_ y12.xs ++ wList wDyn y13.xs ++ wList wInt_ y14.xs ++ wList wInt_ y15.xs ++ wInt y16 ++ wList wStr y17.xs ++ wList wVerDef y18.xs ++ INF ++ wList wConv y25.xs) = ac ++ wText y0 ++ wInt (boolI y1) ++ wInt y2 ++ wInt y3 ++ wInt y4 ++ wText y5 ++ wText y6 ++ wInt y7 ++ wList wPlaced y8.xs ++ wList wExport y9.xs ++ wList wImport y10.xs ++ wList wInt_ y11.xs ++ wList wInt_ y12.xs ++ wList wDyn y13.xs ++ wList wInt_ y14.xs ++ wList wInt_ y15.xs ++ wInt y16 ++ wList wStr y17.xs ++ wList wVerDef y18.xs ++ INF ++ wList wConv y25.xs) := Lib.hid (by simp only [List.append_assoc])
  have hln : ac.length + ((wText y0).length + (wInt (boolI y1)).length + (wInt y2).length + (wInt y3).length + (wInt y4).length + (wText y5).length + (wText y6).length + (wInt y7).length + (wList wPlaced y8.xs).length + (wList wExport y9.xs).length + (wList wImport y10.xs).length + (wList wInt_ y11.xs).length + (wList wInt_ y12.xs).length + (wList wDyn y13.xs).length + (wList wInt_ y14.xs).length + (wList wInt_ y15.xs).length + (wInt y16).length + (wList wStr y17.xs).length + (wList wVerDef y18.xs).length + (INF).length + (wList wConv y25.xs).length) ≤ 70368744177664 := by
    have := hlen
    simp only [List.length_append] at this
    omega
  rw [HWE.out]
  clear hlen HWE
  unfold PutPost
  have hc0 := HI0.out.1.cell
  have ht0 := HI0.out.1.tcell
  go_enter Tryd.func35, Tryd.ntmps35
  go_wp2_with fail
  generalize ((w.alloc (.cells #[.pointer (some ⟨cb, 0, none⟩)] 104)).alloc (.cells #[.func (.func 52) #[] #[.pointer (some ⟨w.heap.size, 0, none⟩)]] 110)) = w0 at HI0 HC0 HW0 hc0 ht0 ⊢
  have HCd0 : Hid (CW B cb (ac) w0.drew) := HC0.out.drew
  have HWd0 : Hid (Wr B cb w w0.drew) := HW0.out.drew
  have HId0 : Hid (Inv2 w B w.heap.size (w.heap.size + 1) cb w0.drew) := Lib.hid ((Inv2.keeps w B w.heap.size (w.heap.size + 1) cb).wr _ _ HI0.out (Nat.le_trans hBw HW0.out.size) (Wr.refl B cb w0).drew)
  have HXd0 := Lib.hid (HX.out.wr HWd0.out hxc (by decide))
  have hbw0 := Nat.le_trans hBw HWd0.out.size
  have hq0 := texts_new (w := w0.drew) [(0, y0)] HCd0.out hbw0 HXd0.out (by decide) hxc (by simp) (by
    intro x hx
    simp at hx
    subst hx
    rfl) (by simp only [List.flatMap_cons, List.flatMap_nil, List.length_append, List.append_nil]; omega)
  simp only [List.flatMap_cons, List.flatMap_nil, List.append_nil, ← List.append_assoc, List.map_cons, List.map_nil, List.length_cons, List.length_nil, Nat.zero_add, Nat.reduceAdd] at hq0
  have HQ0 := Lib.hid hq0
  clear hq0
  unfold PutPost at HQ0
  go_wp2_with fail
  go_region_held3 (fun w' => w'.cell? ⟨w.heap.size, 0, none⟩ = some (.pointer (some ⟨cb, 0, none⟩)) ∧ w'.cell? ⟨w.heap.size + 1, 0, none⟩ = some (.func (.func 52) #[] #[.pointer (some ⟨w.heap.size, 0, none⟩)]))
    (first | exact ⟨HJ1.out.1.cell, HJ1.out.1.tcell⟩ | exact ⟨HId0.out.1.cell, HId0.out.1.tcell⟩ | exact ⟨((Inv2.keeps w B w.heap.size (w.heap.size + 1) cb).wr _ _ HId0.out hbw0 ((Wr.refl B cb w0.drew).alloc (.cells #[.pointer (some ⟨ib, 0, none⟩)] 108) hbw0)).1.cell, ((Inv2.keeps w B w.heap.size (w.heap.size + 1) cb).wr _ _ HId0.out hbw0 ((Wr.refl B cb w0.drew).alloc (.cells #[.pointer (some ⟨ib, 0, none⟩)] 108) hbw0)).1.tcell⟩)
    (first
      | (go_at_call 53; refine Calls.mono HQ0.out ?_; rintro r w1 ⟨rfl, hc, hw⟩; have HJ1 := Lib.hid ((Inv2.keeps w B w.heap.size (w.heap.size + 1) cb).wr _ _ HId0.out hbw0 hw)))
  have HC1 : Hid (CW B cb (ac ++ wText y0) w1) := hc
  have HW1 : Hid (Wr B cb w w1) := HWd0.out.trans hw
  have HI1 : Hid (Inv2 w B w.heap.size (w.heap.size + 1) cb w1) := HJ1
  clear hc hw HQ0 HCd0 HWd0 HId0 HXd0 HJ1 hc0 HC0 HW0 HI0 ht0
  have HCd1 : Hid (CW B cb (ac ++ wText y0) w1.drew) := HC1.out.drew
  have HWd1 : Hid (Wr B cb w w1.drew) := HW1.out.drew
  have HId1 : Hid (Inv2 w B w.heap.size (w.heap.size + 1) cb w1.drew) := Lib.hid ((Inv2.keeps w B w.heap.size (w.heap.size + 1) cb).wr _ _ HI1.out (Nat.le_trans hBw HW1.out.size) (Wr.refl B cb w1).drew)
  have HXd1 := Lib.hid (HX.out.wr HWd1.out hxc (by decide))
  have hbw1 := Nat.le_trans hBw HWd1.out.size
  have HQ1 := Lib.hid (bool_w (i := 1) y1 HCd1.out hbw1 HXd1.out (by decide) hxc rfl (by (try simp only [List.length_append]); omega))
  unfold PutPost at HQ1
  have hc1 := HI1.out.1.cell
  have ht1 := HI1.out.1.tcell
  go_wp2_with fail
  go_region_held3 (fun w' => w'.cell? ⟨w.heap.size, 0, none⟩ = some (.pointer (some ⟨cb, 0, none⟩)) ∧ w'.cell? ⟨w.heap.size + 1, 0, none⟩ = some (.func (.func 52) #[] #[.pointer (some ⟨w.heap.size, 0, none⟩)]))
    (first | exact ⟨HJ2.out.1.cell, HJ2.out.1.tcell⟩ | exact ⟨HId1.out.1.cell, HId1.out.1.tcell⟩)
    (first
      | (go_at_call 54; refine Calls.mono HQ1.out ?_; rintro r w2 ⟨rfl, hc, hw⟩; have HJ2 := Lib.hid ((Inv2.keeps w B w.heap.size (w.heap.size + 1) cb).wr _ _ HId1.out hbw1 hw)))
  have HC2 : Hid (CW B cb (ac ++ wText y0 ++ wInt (boolI y1)) w2) := hc
  have HW2 : Hid (Wr B cb w w2) := HWd1.out.trans hw
  have HI2 : Hid (Inv2 w B w.heap.size (w.heap.size + 1) cb w2) := HJ2
  clear hc hw HQ1 HCd1 HWd1 HId1 HXd1 HJ2 hc1 HC1 HW1 HI1 ht1
  have HCd2 : Hid (CW B cb (ac ++ wText y0 ++ wInt (boolI y1)) w2.drew) := HC2.out.drew
  have HWd2 : Hid (Wr B cb w w2.drew) := HW2.out.drew
  have HId2 : Hid (Inv2 w B w.heap.size (w.heap.size + 1) cb w2.drew) := Lib.hid ((Inv2.keeps w B w.heap.size (w.heap.size + 1) cb).wr _ _ HI2.out (Nat.le_trans hBw HW2.out.size) (Wr.refl B cb w2).drew)
  have HXd2 := Lib.hid (HX.out.wr HWd2.out hxc (by decide))
  have hbw2 := Nat.le_trans hBw HWd2.out.size
  have hq2 := ints_new (w := w2.drew) [(2, y2), (3, y3), (4, y4)] HCd2.out hbw2 HXd2.out (by decide) hxc (by simp) (by
    intro x hx
    simp at hx
    rcases hx with rfl | rfl | rfl <;> rfl) (by
    intro x hx
    simp at hx
    rcases hx with rfl | rfl | rfl
    · exact HOK.out.i2
    · exact HOK.out.i3
    · exact HOK.out.i4) (by simp only [List.flatMap_cons, List.flatMap_nil, List.length_append, List.append_nil]; omega)
  simp only [List.flatMap_cons, List.flatMap_nil, List.append_nil, ← List.append_assoc, List.map_cons, List.map_nil, List.length_cons, List.length_nil, Nat.zero_add, Nat.reduceAdd] at hq2
  have HQ2 := Lib.hid hq2
  clear hq2
  unfold PutPost at HQ2
  have hc2 := HI2.out.1.cell
  have ht2 := HI2.out.1.tcell
  go_wp2_with fail
  go_region_held3 (fun w' => w'.cell? ⟨w.heap.size, 0, none⟩ = some (.pointer (some ⟨cb, 0, none⟩)) ∧ w'.cell? ⟨w.heap.size + 1, 0, none⟩ = some (.func (.func 52) #[] #[.pointer (some ⟨w.heap.size, 0, none⟩)]))
    (first | exact ⟨HJ3.out.1.cell, HJ3.out.1.tcell⟩ | exact ⟨HId2.out.1.cell, HId2.out.1.tcell⟩ | exact ⟨((Inv2.keeps w B w.heap.size (w.heap.size + 1) cb).wr _ _ HId2.out hbw2 ((Wr.refl B cb w2.drew).alloc (.cells #[.pointer (some ⟨ib, 2, none⟩), .pointer (some ⟨ib, 3, none⟩), .pointer (some ⟨ib, 4, none⟩)] 105) hbw2)).1.cell, ((Inv2.keeps w B w.heap.size (w.heap.size + 1) cb).wr _ _ HId2.out hbw2 ((Wr.refl B cb w2.drew).alloc (.cells #[.pointer (some ⟨ib, 2, none⟩), .pointer (some ⟨ib, 3, none⟩), .pointer (some ⟨ib, 4, none⟩)] 105) hbw2)).1.tcell⟩)
    (first
      | (go_at_call 51; refine Calls.mono HQ2.out ?_; rintro r w3 ⟨rfl, hc, hw⟩; have HJ3 := Lib.hid ((Inv2.keeps w B w.heap.size (w.heap.size + 1) cb).wr _ _ HId2.out hbw2 hw)))
  have HC3 : Hid (CW B cb (ac ++ wText y0 ++ wInt (boolI y1) ++ wInt y2 ++ wInt y3 ++ wInt y4) w3) := hc
  have HW3 : Hid (Wr B cb w w3) := HWd2.out.trans hw
  have HI3 : Hid (Inv2 w B w.heap.size (w.heap.size + 1) cb w3) := HJ3
  clear hc hw HQ2 HCd2 HWd2 HId2 HXd2 HJ3 hc2 HC2 HW2 HI2 ht2
  have HCd3 : Hid (CW B cb (ac ++ wText y0 ++ wInt (boolI y1) ++ wInt y2 ++ wInt y3 ++ wInt y4) w3.drew) := HC3.out.drew
  have HWd3 : Hid (Wr B cb w w3.drew) := HW3.out.drew
  have HId3 : Hid (Inv2 w B w.heap.size (w.heap.size + 1) cb w3.drew) := Lib.hid ((Inv2.keeps w B w.heap.size (w.heap.size + 1) cb).wr _ _ HI3.out (Nat.le_trans hBw HW3.out.size) (Wr.refl B cb w3).drew)
  have HXd3 := Lib.hid (HX.out.wr HWd3.out hxc (by decide))
  have hbw3 := Nat.le_trans hBw HWd3.out.size
  have hq3 := texts_new (w := w3.drew) [(5, y5), (6, y6)] HCd3.out hbw3 HXd3.out (by decide) hxc (by simp) (by
    intro x hx
    simp at hx
    rcases hx with rfl | rfl <;> rfl) (by simp only [List.flatMap_cons, List.flatMap_nil, List.length_append, List.append_nil]; omega)
  simp only [List.flatMap_cons, List.flatMap_nil, List.append_nil, ← List.append_assoc, List.map_cons, List.map_nil, List.length_cons, List.length_nil, Nat.zero_add, Nat.reduceAdd] at hq3
  have HQ3 := Lib.hid hq3
  clear hq3
  unfold PutPost at HQ3
  have hc3 := HI3.out.1.cell
  have ht3 := HI3.out.1.tcell
  go_wp2_with fail
  go_region_held3 (fun w' => w'.cell? ⟨w.heap.size, 0, none⟩ = some (.pointer (some ⟨cb, 0, none⟩)) ∧ w'.cell? ⟨w.heap.size + 1, 0, none⟩ = some (.func (.func 52) #[] #[.pointer (some ⟨w.heap.size, 0, none⟩)]))
    (first | exact ⟨HJ4.out.1.cell, HJ4.out.1.tcell⟩ | exact ⟨HId3.out.1.cell, HId3.out.1.tcell⟩ | exact ⟨((Inv2.keeps w B w.heap.size (w.heap.size + 1) cb).wr _ _ HId3.out hbw3 ((Wr.refl B cb w3.drew).alloc (.cells #[.pointer (some ⟨ib, 5, none⟩), .pointer (some ⟨ib, 6, none⟩)] 108) hbw3)).1.cell, ((Inv2.keeps w B w.heap.size (w.heap.size + 1) cb).wr _ _ HId3.out hbw3 ((Wr.refl B cb w3.drew).alloc (.cells #[.pointer (some ⟨ib, 5, none⟩), .pointer (some ⟨ib, 6, none⟩)] 108) hbw3)).1.tcell⟩)
    (first
      | (go_at_call 53; refine Calls.mono HQ3.out ?_; rintro r w4 ⟨rfl, hc, hw⟩; have HJ4 := Lib.hid ((Inv2.keeps w B w.heap.size (w.heap.size + 1) cb).wr _ _ HId3.out hbw3 hw)))
  have HC4 : Hid (CW B cb (ac ++ wText y0 ++ wInt (boolI y1) ++ wInt y2 ++ wInt y3 ++ wInt y4 ++ wText y5 ++ wText y6) w4) := hc
  have HW4 : Hid (Wr B cb w w4) := HWd3.out.trans hw
  have HI4 : Hid (Inv2 w B w.heap.size (w.heap.size + 1) cb w4) := HJ4
  clear hc hw HQ3 HCd3 HWd3 HId3 HXd3 HJ4 hc3 HC3 HW3 HI3 ht3
  have HCd4 : Hid (CW B cb (ac ++ wText y0 ++ wInt (boolI y1) ++ wInt y2 ++ wInt y3 ++ wInt y4 ++ wText y5 ++ wText y6) w4.drew) := HC4.out.drew
  have HWd4 : Hid (Wr B cb w w4.drew) := HW4.out.drew
  have HId4 : Hid (Inv2 w B w.heap.size (w.heap.size + 1) cb w4.drew) := Lib.hid ((Inv2.keeps w B w.heap.size (w.heap.size + 1) cb).wr _ _ HI4.out (Nat.le_trans hBw HW4.out.size) (Wr.refl B cb w4).drew)
  have HXd4 := Lib.hid (HX.out.wr HWd4.out hxc (by decide))
  have hbw4 := Nat.le_trans hBw HWd4.out.size
  have hq4 := ints_new (w := w4.drew) [(7, y7)] HCd4.out hbw4 HXd4.out (by decide) hxc (by simp) (by
    intro x hx
    simp at hx
    subst hx
    rfl) (by
    intro x hx
    simp at hx
    subst hx
    exact HOK.out.i7) (by simp only [List.flatMap_cons, List.flatMap_nil, List.length_append, List.append_nil]; omega)
  simp only [List.flatMap_cons, List.flatMap_nil, List.append_nil, ← List.append_assoc, List.map_cons, List.map_nil, List.length_cons, List.length_nil, Nat.zero_add, Nat.reduceAdd] at hq4
  have HQ4 := Lib.hid hq4
  clear hq4
  unfold PutPost at HQ4
  have hc4 := HI4.out.1.cell
  have ht4 := HI4.out.1.tcell
  go_wp2_with fail
  go_region_held3 (fun w' => w'.cell? ⟨w.heap.size, 0, none⟩ = some (.pointer (some ⟨cb, 0, none⟩)) ∧ w'.cell? ⟨w.heap.size + 1, 0, none⟩ = some (.func (.func 52) #[] #[.pointer (some ⟨w.heap.size, 0, none⟩)]))
    (first | exact ⟨HJ5.out.1.cell, HJ5.out.1.tcell⟩ | exact ⟨HId4.out.1.cell, HId4.out.1.tcell⟩ | exact ⟨((Inv2.keeps w B w.heap.size (w.heap.size + 1) cb).wr _ _ HId4.out hbw4 ((Wr.refl B cb w4.drew).alloc (.cells #[.pointer (some ⟨ib, 7, none⟩)] 105) hbw4)).1.cell, ((Inv2.keeps w B w.heap.size (w.heap.size + 1) cb).wr _ _ HId4.out hbw4 ((Wr.refl B cb w4.drew).alloc (.cells #[.pointer (some ⟨ib, 7, none⟩)] 105) hbw4)).1.tcell⟩)
    (first
      | (go_at_call 51; refine Calls.mono HQ4.out ?_; rintro r w5 ⟨rfl, hc, hw⟩; have HJ5 := Lib.hid ((Inv2.keeps w B w.heap.size (w.heap.size + 1) cb).wr _ _ HId4.out hbw4 hw)))
  have HC5 : Hid (CW B cb (ac ++ wText y0 ++ wInt (boolI y1) ++ wInt y2 ++ wInt y3 ++ wInt y4 ++ wText y5 ++ wText y6 ++ wInt y7) w5) := hc
  have HW5 : Hid (Wr B cb w w5) := HWd4.out.trans hw
  have HI5 : Hid (Inv2 w B w.heap.size (w.heap.size + 1) cb w5) := HJ5
  clear hc hw HQ4 HCd4 HWd4 HId4 HXd4 HJ5 hc4 HC4 HW4 HI4 ht4
  have HCd5 : Hid (CW B cb (ac ++ wText y0 ++ wInt (boolI y1) ++ wInt y2 ++ wInt y3 ++ wInt y4 ++ wText y5 ++ wText y6 ++ wInt y7) w5.drew) := HC5.out.drew
  have HWd5 : Hid (Wr B cb w w5.drew) := HW5.out.drew
  have HId5 : Hid (Inv2 w B w.heap.size (w.heap.size + 1) cb w5.drew) := Lib.hid ((Inv2.keeps w B w.heap.size (w.heap.size + 1) cb).wr _ _ HI5.out (Nat.le_trans hBw HW5.out.size) (Wr.refl B cb w5).drew)
  have HXd5 := Lib.hid (HX.out.wr HWd5.out hxc (by decide))
  have hbw5 := Nat.le_trans hBw HWd5.out.size
  have HQ5 := Lib.hid (listPlaced_w (B := B) (cb := cb) (bx := bb) (Inv2 w B w.heap.size (w.heap.size + 1) cb) ⟨w.heap.size, 0, none⟩ y8 ib 8 (Inv2.keeps w B w.heap.size (w.heap.size + 1) cb) HId5.out HCd5.out hbw5 HXd5.out (by decide) hxc rfl (HIN.out.i8.below (HWd5.out.below.mono hbb)) hbb (fun z hz wx a2 xb2 i2 c2 b2 k2 n2 l2 => cloPlaced_w xb2 z i2.1.1 c2 b2 k2 n2 (HOK.out.i8 z hz) l2) (by (try simp only [List.length_append]); omega))
  unfold PutPost at HQ5
  have hc5 := HI5.out.1.cell
  have ht5 := HI5.out.1.tcell
  go_wp2_with fail
  go_region_held3 (fun w' => w'.cell? ⟨w.heap.size, 0, none⟩ = some (.pointer (some ⟨cb, 0, none⟩)) ∧ w'.cell? ⟨w.heap.size + 1, 0, none⟩ = some (.func (.func 52) #[] #[.pointer (some ⟨w.heap.size, 0, none⟩)]))
    (first | exact ⟨HJ6.out.1.cell, HJ6.out.1.tcell⟩ | exact ⟨HId5.out.1.cell, HId5.out.1.tcell⟩)
    (first
      | (go_at_call 55; refine Calls.mono HQ5.out ?_; rintro r w6 ⟨rfl, hc, hw⟩; have HJ6 := Lib.hid ((Inv2.keeps w B w.heap.size (w.heap.size + 1) cb).wr _ _ HId5.out hbw5 hw)))
  have HC6 : Hid (CW B cb (ac ++ wText y0 ++ wInt (boolI y1) ++ wInt y2 ++ wInt y3 ++ wInt y4 ++ wText y5 ++ wText y6 ++ wInt y7 ++ wList wPlaced y8.xs) w6) := hc
  have HW6 : Hid (Wr B cb w w6) := HWd5.out.trans hw
  have HI6 : Hid (Inv2 w B w.heap.size (w.heap.size + 1) cb w6) := HJ6
  clear hc hw HQ5 HCd5 HWd5 HId5 HXd5 HJ6 hc5 HC5 HW5 HI5 ht5
  have HCd6 : Hid (CW B cb (ac ++ wText y0 ++ wInt (boolI y1) ++ wInt y2 ++ wInt y3 ++ wInt y4 ++ wText y5 ++ wText y6 ++ wInt y7 ++ wList wPlaced y8.xs) w6.drew) := HC6.out.drew
  have HWd6 : Hid (Wr B cb w w6.drew) := HW6.out.drew
  have HId6 : Hid (Inv2 w B w.heap.size (w.heap.size + 1) cb w6.drew) := Lib.hid ((Inv2.keeps w B w.heap.size (w.heap.size + 1) cb).wr _ _ HI6.out (Nat.le_trans hBw HW6.out.size) (Wr.refl B cb w6).drew)
  have HXd6 := Lib.hid (HX.out.wr HWd6.out hxc (by decide))
  have hbw6 := Nat.le_trans hBw HWd6.out.size
  have HQ6 := Lib.hid (listExport_w (B := B) (cb := cb) (bx := bb) (Inv2 w B w.heap.size (w.heap.size + 1) cb) ⟨w.heap.size, 0, none⟩ y9 ib 9 (Inv2.keeps w B w.heap.size (w.heap.size + 1) cb) HId6.out HCd6.out hbw6 HXd6.out (by decide) hxc rfl (HIN.out.i9.below (HWd6.out.below.mono hbb)) hbb (fun z hz wx a2 xb2 i2 c2 b2 k2 n2 l2 => cloExport_w xb2 z i2.1.1 c2 b2 k2 n2 (HOK.out.i9 z hz) l2) (by (try simp only [List.length_append]); omega))
  unfold PutPost at HQ6
  have hc6 := HI6.out.1.cell
  have ht6 := HI6.out.1.tcell
  go_wp2_with fail
  go_region_held3 (fun w' => w'.cell? ⟨w.heap.size, 0, none⟩ = some (.pointer (some ⟨cb, 0, none⟩)) ∧ w'.cell? ⟨w.heap.size + 1, 0, none⟩ = some (.func (.func 52) #[] #[.pointer (some ⟨w.heap.size, 0, none⟩)]))
    (first | exact ⟨HJ7.out.1.cell, HJ7.out.1.tcell⟩ | exact ⟨HId6.out.1.cell, HId6.out.1.tcell⟩)
    (first
      | (go_at_call 57; refine Calls.mono HQ6.out ?_; rintro r w7 ⟨rfl, hc, hw⟩; have HJ7 := Lib.hid ((Inv2.keeps w B w.heap.size (w.heap.size + 1) cb).wr _ _ HId6.out hbw6 hw)))
  have HC7 : Hid (CW B cb (ac ++ wText y0 ++ wInt (boolI y1) ++ wInt y2 ++ wInt y3 ++ wInt y4 ++ wText y5 ++ wText y6 ++ wInt y7 ++ wList wPlaced y8.xs ++ wList wExport y9.xs) w7) := hc
  have HW7 : Hid (Wr B cb w w7) := HWd6.out.trans hw
  have HI7 : Hid (Inv2 w B w.heap.size (w.heap.size + 1) cb w7) := HJ7
  clear hc hw HQ6 HCd6 HWd6 HId6 HXd6 HJ7 hc6 HC6 HW6 HI6 ht6
  have HCd7 : Hid (CW B cb (ac ++ wText y0 ++ wInt (boolI y1) ++ wInt y2 ++ wInt y3 ++ wInt y4 ++ wText y5 ++ wText y6 ++ wInt y7 ++ wList wPlaced y8.xs ++ wList wExport y9.xs) w7.drew) := HC7.out.drew
  have HWd7 : Hid (Wr B cb w w7.drew) := HW7.out.drew
  have HId7 : Hid (Inv2 w B w.heap.size (w.heap.size + 1) cb w7.drew) := Lib.hid ((Inv2.keeps w B w.heap.size (w.heap.size + 1) cb).wr _ _ HI7.out (Nat.le_trans hBw HW7.out.size) (Wr.refl B cb w7).drew)
  have HXd7 := Lib.hid (HX.out.wr HWd7.out hxc (by decide))
  have hbw7 := Nat.le_trans hBw HWd7.out.size
  have HQ7 := Lib.hid (listImport_w (B := B) (cb := cb) (bx := bb) (Inv2 w B w.heap.size (w.heap.size + 1) cb) ⟨w.heap.size, 0, none⟩ y10 ib 10 (Inv2.keeps w B w.heap.size (w.heap.size + 1) cb) HId7.out HCd7.out hbw7 HXd7.out (by decide) hxc rfl (HIN.out.i10.below (HWd7.out.below.mono hbb)) hbb (fun z hz wx a2 xb2 i2 c2 b2 k2 n2 l2 => cloImport_w xb2 z i2.1.1 c2 b2 k2 n2 (HOK.out.i10 z hz) l2) (by (try simp only [List.length_append]); omega))
  unfold PutPost at HQ7
  have hc7 := HI7.out.1.cell
  have ht7 := HI7.out.1.tcell
  go_wp2_with fail
  go_region_held3 (fun w' => w'.cell? ⟨w.heap.size, 0, none⟩ = some (.pointer (some ⟨cb, 0, none⟩)) ∧ w'.cell? ⟨w.heap.size + 1, 0, none⟩ = some (.func (.func 52) #[] #[.pointer (some ⟨w.heap.size, 0, none⟩)]))
    (first | exact ⟨HJ8.out.1.cell, HJ8.out.1.tcell⟩ | exact ⟨HId7.out.1.cell, HId7.out.1.tcell⟩)
    (first
      | (go_at_call 59; refine Calls.mono HQ7.out ?_; rintro r w8 ⟨rfl, hc, hw⟩; have HJ8 := Lib.hid ((Inv2.keeps w B w.heap.size (w.heap.size + 1) cb).wr _ _ HId7.out hbw7 hw)))
  have HC8 : Hid (CW B cb (ac ++ wText y0 ++ wInt (boolI y1) ++ wInt y2 ++ wInt y3 ++ wInt y4 ++ wText y5 ++ wText y6 ++ wInt y7 ++ wList wPlaced y8.xs ++ wList wExport y9.xs ++ wList wImport y10.xs) w8) := hc
  have HW8 : Hid (Wr B cb w w8) := HWd7.out.trans hw
  have HI8 : Hid (Inv2 w B w.heap.size (w.heap.size + 1) cb w8) := HJ8
  clear hc hw HQ7 HCd7 HWd7 HId7 HXd7 HJ8 hc7 HC7 HW7 HI7 ht7
  have HCd8 : Hid (CW B cb (ac ++ wText y0 ++ wInt (boolI y1) ++ wInt y2 ++ wInt y3 ++ wInt y4 ++ wText y5 ++ wText y6 ++ wInt y7 ++ wList wPlaced y8.xs ++ wList wExport y9.xs ++ wList wImport y10.xs) w8.drew) := HC8.out.drew
  have HWd8 : Hid (Wr B cb w w8.drew) := HW8.out.drew
  have HId8 : Hid (Inv2 w B w.heap.size (w.heap.size + 1) cb w8.drew) := Lib.hid ((Inv2.keeps w B w.heap.size (w.heap.size + 1) cb).wr _ _ HI8.out (Nat.le_trans hBw HW8.out.size) (Wr.refl B cb w8).drew)
  have HXd8 := Lib.hid (HX.out.wr HWd8.out hxc (by decide))
  have hbw8 := Nat.le_trans hBw HWd8.out.size
  have HQ8 := Lib.hid (listInt__w (B := B) (cb := cb) (bx := bb) (Inv2 w B w.heap.size (w.heap.size + 1) cb) ⟨w.heap.size, 0, none⟩ y11 ib 11 (Inv2.keeps w B w.heap.size (w.heap.size + 1) cb) HId8.out HCd8.out hbw8 HXd8.out (by decide) hxc rfl (HIN.out.i11.below (HWd8.out.below.mono hbb)) hbb (fun z hz wx a2 xb2 i2 c2 b2 k2 n2 l2 => cloInt__w xb2 z i2.1.1 c2 b2 k2 n2 (HOK.out.i11 z hz) l2) (by (try simp only [List.length_append]); omega))
  unfold PutPost at HQ8
  have hc8 := HI8.out.1.cell
  have ht8 := HI8.out.1.tcell
  go_wp2_with fail
  go_region_held3 (fun w' => w'.cell? ⟨w.heap.size, 0, none⟩ = some (.pointer (some ⟨cb, 0, none⟩)) ∧ w'.cell? ⟨w.heap.size + 1, 0, none⟩ = some (.func (.func 52) #[] #[.pointer (some ⟨w.heap.size, 0, none⟩)]))
    (first | exact ⟨HJ9.out.1.cell, HJ9.out.1.tcell⟩ | exact ⟨HId8.out.1.cell, HId8.out.1.tcell⟩)
    (first
      | (go_at_call 61; refine Calls.mono HQ8.out ?_; rintro r w9 ⟨rfl, hc, hw⟩; have HJ9 := Lib.hid ((Inv2.keeps w B w.heap.size (w.heap.size + 1) cb).wr _ _ HId8.out hbw8 hw)))
  have HC9 : Hid (CW B cb (ac ++ wText y0 ++ wInt (boolI y1) ++ wInt y2 ++ wInt y3 ++ wInt y4 ++ wText y5 ++ wText y6 ++ wInt y7 ++ wList wPlaced y8.xs ++ wList wExport y9.xs ++ wList wImport y10.xs ++ wList wInt_ y11.xs) w9) := hc
  have HW9 : Hid (Wr B cb w w9) := HWd8.out.trans hw
  have HI9 : Hid (Inv2 w B w.heap.size (w.heap.size + 1) cb w9) := HJ9
  clear hc hw HQ8 HCd8 HWd8 HId8 HXd8 HJ9 hc8 HC8 HW8 HI8 ht8
  have HCd9 : Hid (CW B cb (ac ++ wText y0 ++ wInt (boolI y1) ++ wInt y2 ++ wInt y3 ++ wInt y4 ++ wText y5 ++ wText y6 ++ wInt y7 ++ wList wPlaced y8.xs ++ wList wExport y9.xs ++ wList wImport y10.xs ++ wList wInt_ y11.xs) w9.drew) := HC9.out.drew
  have HWd9 : Hid (Wr B cb w w9.drew) := HW9.out.drew
  have HId9 : Hid (Inv2 w B w.heap.size (w.heap.size + 1) cb w9.drew) := Lib.hid ((Inv2.keeps w B w.heap.size (w.heap.size + 1) cb).wr _ _ HI9.out (Nat.le_trans hBw HW9.out.size) (Wr.refl B cb w9).drew)
  have HXd9 := Lib.hid (HX.out.wr HWd9.out hxc (by decide))
  have hbw9 := Nat.le_trans hBw HWd9.out.size
  have HQ9 := Lib.hid (listInt__w (B := B) (cb := cb) (bx := bb) (Inv2 w B w.heap.size (w.heap.size + 1) cb) ⟨w.heap.size, 0, none⟩ y12 ib 12 (Inv2.keeps w B w.heap.size (w.heap.size + 1) cb) HId9.out HCd9.out hbw9 HXd9.out (by decide) hxc rfl (HIN.out.i12.below (HWd9.out.below.mono hbb)) hbb (fun z hz wx a2 xb2 i2 c2 b2 k2 n2 l2 => cloInt__w xb2 z i2.1.1 c2 b2 k2 n2 (HOK.out.i12 z hz) l2) (by (try simp only [List.length_append]); omega))
  unfold PutPost at HQ9
  have hc9 := HI9.out.1.cell
  have ht9 := HI9.out.1.tcell
  go_wp2_with fail
  go_region_held3 (fun w' => w'.cell? ⟨w.heap.size, 0, none⟩ = some (.pointer (some ⟨cb, 0, none⟩)) ∧ w'.cell? ⟨w.heap.size + 1, 0, none⟩ = some (.func (.func 52) #[] #[.pointer (some ⟨w.heap.size, 0, none⟩)]))
    (first | exact ⟨HJ10.out.1.cell, HJ10.out.1.tcell⟩ | exact ⟨HId9.out.1.cell, HId9.out.1.tcell⟩)
    (first
      | (go_at_call 61; refine Calls.mono HQ9.out ?_; rintro r w10 ⟨rfl, hc, hw⟩; have HJ10 := Lib.hid ((Inv2.keeps w B w.heap.size (w.heap.size + 1) cb).wr _ _ HId9.out hbw9 hw)))
  have HC10 : Hid (CW B cb (ac ++ wText y0 ++ wInt (boolI y1) ++ wInt y2 ++ wInt y3 ++ wInt y4 ++ wText y5 ++ wText y6 ++ wInt y7 ++ wList wPlaced y8.xs ++ wList wExport y9.xs ++ wList wImport y10.xs ++ wList wInt_ y11.xs ++ wList wInt_ y12.xs) w10) := hc
  have HW10 : Hid (Wr B cb w w10) := HWd9.out.trans hw
  have HI10 : Hid (Inv2 w B w.heap.size (w.heap.size + 1) cb w10) := HJ10
  clear hc hw HQ9 HCd9 HWd9 HId9 HXd9 HJ10 hc9 HC9 HW9 HI9 ht9
  have HCd10 : Hid (CW B cb (ac ++ wText y0 ++ wInt (boolI y1) ++ wInt y2 ++ wInt y3 ++ wInt y4 ++ wText y5 ++ wText y6 ++ wInt y7 ++ wList wPlaced y8.xs ++ wList wExport y9.xs ++ wList wImport y10.xs ++ wList wInt_ y11.xs ++ wList wInt_ y12.xs) w10.drew) := HC10.out.drew
  have HWd10 : Hid (Wr B cb w w10.drew) := HW10.out.drew
  have HId10 : Hid (Inv2 w B w.heap.size (w.heap.size + 1) cb w10.drew) := Lib.hid ((Inv2.keeps w B w.heap.size (w.heap.size + 1) cb).wr _ _ HI10.out (Nat.le_trans hBw HW10.out.size) (Wr.refl B cb w10).drew)
  have HXd10 := Lib.hid (HX.out.wr HWd10.out hxc (by decide))
  have hbw10 := Nat.le_trans hBw HWd10.out.size
  have HQ10 := Lib.hid (listDyn_w (B := B) (cb := cb) (bx := bb) (Inv2 w B w.heap.size (w.heap.size + 1) cb) ⟨w.heap.size, 0, none⟩ y13 ib 13 (Inv2.keeps w B w.heap.size (w.heap.size + 1) cb) HId10.out HCd10.out hbw10 HXd10.out (by decide) hxc rfl (HIN.out.i13.below (HWd10.out.below.mono hbb)) hbb (fun z hz wx a2 xb2 i2 c2 b2 k2 n2 l2 => cloDyn_w xb2 z i2.1.1 c2 b2 k2 n2 (HOK.out.i13 z hz) l2) (by (try simp only [List.length_append]); omega))
  unfold PutPost at HQ10
  have hc10 := HI10.out.1.cell
  have ht10 := HI10.out.1.tcell
  go_wp2_with fail
  go_region_held3 (fun w' => w'.cell? ⟨w.heap.size, 0, none⟩ = some (.pointer (some ⟨cb, 0, none⟩)) ∧ w'.cell? ⟨w.heap.size + 1, 0, none⟩ = some (.func (.func 52) #[] #[.pointer (some ⟨w.heap.size, 0, none⟩)]))
    (first | exact ⟨HJ11.out.1.cell, HJ11.out.1.tcell⟩ | exact ⟨HId10.out.1.cell, HId10.out.1.tcell⟩)
    (first
      | (go_at_call 62; refine Calls.mono HQ10.out ?_; rintro r w11 ⟨rfl, hc, hw⟩; have HJ11 := Lib.hid ((Inv2.keeps w B w.heap.size (w.heap.size + 1) cb).wr _ _ HId10.out hbw10 hw)))
  have HC11 : Hid (CW B cb (ac ++ wText y0 ++ wInt (boolI y1) ++ wInt y2 ++ wInt y3 ++ wInt y4 ++ wText y5 ++ wText y6 ++ wInt y7 ++ wList wPlaced y8.xs ++ wList wExport y9.xs ++ wList wImport y10.xs ++ wList wInt_ y11.xs ++ wList wInt_ y12.xs ++ wList wDyn y13.xs) w11) := hc
  have HW11 : Hid (Wr B cb w w11) := HWd10.out.trans hw
  have HI11 : Hid (Inv2 w B w.heap.size (w.heap.size + 1) cb w11) := HJ11
  clear hc hw HQ10 HCd10 HWd10 HId10 HXd10 HJ11 hc10 HC10 HW10 HI10 ht10
  have HCd11 : Hid (CW B cb (ac ++ wText y0 ++ wInt (boolI y1) ++ wInt y2 ++ wInt y3 ++ wInt y4 ++ wText y5 ++ wText y6 ++ wInt y7 ++ wList wPlaced y8.xs ++ wList wExport y9.xs ++ wList wImport y10.xs ++ wList wInt_ y11.xs ++ wList wInt_ y12.xs ++ wList wDyn y13.xs) w11.drew) := HC11.out.drew
  have HWd11 : Hid (Wr B cb w w11.drew) := HW11.out.drew
  have HId11 : Hid (Inv2 w B w.heap.size (w.heap.size + 1) cb w11.drew) := Lib.hid ((Inv2.keeps w B w.heap.size (w.heap.size + 1) cb).wr _ _ HI11.out (Nat.le_trans hBw HW11.out.size) (Wr.refl B cb w11).drew)
  have HXd11 := Lib.hid (HX.out.wr HWd11.out hxc (by decide))
  have hbw11 := Nat.le_trans hBw HWd11.out.size
  have HQ11 := Lib.hid (listInt__w (B := B) (cb := cb) (bx := bb) (Inv2 w B w.heap.size (w.heap.size + 1) cb) ⟨w.heap.size, 0, none⟩ y14 ib 14 (Inv2.keeps w B w.heap.size (w.heap.size + 1) cb) HId11.out HCd11.out hbw11 HXd11.out (by decide) hxc rfl (HIN.out.i14.below (HWd11.out.below.mono hbb)) hbb (fun z hz wx a2 xb2 i2 c2 b2 k2 n2 l2 => cloInt__w xb2 z i2.1.1 c2 b2 k2 n2 (HOK.out.i14 z hz) l2) (by (try simp only [List.length_append]); omega))
  unfold PutPost at HQ11
  have hc11 := HI11.out.1.cell
  have ht11 := HI11.out.1.tcell
  go_wp2_with fail
  go_region_held3 (fun w' => w'.cell? ⟨w.heap.size, 0, none⟩ = some (.pointer (some ⟨cb, 0, none⟩)) ∧ w'.cell? ⟨w.heap.size + 1, 0, none⟩ = some (.func (.func 52) #[] #[.pointer (some ⟨w.heap.size, 0, none⟩)]))
    (first | exact ⟨HJ12.out.1.cell, HJ12.out.1.tcell⟩ | exact ⟨HId11.out.1.cell, HId11.out.1.tcell⟩)
    (first
      | (go_at_call 61; refine Calls.mono HQ11.out ?_; rintro r w12 ⟨rfl, hc, hw⟩; have HJ12 := Lib.hid ((Inv2.keeps w B w.heap.size (w.heap.size + 1) cb).wr _ _ HId11.out hbw11 hw)))
  have HC12 : Hid (CW B cb (ac ++ wText y0 ++ wInt (boolI y1) ++ wInt y2 ++ wInt y3 ++ wInt y4 ++ wText y5 ++ wText y6 ++ wInt y7 ++ wList wPlaced y8.xs ++ wList wExport y9.xs ++ wList wImport y10.xs ++ wList wInt_ y11.xs ++ wList wInt_ y12.xs ++ wList wDyn y13.xs ++ wList wInt_ y14.xs) w12) := hc
  have HW12 : Hid (Wr B cb w w12) := HWd11.out.trans hw
  have HI12 : Hid (Inv2 w B w.heap.size (w.heap.size + 1) cb w12) := HJ12
  clear hc hw HQ11 HCd11 HWd11 HId11 HXd11 HJ12 hc11 HC11 HW11 HI11 ht11
  have HCd12 : Hid (CW B cb (ac ++ wText y0 ++ wInt (boolI y1) ++ wInt y2 ++ wInt y3 ++ wInt y4 ++ wText y5 ++ wText y6 ++ wInt y7 ++ wList wPlaced y8.xs ++ wList wExport y9.xs ++ wList wImport y10.xs ++ wList wInt_ y11.xs ++ wList wInt_ y12.xs ++ wList wDyn y13.xs ++ wList wInt_ y14.xs) w12.drew) := HC12.out.drew
  have HWd12 : Hid (Wr B cb w w12.drew) := HW12.out.drew
  have HId12 : Hid (Inv2 w B w.heap.size (w.heap.size + 1) cb w12.drew) := Lib.hid ((Inv2.keeps w B w.heap.size (w.heap.size + 1) cb).wr _ _ HI12.out (Nat.le_trans hBw HW12.out.size) (Wr.refl B cb w12).drew)
  have HXd12 := Lib.hid (HX.out.wr HWd12.out hxc (by decide))
  have hbw12 := Nat.le_trans hBw HWd12.out.size
  have HQ12 := Lib.hid (listInt__w (B := B) (cb := cb) (bx := bb) (Inv2 w B w.heap.size (w.heap.size + 1) cb) ⟨w.heap.size, 0, none⟩ y15 ib 15 (Inv2.keeps w B w.heap.size (w.heap.size + 1) cb) HId12.out HCd12.out hbw12 HXd12.out (by decide) hxc rfl (HIN.out.i15.below (HWd12.out.below.mono hbb)) hbb (fun z hz wx a2 xb2 i2 c2 b2 k2 n2 l2 => cloInt__w xb2 z i2.1.1 c2 b2 k2 n2 (HOK.out.i15 z hz) l2) (by (try simp only [List.length_append]); omega))
  unfold PutPost at HQ12
  have hc12 := HI12.out.1.cell
  have ht12 := HI12.out.1.tcell
  go_wp2_with fail
  go_region_held3 (fun w' => w'.cell? ⟨w.heap.size, 0, none⟩ = some (.pointer (some ⟨cb, 0, none⟩)) ∧ w'.cell? ⟨w.heap.size + 1, 0, none⟩ = some (.func (.func 52) #[] #[.pointer (some ⟨w.heap.size, 0, none⟩)]))
    (first | exact ⟨HJ13.out.1.cell, HJ13.out.1.tcell⟩ | exact ⟨HId12.out.1.cell, HId12.out.1.tcell⟩)
    (first
      | (go_at_call 61; refine Calls.mono HQ12.out ?_; rintro r w13 ⟨rfl, hc, hw⟩; have HJ13 := Lib.hid ((Inv2.keeps w B w.heap.size (w.heap.size + 1) cb).wr _ _ HId12.out hbw12 hw)))
  have HC13 : Hid (CW B cb (ac ++ wText y0 ++ wInt (boolI y1) ++ wInt y2 ++ wInt y3 ++ wInt y4 ++ wText y5 ++ wText y6 ++ wInt y7 ++ wList wPlaced y8.xs ++ wList wExport y9.xs ++ wList wImport y10.xs ++ wList wInt_ y11.xs ++ wList wInt_ y12.xs ++ wList wDyn y13.xs ++ wList wInt_ y14.xs ++ wList wInt_ y15.xs) w13) := hc
  have HW13 : Hid (Wr B cb w w13) := HWd12.out.trans hw
  have HI13 : Hid (Inv2 w B w.heap.size (w.heap.size + 1) cb w13) := HJ13
  clear hc hw HQ12 HCd12 HWd12 HId12 HXd12 HJ13 hc12 HC12 HW12 HI12 ht12
  have HCd13 : Hid (CW B cb (ac ++ wText y0 ++ wInt (boolI y1) ++ wInt y2 ++ wInt y3 ++ wInt y4 ++ wText y5 ++ wText y6 ++ wInt y7 ++ wList wPlaced y8.xs ++ wList wExport y9.xs ++ wList wImport y10.xs ++ wList wInt_ y11.xs ++ wList wInt_ y12.xs ++ wList wDyn y13.xs ++ wList wInt_ y14.xs ++ wList wInt_ y15.xs) w13.drew) := HC13.out.drew
  have HWd13 : Hid (Wr B cb w w13.drew) := HW13.out.drew
  have HId13 : Hid (Inv2 w B w.heap.size (w.heap.size + 1) cb w13.drew) := Lib.hid ((Inv2.keeps w B w.heap.size (w.heap.size + 1) cb).wr _ _ HI13.out (Nat.le_trans hBw HW13.out.size) (Wr.refl B cb w13).drew)
  have HXd13 := Lib.hid (HX.out.wr HWd13.out hxc (by decide))
  have hbw13 := Nat.le_trans hBw HWd13.out.size
  have hq13 := ints_new (w := w13.drew) [(16, y16)] HCd13.out hbw13 HXd13.out (by decide) hxc (by simp) (by
    intro x hx
    simp at hx
    subst hx
    rfl) (by
    intro x hx
    simp at hx
    subst hx
    exact HOK.out.i16) (by simp only [List.flatMap_cons, List.flatMap_nil, List.length_append, List.append_nil]; omega)
  simp only [List.flatMap_cons, List.flatMap_nil, List.append_nil, ← List.append_assoc, List.map_cons, List.map_nil, List.length_cons, List.length_nil, Nat.zero_add, Nat.reduceAdd] at hq13
  have HQ13 := Lib.hid hq13
  clear hq13
  unfold PutPost at HQ13
  have hc13 := HI13.out.1.cell
  have ht13 := HI13.out.1.tcell
  go_wp2_with fail
  go_region_held3 (fun w' => w'.cell? ⟨w.heap.size, 0, none⟩ = some (.pointer (some ⟨cb, 0, none⟩)) ∧ w'.cell? ⟨w.heap.size + 1, 0, none⟩ = some (.func (.func 52) #[] #[.pointer (some ⟨w.heap.size, 0, none⟩)]))
    (first | exact ⟨HJ14.out.1.cell, HJ14.out.1.tcell⟩ | exact ⟨HId13.out.1.cell, HId13.out.1.tcell⟩ | exact ⟨((Inv2.keeps w B w.heap.size (w.heap.size + 1) cb).wr _ _ HId13.out hbw13 ((Wr.refl B cb w13.drew).alloc (.cells #[.pointer (some ⟨ib, 16, none⟩)] 105) hbw13)).1.cell, ((Inv2.keeps w B w.heap.size (w.heap.size + 1) cb).wr _ _ HId13.out hbw13 ((Wr.refl B cb w13.drew).alloc (.cells #[.pointer (some ⟨ib, 16, none⟩)] 105) hbw13)).1.tcell⟩)
    (first
      | (go_at_call 51; refine Calls.mono HQ13.out ?_; rintro r w14 ⟨rfl, hc, hw⟩; have HJ14 := Lib.hid ((Inv2.keeps w B w.heap.size (w.heap.size + 1) cb).wr _ _ HId13.out hbw13 hw)))
  have HC14 : Hid (CW B cb (ac ++ wText y0 ++ wInt (boolI y1) ++ wInt y2 ++ wInt y3 ++ wInt y4 ++ wText y5 ++ wText y6 ++ wInt y7 ++ wList wPlaced y8.xs ++ wList wExport y9.xs ++ wList wImport y10.xs ++ wList wInt_ y11.xs ++ wList wInt_ y12.xs ++ wList wDyn y13.xs ++ wList wInt_ y14.xs ++ wList wInt_ y15.xs ++ wInt y16) w14) := hc
  have HW14 : Hid (Wr B cb w w14) := HWd13.out.trans hw
  have HI14 : Hid (Inv2 w B w.heap.size (w.heap.size + 1) cb w14) := HJ14
  clear hc hw HQ13 HCd13 HWd13 HId13 HXd13 HJ14 hc13 HC13 HW13 HI13 ht13
  have HCd14 : Hid (CW B cb (ac ++ wText y0 ++ wInt (boolI y1) ++ wInt y2 ++ wInt y3 ++ wInt y4 ++ wText y5 ++ wText y6 ++ wInt y7 ++ wList wPlaced y8.xs ++ wList wExport y9.xs ++ wList wImport y10.xs ++ wList wInt_ y11.xs ++ wList wInt_ y12.xs ++ wList wDyn y13.xs ++ wList wInt_ y14.xs ++ wList wInt_ y15.xs ++ wInt y16) w14.drew) := HC14.out.drew
  have HWd14 : Hid (Wr B cb w w14.drew) := HW14.out.drew
  have HId14 : Hid (Inv2 w B w.heap.size (w.heap.size + 1) cb w14.drew) := Lib.hid ((Inv2.keeps w B w.heap.size (w.heap.size + 1) cb).wr _ _ HI14.out (Nat.le_trans hBw HW14.out.size) (Wr.refl B cb w14).drew)
  have HXd14 := Lib.hid (HX.out.wr HWd14.out hxc (by decide))
  have hbw14 := Nat.le_trans hBw HWd14.out.size
  have HQ14 := Lib.hid (listStr_w (B := B) (cb := cb) (bx := bb) (Inv2 w B w.heap.size (w.heap.size + 1) cb) ⟨w.heap.size, 0, none⟩ y17 ib 17 (Inv2.keeps w B w.heap.size (w.heap.size + 1) cb) HId14.out HCd14.out hbw14 HXd14.out (by decide) hxc rfl (HIN.out.i17.below (HWd14.out.below.mono hbb)) hbb (fun z hz wx a2 xb2 i2 c2 b2 k2 n2 l2 => cloStr_w xb2 z i2.1.1 c2 b2 k2 n2 (HOK.out.i17 z hz) l2) (by (try simp only [List.length_append]); omega))
  unfold PutPost at HQ14
  have hc14 := HI14.out.1.cell
  have ht14 := HI14.out.1.tcell
  go_wp2_with fail
  go_region_held3 (fun w' => w'.cell? ⟨w.heap.size, 0, none⟩ = some (.pointer (some ⟨cb, 0, none⟩)) ∧ w'.cell? ⟨w.heap.size + 1, 0, none⟩ = some (.func (.func 52) #[] #[.pointer (some ⟨w.heap.size, 0, none⟩)]))
    (first | exact ⟨HJ15.out.1.cell, HJ15.out.1.tcell⟩ | exact ⟨HId14.out.1.cell, HId14.out.1.tcell⟩)
    (first
      | (go_at_call 64; refine Calls.mono HQ14.out ?_; rintro r w15 ⟨rfl, hc, hw⟩; have HJ15 := Lib.hid ((Inv2.keeps w B w.heap.size (w.heap.size + 1) cb).wr _ _ HId14.out hbw14 hw)))
  have HC15 : Hid (CW B cb (ac ++ wText y0 ++ wInt (boolI y1) ++ wInt y2 ++ wInt y3 ++ wInt y4 ++ wText y5 ++ wText y6 ++ wInt y7 ++ wList wPlaced y8.xs ++ wList wExport y9.xs ++ wList wImport y10.xs ++ wList wInt_ y11.xs ++ wList wInt_ y12.xs ++ wList wDyn y13.xs ++ wList wInt_ y14.xs ++ wList wInt_ y15.xs ++ wInt y16 ++ wList wStr y17.xs) w15) := hc
  have HW15 : Hid (Wr B cb w w15) := HWd14.out.trans hw
  have HI15 : Hid (Inv2 w B w.heap.size (w.heap.size + 1) cb w15) := HJ15
  clear hc hw HQ14 HCd14 HWd14 HId14 HXd14 HJ15 hc14 HC14 HW14 HI14 ht14
  have HCd15 : Hid (CW B cb (ac ++ wText y0 ++ wInt (boolI y1) ++ wInt y2 ++ wInt y3 ++ wInt y4 ++ wText y5 ++ wText y6 ++ wInt y7 ++ wList wPlaced y8.xs ++ wList wExport y9.xs ++ wList wImport y10.xs ++ wList wInt_ y11.xs ++ wList wInt_ y12.xs ++ wList wDyn y13.xs ++ wList wInt_ y14.xs ++ wList wInt_ y15.xs ++ wInt y16 ++ wList wStr y17.xs) w15.drew) := HC15.out.drew
  have HWd15 : Hid (Wr B cb w w15.drew) := HW15.out.drew
  have HId15 : Hid (Inv2 w B w.heap.size (w.heap.size + 1) cb w15.drew) := Lib.hid ((Inv2.keeps w B w.heap.size (w.heap.size + 1) cb).wr _ _ HI15.out (Nat.le_trans hBw HW15.out.size) (Wr.refl B cb w15).drew)
  have HXd15 := Lib.hid (HX.out.wr HWd15.out hxc (by decide))
  have hbw15 := Nat.le_trans hBw HWd15.out.size
  have HQ15 := Lib.hid (listVerDef_w (B := B) (cb := cb) (bx := bb) (Inv2 w B w.heap.size (w.heap.size + 1) cb) ⟨⟨w.heap.size, 0, none⟩, ⟨w.heap.size + 1, 0, none⟩⟩ y18 ib 18 (Inv2.keeps w B w.heap.size (w.heap.size + 1) cb) HId15.out HCd15.out hbw15 HXd15.out (by decide) hxc rfl (HIN.out.i18.below (HWd15.out.below.mono hbb)) hbb (fun z hz wx a2 xb2 i2 c2 b2 k2 n2 l2 => cloVerDef_w xb2 z i2.1 c2 b2 k2 n2 (HOK.out.i18 z hz) ((HIN.out.n18 z hz).below (i2.2.mono hbb)) hbb l2) (by (try simp only [List.length_append]); omega))
  unfold PutPost at HQ15
  have hc15 := HI15.out.1.cell
  have ht15 := HI15.out.1.tcell
  go_wp2_with fail
  go_region_held3 (fun w' => w'.cell? ⟨w.heap.size, 0, none⟩ = some (.pointer (some ⟨cb, 0, none⟩)) ∧ w'.cell? ⟨w.heap.size + 1, 0, none⟩ = some (.func (.func 52) #[] #[.pointer (some ⟨w.heap.size, 0, none⟩)]))
    (first | exact ⟨HJ16.out.1.cell, HJ16.out.1.tcell⟩ | exact ⟨HId15.out.1.cell, HId15.out.1.tcell⟩)
    (first
      | (go_at_call 65; refine Calls.mono HQ15.out ?_; rintro r w16 ⟨rfl, hc, hw⟩; have HJ16 := Lib.hid ((Inv2.keeps w B w.heap.size (w.heap.size + 1) cb).wr _ _ HId15.out hbw15 hw)))
  have HC16 : Hid (CW B cb (ac ++ wText y0 ++ wInt (boolI y1) ++ wInt y2 ++ wInt y3 ++ wInt y4 ++ wText y5 ++ wText y6 ++ wInt y7 ++ wList wPlaced y8.xs ++ wList wExport y9.xs ++ wList wImport y10.xs ++ wList wInt_ y11.xs ++ wList wInt_ y12.xs ++ wList wDyn y13.xs ++ wList wInt_ y14.xs ++ wList wInt_ y15.xs ++ wInt y16 ++ wList wStr y17.xs ++ wList wVerDef y18.xs) w16) := hc
  have HW16 : Hid (Wr B cb w w16) := HWd15.out.trans hw
  have HI16 : Hid (Inv2 w B w.heap.size (w.heap.size + 1) cb w16) := HJ16
  clear hc hw HQ15 HCd15 HWd15 HId15 HXd15 HJ16 hc15 HC15 HW15 HI15 ht15
  have HCd16 : Hid (CW B cb (ac ++ wText y0 ++ wInt (boolI y1) ++ wInt y2 ++ wInt y3 ++ wInt y4 ++ wText y5 ++ wText y6 ++ wInt y7 ++ wList wPlaced y8.xs ++ wList wExport y9.xs ++ wList wImport y10.xs ++ wList wInt_ y11.xs ++ wList wInt_ y12.xs ++ wList wDyn y13.xs ++ wList wInt_ y14.xs ++ wList wInt_ y15.xs ++ wInt y16 ++ wList wStr y17.xs ++ wList wVerDef y18.xs) w16.drew) := HC16.out.drew
  have HWd16 : Hid (Wr B cb w w16.drew) := HW16.out.drew
  have HId16 : Hid (Inv2 w B w.heap.size (w.heap.size + 1) cb w16.drew) := Lib.hid ((Inv2.keeps w B w.heap.size (w.heap.size + 1) cb).wr _ _ HI16.out (Nat.le_trans hBw HW16.out.size) (Wr.refl B cb w16).drew)
  have HXd16 := Lib.hid (HX.out.wr HWd16.out hxc (by decide))
  have hbw16 := Nat.le_trans hBw HWd16.out.size
  have HQ16 := Lib.hid (info_w (bb := bb) ⟨y0, y1, y2, y3, y4, y5, y6, y7, y8, y9, y10, y11, y12, y13, y14, y15, y16, y17, y18, y19, y20, y21, y22, y23, y24, y25⟩ HCd16.out hbw16 HXd16.out hxc (HIN.out.below (HWd16.out.below.mono hbb)) hbb HOK.out (by rw [← HINF.out]; (try simp only [List.length_append]); omega))
  rw [← HINF.out] at HQ16
  unfold PutPost at HQ16
  have hc16 := HI16.out.1.cell
  have ht16 := HI16.out.1.tcell
  go_wp2_with fail
  go_region_held3 (fun w' => w'.cell? ⟨w.heap.size, 0, none⟩ = some (.pointer (some ⟨cb, 0, none⟩)) ∧ w'.cell? ⟨w.heap.size + 1, 0, none⟩ = some (.func (.func 52) #[] #[.pointer (some ⟨w.heap.size, 0, none⟩)]))
    (first | exact ⟨HJ17.out.1.cell, HJ17.out.1.tcell⟩ | exact ⟨HId16.out.1.cell, HId16.out.1.tcell⟩)
    (first
      | (go_at_call 67; refine Calls.mono HQ16.out ?_; rintro r w17 ⟨rfl, hc, hw⟩; have HJ17 := Lib.hid ((Inv2.keeps w B w.heap.size (w.heap.size + 1) cb).wr _ _ HId16.out hbw16 hw)))
  have HC17 : Hid (CW B cb (ac ++ wText y0 ++ wInt (boolI y1) ++ wInt y2 ++ wInt y3 ++ wInt y4 ++ wText y5 ++ wText y6 ++ wInt y7 ++ wList wPlaced y8.xs ++ wList wExport y9.xs ++ wList wImport y10.xs ++ wList wInt_ y11.xs ++ wList wInt_ y12.xs ++ wList wDyn y13.xs ++ wList wInt_ y14.xs ++ wList wInt_ y15.xs ++ wInt y16 ++ wList wStr y17.xs ++ wList wVerDef y18.xs ++ INF) w17) := hc
  have HW17 : Hid (Wr B cb w w17) := HWd16.out.trans hw
  have HI17 : Hid (Inv2 w B w.heap.size (w.heap.size + 1) cb w17) := HJ17
  clear hc hw HQ16 HCd16 HWd16 HId16 HXd16 HJ17 hc16 HC16 HW16 HI16 ht16
  have HCd17 : Hid (CW B cb (ac ++ wText y0 ++ wInt (boolI y1) ++ wInt y2 ++ wInt y3 ++ wInt y4 ++ wText y5 ++ wText y6 ++ wInt y7 ++ wList wPlaced y8.xs ++ wList wExport y9.xs ++ wList wImport y10.xs ++ wList wInt_ y11.xs ++ wList wInt_ y12.xs ++ wList wDyn y13.xs ++ wList wInt_ y14.xs ++ wList wInt_ y15.xs ++ wInt y16 ++ wList wStr y17.xs ++ wList wVerDef y18.xs ++ INF) w17.drew) := HC17.out.drew
  have HWd17 : Hid (Wr B cb w w17.drew) := HW17.out.drew
  have HId17 : Hid (Inv2 w B w.heap.size (w.heap.size + 1) cb w17.drew) := Lib.hid ((Inv2.keeps w B w.heap.size (w.heap.size + 1) cb).wr _ _ HI17.out (Nat.le_trans hBw HW17.out.size) (Wr.refl B cb w17).drew)
  have HXd17 := Lib.hid (HX.out.wr HWd17.out hxc (by decide))
  have hbw17 := Nat.le_trans hBw HWd17.out.size
  have HQ17 := Lib.hid (listConv_w (B := B) (cb := cb) (bx := bb) (Inv2 w B w.heap.size (w.heap.size + 1) cb) ⟨w.heap.size, 0, none⟩ y25 ib 25 (Inv2.keeps w B w.heap.size (w.heap.size + 1) cb) HId17.out HCd17.out hbw17 HXd17.out (by decide) hxc rfl (HIN.out.i25.below (HWd17.out.below.mono hbb)) hbb (fun z hz wx a2 xb2 i2 c2 b2 k2 n2 l2 => cloConv_w xb2 z i2.1.1 c2 b2 k2 n2 (HOK.out.i25 z hz) ((HIN.out.n25 z hz).below (i2.2.mono hbb)) hbb l2) (by (try simp only [List.length_append]); omega))
  unfold PutPost at HQ17
  have hc17 := HI17.out.1.cell
  have ht17 := HI17.out.1.tcell
  go_wp2_with fail
  go_region_held3 (fun w' => w'.cell? ⟨w.heap.size, 0, none⟩ = some (.pointer (some ⟨cb, 0, none⟩)) ∧ w'.cell? ⟨w.heap.size + 1, 0, none⟩ = some (.func (.func 52) #[] #[.pointer (some ⟨w.heap.size, 0, none⟩)]))
    (first | exact ⟨HJ18.out.1.cell, HJ18.out.1.tcell⟩ | exact ⟨HId17.out.1.cell, HId17.out.1.tcell⟩)
    (first
      | (go_at_call 68; refine Calls.mono HQ17.out ?_; rintro r w18 ⟨rfl, hc, hw⟩; have HJ18 := Lib.hid ((Inv2.keeps w B w.heap.size (w.heap.size + 1) cb).wr _ _ HId17.out hbw17 hw)))
  have HC18 : Hid (CW B cb (ac ++ wText y0 ++ wInt (boolI y1) ++ wInt y2 ++ wInt y3 ++ wInt y4 ++ wText y5 ++ wText y6 ++ wInt y7 ++ wList wPlaced y8.xs ++ wList wExport y9.xs ++ wList wImport y10.xs ++ wList wInt_ y11.xs ++ wList wInt_ y12.xs ++ wList wDyn y13.xs ++ wList wInt_ y14.xs ++ wList wInt_ y15.xs ++ wInt y16 ++ wList wStr y17.xs ++ wList wVerDef y18.xs ++ INF ++ wList wConv y25.xs) w18) := hc
  have HW18 : Hid (Wr B cb w w18) := HWd17.out.trans hw
  have HI18 : Hid (Inv2 w B w.heap.size (w.heap.size + 1) cb w18) := HJ18
  clear hc hw HQ17 HCd17 HWd17 HId17 HXd17 HJ18 hc17 HC17 HW17 HI17 ht17
  go_wp2
  go_end0
  exact ⟨rfl, HC18.out, HW18.out⟩

end Go.Proofs.YtefgajipakjpeaaDoor
