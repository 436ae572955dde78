/-
  What a coder reads of an image; contracts of (*coder).info and (*coder).image where the coder reads. Conditions: what is left is at most 2^20 bytes.
-/
import Derived.Test.YtefgajipakjpeaaDoorCloR
import Derived.Laws.EntriesVeiled
namespace Go.Proofs.YtefgajipakjpeaaDoor
open Go.RowKit

structure InfoP where
  i19 : List MarkD
  i20 : List LineD
  i21 : List SpanD
  i22 : List InlineD
  i23 : List VarID
  i24 : List DepthD
structure ImageP where
  i0 : List UInt8
  i1 : Bool
  i2 : Int
  i3 : Int
  i4 : Int
  i5 : List UInt8
  i6 : List UInt8
  i7 : Int
  i8 : List PlacedD
  i9 : List ExportD
  i10 : List ImportD
  i11 : List Int_D
  i12 : List Int_D
  i13 : List DynD
  i14 : List Int_D
  i15 : List Int_D
  i16 : Int
  i17 : List StrD
  i18 : List VerDefP
  i19 : List MarkD
  i20 : List LineD
  i21 : List SpanD
  i22 : List InlineD
  i23 : List VarID
  i24 : List DepthD
  i25 : List ConvP
def ImageD.pl (x : ImageD) : ImageP := ⟨x.i0, x.i1, x.i2, x.i3, x.i4, x.i5, x.i6, x.i7, x.i8.xs.map PlacedD.pl, x.i9.xs.map ExportD.pl, x.i10.xs.map ImportD.pl, x.i11.xs.map Int_D.pl, x.i12.xs.map Int_D.pl, x.i13.xs.map DynD.pl, x.i14.xs.map Int_D.pl, x.i15.xs.map Int_D.pl, x.i16, x.i17.xs.map StrD.pl, x.i18.xs.map VerDefD.pl, x.i19.xs.map MarkD.pl, x.i20.xs.map LineD.pl, x.i21.xs.map SpanD.pl, x.i22.xs.map InlineD.pl, x.i23.xs.map VarID.pl, x.i24.xs.map DepthD.pl, x.i25.xs.map ConvD.pl⟩
def rInfo : St → InfoP × St := bR (rLst rMark) fun z19 => bR (rLst rLine) fun z20 => bR (rLst rSpan) fun z21 => bR (rLst rInline) fun z22 => bR (rLst rVarI) fun z23 => bR (rLst rDepth) fun z24 => fun s => (⟨z19, z20, z21, z22, z23, z24⟩, s)
theorem rInfo_rok : RdrOk rInfo := (rMark_rok.lst).bind fun _ => (rLine_rok.lst).bind fun _ => (rSpan_rok.lst).bind fun _ => (rInline_rok.lst).bind fun _ => (rVarI_rok.lst).bind fun _ => (rDepth_rok.lst).bind fun _ => RdrOk.pure _
def rImage : St → ImageP × St := bR rText fun z0 => bR rInt fun z1 => bR rInt fun z2 => bR rInt fun z3 => bR rInt fun z4 => bR rText fun z5 => bR rText fun z6 => bR rInt fun z7 => bR (rLst rPlaced) fun z8 => bR (rLst rExport) fun z9 => bR (rLst rImport) fun z10 => bR (rLst rInt_) fun z11 => bR (rLst rInt_) fun z12 => bR (rLst rDyn) fun z13 => bR (rLst rInt_) fun z14 => bR (rLst rInt_) fun z15 => bR rInt fun z16 => bR (rLst rStr) fun z17 => bR (rLst rVerDef) fun z18 => bR rInfo fun zi => bR (rLst rConv) fun z25 => fun s => (⟨z0, z1 != 0, z2, z3, z4, z5, z6, z7, z8, z9, z10, z11, z12, z13, z14, z15, z16, z17, z18, zi.i19, zi.i20, zi.i21, zi.i22, zi.i23, zi.i24, z25⟩, s)
theorem rImage_rok : RdrOk rImage := (RdrOk.text).bind fun _ => (RdrOk.int).bind fun _ => (RdrOk.int).bind fun _ => (RdrOk.int).bind fun _ => (RdrOk.int).bind fun _ => (RdrOk.text).bind fun _ => (RdrOk.text).bind fun _ => (RdrOk.int).bind fun _ => (rPlaced_rok.lst).bind fun _ => (rExport_rok.lst).bind fun _ => (rImport_rok.lst).bind fun _ => (rInt__rok.lst).bind fun _ => (rInt__rok.lst).bind fun _ => (rDyn_rok.lst).bind fun _ => (rInt__rok.lst).bind fun _ => (rInt__rok.lst).bind fun _ => (RdrOk.int).bind fun _ => (rStr_rok.lst).bind fun _ => (rVerDef_rok.lst).bind fun _ => rInfo_rok.bind fun _ => (rConv_rok.lst).bind fun _ => RdrOk.pure _
/-- The rows of an image that was read. -/
structure ImageD.Rows (x : ImageD) (w : World) : Prop where
  i8 : w.ownsRow 0 115 7 (.slice x.i8.A x.i8.xs.length x.i8.c) x.i8.xs.length (x.i8.xs.flatMap PlacedD.parts)
  i9 : w.ownsRow 0 121 6 (.slice x.i9.A x.i9.xs.length x.i9.c) x.i9.xs.length (x.i9.xs.flatMap ExportD.parts)
  i10 : w.ownsRow 0 127 5 (.slice x.i10.A x.i10.xs.length x.i10.c) x.i10.xs.length (x.i10.xs.flatMap ImportD.parts)
  i11 : w.ownsRow 0 3 1 (.slice x.i11.A x.i11.xs.length x.i11.c) x.i11.xs.length (x.i11.xs.flatMap Int_D.parts)
  i12 : w.ownsRow 0 3 1 (.slice x.i12.A x.i12.xs.length x.i12.c) x.i12.xs.length (x.i12.xs.flatMap Int_D.parts)
  i13 : w.ownsRow 0 135 4 (.slice x.i13.A x.i13.xs.length x.i13.c) x.i13.xs.length (x.i13.xs.flatMap DynD.parts)
  i14 : w.ownsRow 0 3 1 (.slice x.i14.A x.i14.xs.length x.i14.c) x.i14.xs.length (x.i14.xs.flatMap Int_D.parts)
  i15 : w.ownsRow 0 3 1 (.slice x.i15.A x.i15.xs.length x.i15.c) x.i15.xs.length (x.i15.xs.flatMap Int_D.parts)
  i17 : w.ownsRow 0 9 1 (.slice x.i17.A x.i17.xs.length x.i17.c) x.i17.xs.length (x.i17.xs.flatMap StrD.parts)
  i18 : w.ownsRow 0 143 2 (.slice x.i18.A x.i18.xs.length x.i18.c) x.i18.xs.length (x.i18.xs.flatMap VerDefD.parts)
  i19 : w.ownsRow 0 173 4 (.slice x.i19.A x.i19.xs.length x.i19.c) x.i19.xs.length (x.i19.xs.flatMap MarkD.parts)
  i20 : w.ownsRow 0 179 4 (.slice x.i20.A x.i20.xs.length x.i20.c) x.i20.xs.length (x.i20.xs.flatMap LineD.parts)
  i21 : w.ownsRow 0 185 2 (.slice x.i21.A x.i21.xs.length x.i21.c) x.i21.xs.length (x.i21.xs.flatMap SpanD.parts)
  i22 : w.ownsRow 0 191 6 (.slice x.i22.A x.i22.xs.length x.i22.c) x.i22.xs.length (x.i22.xs.flatMap InlineD.parts)
  i23 : w.ownsRow 0 197 6 (.slice x.i23.A x.i23.xs.length x.i23.c) x.i23.xs.length (x.i23.xs.flatMap VarID.parts)
  i24 : w.ownsRow 0 203 4 (.slice x.i24.A x.i24.xs.length x.i24.c) x.i24.xs.length (x.i24.xs.flatMap DepthD.parts)
  i25 : w.ownsRow 0 152 5 (.slice x.i25.A x.i25.xs.length x.i25.c) x.i25.xs.length (x.i25.xs.flatMap ConvD.parts)
  n18 : ∀ y ∈ x.i18.xs, w.ownsRow 0 9 1 (.slice y.f1.A y.f1.xs.length y.f1.c) y.f1.xs.length (y.f1.xs.flatMap StrD.parts)
  n25 : ∀ y ∈ x.i25.xs, w.ownsRow 0 157 3 (.slice y.f3.A y.f3.xs.length y.f3.c) y.f3.xs.length (y.f3.xs.flatMap PieceD.parts)

def InfoGot (cb g ib : Nat) (a0 a1 a2 a3 a4 a5 a6 a7 a8 a9 a10 a11 a12 a13 a14 a15 a16 a17 a18 a25 : Value) (w : World) (st : St) (e : Ending) (w2 : World) : Prop := e = .returned (.tuple #[]) ∧ ∃ (s19 : SlD MarkD) (s20 : SlD LineD) (s21 : SlD SpanD) (s22 : SlD InlineD) (s23 : SlD VarID) (s24 : SlD DepthD), (⟨s19.xs.map MarkD.pl, s20.xs.map LineD.pl, s21.xs.map SpanD.pl, s22.xs.map InlineD.pl, s23.xs.map VarID.pl, s24.xs.map DepthD.pl⟩ : InfoP) = (rInfo st).1 ∧ CR cb g (rInfo st).2 w2 ∧ Blk w2 ib 50 #[a0, a1, a2, a3, a4, a5, a6, a7, a8, a9, a10, a11, a12, a13, a14, a15, a16, a17, a18, .slice s19.A s19.xs.length s19.c, .slice s20.A s20.xs.length s20.c, .slice s21.A s21.xs.length s21.c, .slice s22.A s22.xs.length s22.c, .slice s23.A s23.xs.length s23.c, .slice s24.A s24.xs.length s24.c, a25] ∧ Tw g ib w w2 ∧ (w2.ownsRow 0 173 4 (.slice s19.A s19.xs.length s19.c) s19.xs.length (s19.xs.flatMap MarkD.parts) ∧ w2.ownsRow 0 179 4 (.slice s20.A s20.xs.length s20.c) s20.xs.length (s20.xs.flatMap LineD.parts) ∧ w2.ownsRow 0 185 2 (.slice s21.A s21.xs.length s21.c) s21.xs.length (s21.xs.flatMap SpanD.parts) ∧ w2.ownsRow 0 191 6 (.slice s22.A s22.xs.length s22.c) s22.xs.length (s22.xs.flatMap InlineD.parts) ∧ w2.ownsRow 0 197 6 (.slice s23.A s23.xs.length s23.c) s23.xs.length (s23.xs.flatMap VarID.parts) ∧ w2.ownsRow 0 203 4 (.slice s24.A s24.xs.length s24.c) s24.xs.length (s24.xs.flatMap DepthD.parts))

set_option maxHeartbeats 40000000 in
set_option maxRecDepth 100000 in
theorem info_r {cb g ib : Nat} {w : World} {st : St} (a0 a1 a2 a3 a4 a5 a6 a7 a8 a9 a10 a11 a12 a13 a14 a15 a16 a17 a18 a25 : Value) (h : CR cb g st w) (hg : st.Good) (hl : st.rest.length ≤ 1048576) (hx : Blk w ib 50 #[a0, a1, a2, a3, a4, a5, a6, a7, a8, a9, a10, a11, a12, a13, a14, a15, a16, a17, a18, .slice none 0 0, .slice none 0 0, .slice none 0 0, .slice none 0 0, .slice none 0 0, .slice none 0 0, a25]) (hxc : ib ≠ cb) (hxg : ib ≠ g) :
    Calls Tryd.prog 67 #[.pointer (some ⟨cb, 0, none⟩), .pointer (some ⟨ib, 19, none⟩)] w (InfoGot cb g ib a0 a1 a2 a3 a4 a5 a6 a7 a8 a9 a10 a11 a12 a13 a14 a15 a16 a17 a18 a25 w st) := by
  have hclt := h.blk.lt
  have HC0 : Hid (CR cb g st (w.alloc (.cells #[.pointer (some ⟨cb, 0, none⟩)] 104))) := Lib.hid (h.alloc _)
  have HX0 : Hid (Blk (w.alloc (.cells #[.pointer (some ⟨cb, 0, none⟩)] 104)) ib 50 #[a0, a1, a2, a3, a4, a5, a6, a7, a8, a9, a10, a11, a12, a13, a14, a15, a16, a17, a18, .slice none 0 0, .slice none 0 0, .slice none 0 0, .slice none 0 0, .slice none 0 0, .slice none 0 0, a25]) := Lib.hid (hx.alloc _)
  have HI00 : Hid (Inv0 w.heap.size cb (w.alloc (.cells #[.pointer (some ⟨cb, 0, none⟩)] 104))) := Lib.hid ⟨Blk.new w _ _, by omega⟩
  have HI0 : Hid (Inv0 w.heap.size cb (w.alloc (.cells #[.pointer (some ⟨cb, 0, none⟩)] 104))) := Lib.hid HI00.out
  have HT0 : Hid (Tw g ib w (w.alloc (.cells #[.pointer (some ⟨cb, 0, none⟩)] 104))) := Lib.hid ((Tw.refl g ib w).alloc _)
  have HF0 : Hid (∀ w' : World, Tw g ib (w.alloc (.cells #[.pointer (some ⟨cb, 0, none⟩)] 104)) w' → True) := fun _ _ => trivial
  have hc0 := HI0.out.cell
  obtain ⟨z19, hz19⟩ : ∃ z, z = rLst rMark st := ⟨_, rfl⟩
  have hl19 := rLst_rest_le rMark rMark_rok.le st
  rw [← hz19] at hl19
  have hg19 := rLst_good rMark rMark_rok.good st hg
  rw [← hz19] at hg19
  obtain ⟨z20, hz20⟩ : ∃ z, z = rLst rLine z19.2 := ⟨_, rfl⟩
  have hl20 := rLst_rest_le rLine rLine_rok.le z19.2
  rw [← hz20] at hl20
  have hg20 := rLst_good rLine rLine_rok.good z19.2 hg19
  rw [← hz20] at hg20
  obtain ⟨z21, hz21⟩ : ∃ z, z = rLst rSpan z20.2 := ⟨_, rfl⟩
  have hl21 := rLst_rest_le rSpan rSpan_rok.le z20.2
  rw [← hz21] at hl21
  have hg21 := rLst_good rSpan rSpan_rok.good z20.2 hg20
  rw [← hz21] at hg21
  obtain ⟨z22, hz22⟩ : ∃ z, z = rLst rInline z21.2 := ⟨_, rfl⟩
  have hl22 := rLst_rest_le rInline rInline_rok.le z21.2
  rw [← hz22] at hl22
  have hg22 := rLst_good rInline rInline_rok.good z21.2 hg21
  rw [← hz22] at hg22
  obtain ⟨z23, hz23⟩ : ∃ z, z = rLst rVarI z22.2 := ⟨_, rfl⟩
  have hl23 := rLst_rest_le rVarI rVarI_rok.le z22.2
  rw [← hz23] at hl23
  have hg23 := rLst_good rVarI rVarI_rok.good z22.2 hg22
  rw [← hz23] at hg23
  obtain ⟨z24, hz24⟩ : ∃ z, z = rLst rDepth z23.2 := ⟨_, rfl⟩
  have hl24 := rLst_rest_le rDepth rDepth_rok.le z23.2
  rw [← hz24] at hl24
  have hg24 := rLst_good rDepth rDepth_rok.good z23.2 hg23
  rw [← hz24] at hg24
  have HRX : Hid (rInfo st = (⟨z19.1, z20.1, z21.1, z22.1, z23.1, z24.1⟩, z24.2)) := Lib.hid (by simp only [rInfo, bR, ← hz19, ← hz20, ← hz21, ← hz22, ← hz23, ← hz24])
  have HZ19 := Lib.hid hz19
  clear hz19
  have HG19 := Lib.hid hg19
  clear hg19
  have HZ20 := Lib.hid hz20
  clear hz20
  have HG20 := Lib.hid hg20
  clear hg20
  have HZ21 := Lib.hid hz21
  clear hz21
  have HG21 := Lib.hid hg21
  clear hg21
  have HZ22 := Lib.hid hz22
  clear hz22
  have HG22 := Lib.hid hg22
  clear hg22
  have HZ23 := Lib.hid hz23
  clear hz23
  have HG23 := Lib.hid hg23
  clear hg23
  have HZ24 := Lib.hid hz24
  clear hz24
  have HG24 := Lib.hid hg24
  clear hg24
  have HG := Lib.hid hg
  clear h hx hg HI00
  unfold InfoGot
  rw [HRX.out]
  go_enter Tryd.func67, Tryd.ntmps67
  go_wp2_with fail
  generalize (w.alloc (.cells #[.pointer (some ⟨cb, 0, none⟩)] 104)) = w0 at HC0 HX0 HI0 HT0 HF0 hc0 ⊢
  have HCd0 : Hid (CR cb g st w0.drew) := HC0.out.drew
  have HXd0 : Hid (Blk w0.drew ib 50 #[a0, a1, a2, a3, a4, a5, a6, a7, a8, a9, a10, a11, a12, a13, a14, a15, a16, a17, a18, .slice none 0 0, .slice none 0 0, .slice none 0 0, .slice none 0 0, .slice none 0 0, .slice none 0 0, a25]) := HX0.out
  have HId0 : Hid (Inv0 w.heap.size cb w0.drew) := Lib.hid ((Inv0.keepsR g w.heap.size cb).below _ _ HI0.out (Below.drew (Below.refl _ _)))
  have HTd0 : Hid (Tw g ib w w0.drew) := HT0.out.drew
  have HSt0 : Hid (Tw g ib w0 w0.drew) := (Tw.refl g ib w0).drew
  have HQ0 := Lib.hid (listMark_r (cb := cb) (g := g) (ib := ib) (off := 19) (w := w0.drew) (ti := 50) (st := st) (Inv0 w.heap.size cb) ⟨w.heap.size, 0, none⟩ (Inv0.keepsR g w.heap.size cb) HId0.out HCd0.out HG.out (by omega) HXd0.out (by decide) (by decide) (by decide) hxc hxg rfl (fun wx sx xb2 i2 c2 g2 l2 b2 k2 n2 => cloMark_r xb2 i2 c2 g2 l2 b2 k2 n2))
  unfold GotListMark at HQ0
  rw [← HZ19.out] at HQ0
  go_wp2_with fail
  go_region_held3 (fun w' => w'.cell? ⟨w.heap.size, 0, none⟩ = some (.pointer (some ⟨cb, 0, none⟩)))
    (first | exact HJ1.out.cell | exact HId0.out.cell)
    (first
      | (go_at_call 77; refine Calls.mono HQ0.out ?_; rintro r w1 ⟨rfl, s19, hs19, ho, hx, hc, ht⟩; have HJ1 := Lib.hid ((Inv0.keepsR g w.heap.size cb).tw _ _ ib 50 _ _ HId0.out HCd0.out.rd HXd0.out (by decide) (by decide) ht)))
  have HC1 : Hid (CR cb g z19.2 w1) := hc
  have HX1 : Hid (Blk w1 ib 50 #[a0, a1, a2, a3, a4, a5, a6, a7, a8, a9, a10, a11, a12, a13, a14, a15, a16, a17, a18, .slice s19.A s19.xs.length s19.c, .slice none 0 0, .slice none 0 0, .slice none 0 0, .slice none 0 0, .slice none 0 0, a25]) := hx
  have HT1 : Hid (Tw g ib w w1) := HTd0.out.trans ht
  have HI1 : Hid (Inv0 w.heap.size cb w1) := HJ1
  have HF1 := Lib.hid (fun (w' : World) (h : Tw g ib w1 w') => And.intro (HF0.out w' ((HSt0.out.trans ht).trans h)) (own_tw (own_zero ho) hc.rd (by decide) hx (by decide) h))
  have HS19 := Lib.hid hs19
  clear ho hs19
  clear hc hx ht HQ0 HCd0 HXd0 HTd0 HId0 HSt0 HJ1 hc0 HC0 HX0 HT0 HI0 HF0
  have HCd1 : Hid (CR cb g z19.2 w1.drew) := HC1.out.drew
  have HXd1 : Hid (Blk w1.drew ib 50 #[a0, a1, a2, a3, a4, a5, a6, a7, a8, a9, a10, a11, a12, a13, a14, a15, a16, a17, a18, .slice s19.A s19.xs.length s19.c, .slice none 0 0, .slice none 0 0, .slice none 0 0, .slice none 0 0, .slice none 0 0, a25]) := HX1.out
  have HId1 : Hid (Inv0 w.heap.size cb w1.drew) := Lib.hid ((Inv0.keepsR g w.heap.size cb).below _ _ HI1.out (Below.drew (Below.refl _ _)))
  have HTd1 : Hid (Tw g ib w w1.drew) := HT1.out.drew
  have HSt1 : Hid (Tw g ib w1 w1.drew) := (Tw.refl g ib w1).drew
  have HQ1 := Lib.hid (listLine_r (cb := cb) (g := g) (ib := ib) (off := 20) (w := w1.drew) (ti := 50) (st := z19.2) (Inv0 w.heap.size cb) ⟨w.heap.size, 0, none⟩ (Inv0.keepsR g w.heap.size cb) HId1.out HCd1.out HG19.out (by omega) HXd1.out (by decide) (by decide) (by decide) hxc hxg rfl (fun wx sx xb2 i2 c2 g2 l2 b2 k2 n2 => cloLine_r xb2 i2 c2 g2 l2 b2 k2 n2))
  unfold GotListLine at HQ1
  rw [← HZ20.out] at HQ1
  have hc1 := HI1.out.cell
  go_wp2_with fail
  go_region_held3 (fun w' => w'.cell? ⟨w.heap.size, 0, none⟩ = some (.pointer (some ⟨cb, 0, none⟩)))
    (first | exact HJ2.out.cell | exact HId1.out.cell)
    (first
      | (go_at_call 79; refine Calls.mono HQ1.out ?_; rintro r w2 ⟨rfl, s20, hs20, ho, hx, hc, ht⟩; have HJ2 := Lib.hid ((Inv0.keepsR g w.heap.size cb).tw _ _ ib 50 _ _ HId1.out HCd1.out.rd HXd1.out (by decide) (by decide) ht)))
  have HC2 : Hid (CR cb g z20.2 w2) := hc
  have HX2 : Hid (Blk w2 ib 50 #[a0, a1, a2, a3, a4, a5, a6, a7, a8, a9, a10, a11, a12, a13, a14, a15, a16, a17, a18, .slice s19.A s19.xs.length s19.c, .slice s20.A s20.xs.length s20.c, .slice none 0 0, .slice none 0 0, .slice none 0 0, .slice none 0 0, a25]) := hx
  have HT2 : Hid (Tw g ib w w2) := HTd1.out.trans ht
  have HI2 : Hid (Inv0 w.heap.size cb w2) := HJ2
  have HF2 := Lib.hid (fun (w' : World) (h : Tw g ib w2 w') => And.intro (HF1.out w' ((HSt1.out.trans ht).trans h)) (own_tw (own_zero ho) hc.rd (by decide) hx (by decide) h))
  have HS20 := Lib.hid hs20
  clear ho hs20
  clear hc hx ht HQ1 HCd1 HXd1 HTd1 HId1 HSt1 HJ2 hc1 HC1 HX1 HT1 HI1 HF1
  have HCd2 : Hid (CR cb g z20.2 w2.drew) := HC2.out.drew
  have HXd2 : Hid (Blk w2.drew ib 50 #[a0, a1, a2, a3, a4, a5, a6, a7, a8, a9, a10, a11, a12, a13, a14, a15, a16, a17, a18, .slice s19.A s19.xs.length s19.c, .slice s20.A s20.xs.length s20.c, .slice none 0 0, .slice none 0 0, .slice none 0 0, .slice none 0 0, a25]) := HX2.out
  have HId2 : Hid (Inv0 w.heap.size cb w2.drew) := Lib.hid ((Inv0.keepsR g w.heap.size cb).below _ _ HI2.out (Below.drew (Below.refl _ _)))
  have HTd2 : Hid (Tw g ib w w2.drew) := HT2.out.drew
  have HSt2 : Hid (Tw g ib w2 w2.drew) := (Tw.refl g ib w2).drew
  have HQ2 := Lib.hid (listSpan_r (cb := cb) (g := g) (ib := ib) (off := 21) (w := w2.drew) (ti := 50) (st := z20.2) (Inv0 w.heap.size cb) ⟨w.heap.size, 0, none⟩ (Inv0.keepsR g w.heap.size cb) HId2.out HCd2.out HG20.out (by omega) HXd2.out (by decide) (by decide) (by decide) hxc hxg rfl (fun wx sx xb2 i2 c2 g2 l2 b2 k2 n2 => cloSpan_r xb2 i2 c2 g2 l2 b2 k2 n2))
  unfold GotListSpan at HQ2
  rw [← HZ21.out] at HQ2
  have hc2 := HI2.out.cell
  go_wp2_with fail
  go_region_held3 (fun w' => w'.cell? ⟨w.heap.size, 0, none⟩ = some (.pointer (some ⟨cb, 0, none⟩)))
    (first | exact HJ3.out.cell | exact HId2.out.cell)
    (first
      | (go_at_call 81; refine Calls.mono HQ2.out ?_; rintro r w3 ⟨rfl, s21, hs21, ho, hx, hc, ht⟩; have HJ3 := Lib.hid ((Inv0.keepsR g w.heap.size cb).tw _ _ ib 50 _ _ HId2.out HCd2.out.rd HXd2.out (by decide) (by decide) ht)))
  have HC3 : Hid (CR cb g z21.2 w3) := hc
  have HX3 : Hid (Blk w3 ib 50 #[a0, a1, a2, a3, a4, a5, a6, a7, a8, a9, a10, a11, a12, a13, a14, a15, a16, a17, a18, .slice s19.A s19.xs.length s19.c, .slice s20.A s20.xs.length s20.c, .slice s21.A s21.xs.length s21.c, .slice none 0 0, .slice none 0 0, .slice none 0 0, a25]) := hx
  have HT3 : Hid (Tw g ib w w3) := HTd2.out.trans ht
  have HI3 : Hid (Inv0 w.heap.size cb w3) := HJ3
  have HF3 := Lib.hid (fun (w' : World) (h : Tw g ib w3 w') => And.intro (HF2.out w' ((HSt2.out.trans ht).trans h)) (own_tw (own_zero ho) hc.rd (by decide) hx (by decide) h))
  have HS21 := Lib.hid hs21
  clear ho hs21
  clear hc hx ht HQ2 HCd2 HXd2 HTd2 HId2 HSt2 HJ3 hc2 HC2 HX2 HT2 HI2 HF2
  have HCd3 : Hid (CR cb g z21.2 w3.drew) := HC3.out.drew
  have HXd3 : Hid (Blk w3.drew ib 50 #[a0, a1, a2, a3, a4, a5, a6, a7, a8, a9, a10, a11, a12, a13, a14, a15, a16, a17, a18, .slice s19.A s19.xs.length s19.c, .slice s20.A s20.xs.length s20.c, .slice s21.A s21.xs.length s21.c, .slice none 0 0, .slice none 0 0, .slice none 0 0, a25]) := HX3.out
  have HId3 : Hid (Inv0 w.heap.size cb w3.drew) := Lib.hid ((Inv0.keepsR g w.heap.size cb).below _ _ HI3.out (Below.drew (Below.refl _ _)))
  have HTd3 : Hid (Tw g ib w w3.drew) := HT3.out.drew
  have HSt3 : Hid (Tw g ib w3 w3.drew) := (Tw.refl g ib w3).drew
  have HQ3 := Lib.hid (listInline_r (cb := cb) (g := g) (ib := ib) (off := 22) (w := w3.drew) (ti := 50) (st := z21.2) (Inv0 w.heap.size cb) ⟨w.heap.size, 0, none⟩ (Inv0.keepsR g w.heap.size cb) HId3.out HCd3.out HG21.out (by omega) HXd3.out (by decide) (by decide) (by decide) hxc hxg rfl (fun wx sx xb2 i2 c2 g2 l2 b2 k2 n2 => cloInline_r xb2 i2 c2 g2 l2 b2 k2 n2))
  unfold GotListInline at HQ3
  rw [← HZ22.out] at HQ3
  have hc3 := HI3.out.cell
  go_wp2_with fail
  go_region_held3 (fun w' => w'.cell? ⟨w.heap.size, 0, none⟩ = some (.pointer (some ⟨cb, 0, none⟩)))
    (first | exact HJ4.out.cell | exact HId3.out.cell)
    (first
      | (go_at_call 83; refine Calls.mono HQ3.out ?_; rintro r w4 ⟨rfl, s22, hs22, ho, hx, hc, ht⟩; have HJ4 := Lib.hid ((Inv0.keepsR g w.heap.size cb).tw _ _ ib 50 _ _ HId3.out HCd3.out.rd HXd3.out (by decide) (by decide) ht)))
  have HC4 : Hid (CR cb g z22.2 w4) := hc
  have HX4 : Hid (Blk w4 ib 50 #[a0, a1, a2, a3, a4, a5, a6, a7, a8, a9, a10, a11, a12, a13, a14, a15, a16, a17, a18, .slice s19.A s19.xs.length s19.c, .slice s20.A s20.xs.length s20.c, .slice s21.A s21.xs.length s21.c, .slice s22.A s22.xs.length s22.c, .slice none 0 0, .slice none 0 0, a25]) := hx
  have HT4 : Hid (Tw g ib w w4) := HTd3.out.trans ht
  have HI4 : Hid (Inv0 w.heap.size cb w4) := HJ4
  have HF4 := Lib.hid (fun (w' : World) (h : Tw g ib w4 w') => And.intro (HF3.out w' ((HSt3.out.trans ht).trans h)) (own_tw (own_zero ho) hc.rd (by decide) hx (by decide) h))
  have HS22 := Lib.hid hs22
  clear ho hs22
  clear hc hx ht HQ3 HCd3 HXd3 HTd3 HId3 HSt3 HJ4 hc3 HC3 HX3 HT3 HI3 HF3
  have HCd4 : Hid (CR cb g z22.2 w4.drew) := HC4.out.drew
  have HXd4 : Hid (Blk w4.drew ib 50 #[a0, a1, a2, a3, a4, a5, a6, a7, a8, a9, a10, a11, a12, a13, a14, a15, a16, a17, a18, .slice s19.A s19.xs.length s19.c, .slice s20.A s20.xs.length s20.c, .slice s21.A s21.xs.length s21.c, .slice s22.A s22.xs.length s22.c, .slice none 0 0, .slice none 0 0, a25]) := HX4.out
  have HId4 : Hid (Inv0 w.heap.size cb w4.drew) := Lib.hid ((Inv0.keepsR g w.heap.size cb).below _ _ HI4.out (Below.drew (Below.refl _ _)))
  have HTd4 : Hid (Tw g ib w w4.drew) := HT4.out.drew
  have HSt4 : Hid (Tw g ib w4 w4.drew) := (Tw.refl g ib w4).drew
  have HQ4 := Lib.hid (listVarI_r (cb := cb) (g := g) (ib := ib) (off := 23) (w := w4.drew) (ti := 50) (st := z22.2) (Inv0 w.heap.size cb) ⟨w.heap.size, 0, none⟩ (Inv0.keepsR g w.heap.size cb) HId4.out HCd4.out HG22.out (by omega) HXd4.out (by decide) (by decide) (by decide) hxc hxg rfl (fun wx sx xb2 i2 c2 g2 l2 b2 k2 n2 => cloVarI_r xb2 i2 c2 g2 l2 b2 k2 n2))
  unfold GotListVarI at HQ4
  rw [← HZ23.out] at HQ4
  have hc4 := HI4.out.cell
  go_wp2_with fail
  go_region_held3 (fun w' => w'.cell? ⟨w.heap.size, 0, none⟩ = some (.pointer (some ⟨cb, 0, none⟩)))
    (first | exact HJ5.out.cell | exact HId4.out.cell)
    (first
      | (go_at_call 85; refine Calls.mono HQ4.out ?_; rintro r w5 ⟨rfl, s23, hs23, ho, hx, hc, ht⟩; have HJ5 := Lib.hid ((Inv0.keepsR g w.heap.size cb).tw _ _ ib 50 _ _ HId4.out HCd4.out.rd HXd4.out (by decide) (by decide) ht)))
  have HC5 : Hid (CR cb g z23.2 w5) := hc
  have HX5 : Hid (Blk w5 ib 50 #[a0, a1, a2, a3, a4, a5, a6, a7, a8, a9, a10, a11, a12, a13, a14, a15, a16, a17, a18, .slice s19.A s19.xs.length s19.c, .slice s20.A s20.xs.length s20.c, .slice s21.A s21.xs.length s21.c, .slice s22.A s22.xs.length s22.c, .slice s23.A s23.xs.length s23.c, .slice none 0 0, a25]) := hx
  have HT5 : Hid (Tw g ib w w5) := HTd4.out.trans ht
  have HI5 : Hid (Inv0 w.heap.size cb w5) := HJ5
  have HF5 := Lib.hid (fun (w' : World) (h : Tw g ib w5 w') => And.intro (HF4.out w' ((HSt4.out.trans ht).trans h)) (own_tw (own_zero ho) hc.rd (by decide) hx (by decide) h))
  have HS23 := Lib.hid hs23
  clear ho hs23
  clear hc hx ht HQ4 HCd4 HXd4 HTd4 HId4 HSt4 HJ5 hc4 HC4 HX4 HT4 HI4 HF4
  have HCd5 : Hid (CR cb g z23.2 w5.drew) := HC5.out.drew
  have HXd5 : Hid (Blk w5.drew ib 50 #[a0, a1, a2, a3, a4, a5, a6, a7, a8, a9, a10, a11, a12, a13, a14, a15, a16, a17, a18, .slice s19.A s19.xs.length s19.c, .slice s20.A s20.xs.length s20.c, .slice s21.A s21.xs.length s21.c, .slice s22.A s22.xs.length s22.c, .slice s23.A s23.xs.length s23.c, .slice none 0 0, a25]) := HX5.out
  have HId5 : Hid (Inv0 w.heap.size cb w5.drew) := Lib.hid ((Inv0.keepsR g w.heap.size cb).below _ _ HI5.out (Below.drew (Below.refl _ _)))
  have HTd5 : Hid (Tw g ib w w5.drew) := HT5.out.drew
  have HSt5 : Hid (Tw g ib w5 w5.drew) := (Tw.refl g ib w5).drew
  have HQ5 := Lib.hid (listDepth_r (cb := cb) (g := g) (ib := ib) (off := 24) (w := w5.drew) (ti := 50) (st := z23.2) (Inv0 w.heap.size cb) ⟨w.heap.size, 0, none⟩ (Inv0.keepsR g w.heap.size cb) HId5.out HCd5.out HG23.out (by omega) HXd5.out (by decide) (by decide) (by decide) hxc hxg rfl (fun wx sx xb2 i2 c2 g2 l2 b2 k2 n2 => cloDepth_r xb2 i2 c2 g2 l2 b2 k2 n2))
  unfold GotListDepth at HQ5
  rw [← HZ24.out] at HQ5
  have hc5 := HI5.out.cell
  go_wp2_with fail
  go_region_held3 (fun w' => w'.cell? ⟨w.heap.size, 0, none⟩ = some (.pointer (some ⟨cb, 0, none⟩)))
    (first | exact HJ6.out.cell | exact HId5.out.cell)
    (first
      | (go_at_call 87; refine Calls.mono HQ5.out ?_; rintro r w6 ⟨rfl, s24, hs24, ho, hx, hc, ht⟩; have HJ6 := Lib.hid ((Inv0.keepsR g w.heap.size cb).tw _ _ ib 50 _ _ HId5.out HCd5.out.rd HXd5.out (by decide) (by decide) ht)))
  have HC6 : Hid (CR cb g z24.2 w6) := hc
  have HX6 : Hid (Blk w6 ib 50 #[a0, a1, a2, a3, a4, a5, a6, a7, a8, a9, a10, a11, a12, a13, a14, a15, a16, a17, a18, .slice s19.A s19.xs.length s19.c, .slice s20.A s20.xs.length s20.c, .slice s21.A s21.xs.length s21.c, .slice s22.A s22.xs.length s22.c, .slice s23.A s23.xs.length s23.c, .slice s24.A s24.xs.length s24.c, a25]) := hx
  have HT6 : Hid (Tw g ib w w6) := HTd5.out.trans ht
  have HI6 : Hid (Inv0 w.heap.size cb w6) := HJ6
  have HF6 := Lib.hid (fun (w' : World) (h : Tw g ib w6 w') => And.intro (HF5.out w' ((HSt5.out.trans ht).trans h)) (own_tw (own_zero ho) hc.rd (by decide) hx (by decide) h))
  have HS24 := Lib.hid hs24
  clear ho hs24
  clear hc hx ht HQ5 HCd5 HXd5 HTd5 HId5 HSt5 HJ6 hc5 HC5 HX5 HT5 HI5 HF5
  obtain ⟨⟨⟨⟨⟨⟨_, r19⟩, r20⟩, r21⟩, r22⟩, r23⟩, r24⟩ := HF6.out _ (Tw.refl g ib _)
  go_wp2
  go_end0
  refine ⟨rfl, s19, s20, s21, s22, s23, s24, ?_, HC6.out, HX6.out, HT6.out, r19, r20, r21, r22, r23, r24⟩
  rw [HS19.out, HS20.out, HS21.out, HS22.out, HS23.out, HS24.out]

def ImageGot (cb g ib : Nat) (w : World) (st : St) (e : Ending) (w2 : World) : Prop := e = .returned (.tuple #[]) ∧ ∃ x : ImageD, x.pl = (rImage st).1 ∧ CR cb g (rImage st).2 w2 ∧ Blk w2 ib 50 x.parts.toArray ∧ Tw g ib w w2 ∧ x.Rows w2

set_option maxHeartbeats 40000000 in
set_option maxRecDepth 100000 in
theorem image_r {cb g ib : Nat} {w : World} {st : St} (h : CR cb g st w) (hg : st.Good) (hl : st.rest.length ≤ 1048576) (hx : Blk w ib 50 #[.string ⟨#[]⟩, .bool false, .int .i64 0, .int .i64 0, .int .i64 0, .string ⟨#[]⟩, .string ⟨#[]⟩, .int .i64 0, .slice none 0 0, .slice none 0 0, .slice none 0 0, .slice none 0 0, .slice none 0 0, .slice none 0 0, .slice none 0 0, .slice none 0 0, .int .i64 0, .slice none 0 0, .slice none 0 0, .slice none 0 0, .slice none 0 0, .slice none 0 0, .slice none 0 0, .slice none 0 0, .slice none 0 0, .slice none 0 0]) (hxc : ib ≠ cb) (hxg : ib ≠ g) :
    Calls Tryd.prog 35 #[.pointer (some ⟨cb, 0, none⟩), .pointer (some ⟨ib, 0, none⟩)] w (ImageGot cb g ib w st) := by
  have hclt := h.blk.lt
  have HC0 : Hid (CR cb g st ((w.alloc (.cells #[.pointer (some ⟨cb, 0, none⟩)] 104)).alloc (.cells #[.func (.func 52) #[] #[.pointer (some ⟨w.heap.size, 0, none⟩)]] 110))) := Lib.hid ((h.alloc _).alloc _)
  have HX0 : Hid (Blk ((w.alloc (.cells #[.pointer (some ⟨cb, 0, none⟩)] 104)).alloc (.cells #[.func (.func 52) #[] #[.pointer (some ⟨w.heap.size, 0, none⟩)]] 110)) ib 50 #[.string ⟨#[]⟩, .bool false, .int .i64 0, .int .i64 0, .int .i64 0, .string ⟨#[]⟩, .string ⟨#[]⟩, .int .i64 0, .slice none 0 0, .slice none 0 0, .slice none 0 0, .slice none 0 0, .slice none 0 0, .slice none 0 0, .slice none 0 0, .slice none 0 0, .int .i64 0, .slice none 0 0, .slice none 0 0, .slice none 0 0, .slice none 0 0, .slice none 0 0, .slice none 0 0, .slice none 0 0, .slice none 0 0, .slice none 0 0]) := Lib.hid ((hx.alloc _).alloc _)
  have HI00 : Hid (Inv0 w.heap.size cb ((w.alloc (.cells #[.pointer (some ⟨cb, 0, none⟩)] 104)).alloc (.cells #[.func (.func 52) #[] #[.pointer (some ⟨w.heap.size, 0, none⟩)]] 110))) := Lib.hid ⟨(Blk.new w _ _).alloc _, by omega⟩
  have HI0 : Hid (Inv1 w.heap.size (w.heap.size + 1) cb ((w.alloc (.cells #[.pointer (some ⟨cb, 0, none⟩)] 104)).alloc (.cells #[.func (.func 52) #[] #[.pointer (some ⟨w.heap.size, 0, none⟩)]] 110))) := Lib.hid ⟨HI00.out, Blk.newAt (by simp), by omega⟩
  have HT0 : Hid (Tw g ib w ((w.alloc (.cells #[.pointer (some ⟨cb, 0, none⟩)] 104)).alloc (.cells #[.func (.func 52) #[] #[.pointer (some ⟨w.heap.size, 0, none⟩)]] 110))) := Lib.hid (((Tw.refl g ib w).alloc _).alloc _)
  have HF0 : Hid (∀ w' : World, Tw g ib ((w.alloc (.cells #[.pointer (some ⟨cb, 0, none⟩)] 104)).alloc (.cells #[.func (.func 52) #[] #[.pointer (some ⟨w.heap.size, 0, none⟩)]] 110)) w' → True) := fun _ _ => trivial
  have hc0 := HI0.out.cell
  have ht0 := HI0.out.tcell
  obtain ⟨z0, hz0⟩ : ∃ z, z = rText st := ⟨_, rfl⟩
  have hl0 := rText_rest_le st
  rw [← hz0] at hl0
  have hg0 := rText_good st hg
  rw [← hz0] at hg0
  obtain ⟨z1, hz1⟩ : ∃ z, z = rInt z0.2 := ⟨_, rfl⟩
  have hl1 := rInt_rest_le z0.2
  rw [← hz1] at hl1
  have hg1 := rInt_good z0.2 hg0
  rw [← hz1] at hg1
  obtain ⟨z2, hz2⟩ : ∃ z, z = rInt z1.2 := ⟨_, rfl⟩
  have hl2 := rInt_rest_le z1.2
  rw [← hz2] at hl2
  have hg2 := rInt_good z1.2 hg1
  rw [← hz2] at hg2
  obtain ⟨z3, hz3⟩ : ∃ z, z = rInt z2.2 := ⟨_, rfl⟩
  have hl3 := rInt_rest_le z2.2
  rw [← hz3] at hl3
  have hg3 := rInt_good z2.2 hg2
  rw [← hz3] at hg3
  obtain ⟨z4, hz4⟩ : ∃ z, z = rInt z3.2 := ⟨_, rfl⟩
  have hl4 := rInt_rest_le z3.2
  rw [← hz4] at hl4
  have hg4 := rInt_good z3.2 hg3
  rw [← hz4] at hg4
  obtain ⟨z5, hz5⟩ : ∃ z, z = rText z4.2 := ⟨_, rfl⟩
  have hl5 := rText_rest_le z4.2
  rw [← hz5] at hl5
  have hg5 := rText_good z4.2 hg4
  rw [← hz5] at hg5
  obtain ⟨z6, hz6⟩ : ∃ z, z = rText z5.2 := ⟨_, rfl⟩
  have hl6 := rText_rest_le z5.2
  rw [← hz6] at hl6
  have hg6 := rText_good z5.2 hg5
  rw [← hz6] at hg6
  obtain ⟨z7, hz7⟩ : ∃ z, z = rInt z6.2 := ⟨_, rfl⟩
  have hl7 := rInt_rest_le z6.2
  rw [← hz7] at hl7
  have hg7 := rInt_good z6.2 hg6
  rw [← hz7] at hg7
  obtain ⟨z8, hz8⟩ : ∃ z, z = rLst rPlaced z7.2 := ⟨_, rfl⟩
  have hl8 := rLst_rest_le rPlaced rPlaced_rok.le z7.2
  rw [← hz8] at hl8
  have hg8 := rLst_good rPlaced rPlaced_rok.good z7.2 hg7
  rw [← hz8] at hg8
  obtain ⟨z9, hz9⟩ : ∃ z, z = rLst rExport z8.2 := ⟨_, rfl⟩
  have hl9 := rLst_rest_le rExport rExport_rok.le z8.2
  rw [← hz9] at hl9
  have hg9 := rLst_good rExport rExport_rok.good z8.2 hg8
  rw [← hz9] at hg9
  obtain ⟨z10, hz10⟩ : ∃ z, z = rLst rImport z9.2 := ⟨_, rfl⟩
  have hl10 := rLst_rest_le rImport rImport_rok.le z9.2
  rw [← hz10] at hl10
  have hg10 := rLst_good rImport rImport_rok.good z9.2 hg9
  rw [← hz10] at hg10
  obtain ⟨z11, hz11⟩ : ∃ z, z = rLst rInt_ z10.2 := ⟨_, rfl⟩
  have hl11 := rLst_rest_le rInt_ rInt__rok.le z10.2
  rw [← hz11] at hl11
  have hg11 := rLst_good rInt_ rInt__rok.good z10.2 hg10
  rw [← hz11] at hg11
  obtain ⟨z12, hz12⟩ : ∃ z, z = rLst rInt_ z11.2 := ⟨_, rfl⟩
  have hl12 := rLst_rest_le rInt_ rInt__rok.le z11.2
  rw [← hz12] at hl12
  have hg12 := rLst_good rInt_ rInt__rok.good z11.2 hg11
  rw [← hz12] at hg12
  obtain ⟨z13, hz13⟩ : ∃ z, z = rLst rDyn z12.2 := ⟨_, rfl⟩
  have hl13 := rLst_rest_le rDyn rDyn_rok.le z12.2
  rw [← hz13] at hl13
  have hg13 := rLst_good rDyn rDyn_rok.good z12.2 hg12
  rw [← hz13] at hg13
  obtain ⟨z14, hz14⟩ : ∃ z, z = rLst rInt_ z13.2 := ⟨_, rfl⟩
  have hl14 := rLst_rest_le rInt_ rInt__rok.le z13.2
  rw [← hz14] at hl14
  have hg14 := rLst_good rInt_ rInt__rok.good z13.2 hg13
  rw [← hz14] at hg14
  obtain ⟨z15, hz15⟩ : ∃ z, z = rLst rInt_ z14.2 := ⟨_, rfl⟩
  have hl15 := rLst_rest_le rInt_ rInt__rok.le z14.2
  rw [← hz15] at hl15
  have hg15 := rLst_good rInt_ rInt__rok.good z14.2 hg14
  rw [← hz15] at hg15
  obtain ⟨z16, hz16⟩ : ∃ z, z = rInt z15.2 := ⟨_, rfl⟩
  have hl16 := rInt_rest_le z15.2
  rw [← hz16] at hl16
  have hg16 := rInt_good z15.2 hg15
  rw [← hz16] at hg16
  obtain ⟨z17, hz17⟩ : ∃ z, z = rLst rStr z16.2 := ⟨_, rfl⟩
  have hl17 := rLst_rest_le rStr rStr_rok.le z16.2
  rw [← hz17] at hl17
  have hg17 := rLst_good rStr rStr_rok.good z16.2 hg16
  rw [← hz17] at hg17
  obtain ⟨z18, hz18⟩ : ∃ z, z = rLst rVerDef z17.2 := ⟨_, rfl⟩
  have hl18 := rLst_rest_le rVerDef rVerDef_rok.le z17.2
  rw [← hz18] at hl18
  have hg18 := rLst_good rVerDef rVerDef_rok.good z17.2 hg17
  rw [← hz18] at hg18
  obtain ⟨zi, hzi⟩ : ∃ z, z = rInfo z18.2 := ⟨_, rfl⟩
  have hli := rInfo_rok.le z18.2
  rw [← hzi] at hli
  have hgi := rInfo_rok.good z18.2 hg18
  rw [← hzi] at hgi
  obtain ⟨z25, hz25⟩ : ∃ z, z = rLst rConv zi.2 := ⟨_, rfl⟩
  have hl25 := rLst_rest_le rConv rConv_rok.le zi.2
  rw [← hz25] at hl25
  have hg25 := rLst_good rConv rConv_rok.good zi.2 hgi
  rw [← hz25] at hg25
  have HRX : Hid (rImage st = (⟨z0.1, z1.1 != 0, z2.1, z3.1, z4.1, z5.1, z6.1, z7.1, z8.1, z9.1, z10.1, z11.1, z12.1, z13.1, z14.1, z15.1, z16.1, z17.1, z18.1, zi.1.i19, zi.1.i20, zi.1.i21, zi.1.i22, zi.1.i23, zi.1.i24, z25.1⟩, z25.2)) := Lib.hid (by simp only [rImage, bR, ← hz0, ← hz1, ← hz2, ← hz3, ← hz4, ← hz5, ← hz6, ← hz7, ← hz8, ← hz9, ← hz10, ← hz11, ← hz12, ← hz13, ← hz14, ← hz15, ← hz16, ← hz17, ← hz18, ← hzi, ← hz25])
  have HZ0 := Lib.hid hz0
  clear hz0
  have HG0 := Lib.hid hg0
  clear hg0
  have HZ1 := Lib.hid hz1
  clear hz1
  have HG1 := Lib.hid hg1
  clear hg1
  have HZ2 := Lib.hid hz2
  clear hz2
  have HG2 := Lib.hid hg2
  clear hg2
  have HZ3 := Lib.hid hz3
  clear hz3
  have HG3 := Lib.hid hg3
  clear hg3
  have HZ4 := Lib.hid hz4
  clear hz4
  have HG4 := Lib.hid hg4
  clear hg4
  have HZ5 := Lib.hid hz5
  clear hz5
  have HG5 := Lib.hid hg5
  clear hg5
  have HZ6 := Lib.hid hz6
  clear hz6
  have HG6 := Lib.hid hg6
  clear hg6
  have HZ7 := Lib.hid hz7
  clear hz7
  have HG7 := Lib.hid hg7
  clear hg7
  have HZ8 := Lib.hid hz8
  clear hz8
  have HG8 := Lib.hid hg8
  clear hg8
  have HZ9 := Lib.hid hz9
  clear hz9
  have HG9 := Lib.hid hg9
  clear hg9
  have HZ10 := Lib.hid hz10
  clear hz10
  have HG10 := Lib.hid hg10
  clear hg10
  have HZ11 := Lib.hid hz11
  clear hz11
  have HG11 := Lib.hid hg11
  clear hg11
  have HZ12 := Lib.hid hz12
  clear hz12
  have HG12 := Lib.hid hg12
  clear hg12
  have HZ13 := Lib.hid hz13
  clear hz13
  have HG13 := Lib.hid hg13
  clear hg13
  have HZ14 := Lib.hid hz14
  clear hz14
  have HG14 := Lib.hid hg14
  clear hg14
  have HZ15 := Lib.hid hz15
  clear hz15
  have HG15 := Lib.hid hg15
  clear hg15
  have HZ16 := Lib.hid hz16
  clear hz16
  have HG16 := Lib.hid hg16
  clear hg16
  have HZ17 := Lib.hid hz17
  clear hz17
  have HG17 := Lib.hid hg17
  clear hg17
  have HZ18 := Lib.hid hz18
  clear hz18
  have HG18 := Lib.hid hg18
  clear hg18
  have HZi := Lib.hid hzi
  clear hzi
  have HGi := Lib.hid hgi
  clear hgi
  have HZ25 := Lib.hid hz25
  clear hz25
  have HG25 := Lib.hid hg25
  clear hg25
  have HG := Lib.hid hg
  clear h hx hg HI00
  unfold ImageGot
  rw [HRX.out]
  go_enter Tryd.func35, Tryd.ntmps35
  go_wp2_with fail
  generalize ((w.alloc (.cells #[.pointer (some ⟨cb, 0, none⟩)] 104)).alloc (.cells #[.func (.func 52) #[] #[.pointer (some ⟨w.heap.size, 0, none⟩)]] 110)) = w0 at HC0 HX0 HI0 HT0 HF0 hc0 ht0 ⊢
  have HCd0 : Hid (CR cb g st w0.drew) := HC0.out.drew
  have HXd0 : Hid (Blk w0.drew ib 50 #[.string ⟨#[]⟩, .bool false, .int .i64 0, .int .i64 0, .int .i64 0, .string ⟨#[]⟩, .string ⟨#[]⟩, .int .i64 0, .slice none 0 0, .slice none 0 0, .slice none 0 0, .slice none 0 0, .slice none 0 0, .slice none 0 0, .slice none 0 0, .slice none 0 0, .int .i64 0, .slice none 0 0, .slice none 0 0, .slice none 0 0, .slice none 0 0, .slice none 0 0, .slice none 0 0, .slice none 0 0, .slice none 0 0, .slice none 0 0]) := HX0.out
  have HId0 : Hid (Inv1 w.heap.size (w.heap.size + 1) cb w0.drew) := Lib.hid ((Inv1.keepsR g w.heap.size (w.heap.size + 1) cb).below _ _ HI0.out (Below.drew (Below.refl _ _)))
  have HTd0 : Hid (Tw g ib w w0.drew) := HT0.out.drew
  have HSt0 : Hid (Tw g ib w0 w0.drew) := (Tw.refl g ib w0).drew
  have hq0 := texts_rn (cb := cb) (g := g) (xb := ib) (w := w0.drew) (T := 50) [0] HCd0.out HXd0.out hxc hxg (by simp) (by simp) (by omega)
  simp only [rTs, ← HZ0.out, List.setIfInBounds_toArray, List.set_cons_zero, List.set_cons_succ, List.map_cons, List.map_nil, List.length_cons, List.length_nil, Nat.zero_add, Nat.reduceAdd] at hq0
  have HQ0 := Lib.hid hq0
  clear hq0
  unfold GetPost at HQ0
  go_wp2_with fail
  go_region_held3 (fun w' => w'.cell? ⟨w.heap.size, 0, none⟩ = some (.pointer (some ⟨cb, 0, none⟩)) ∧ w'.cell? ⟨w.heap.size + 1, 0, none⟩ = some (.func (.func 52) #[] #[.pointer (some ⟨w.heap.size, 0, none⟩)]))
    (first | exact ⟨HJ1.out.cell, HJ1.out.tcell⟩ | exact ⟨HId0.out.cell, HId0.out.tcell⟩ | exact ⟨((Inv1.keepsR g w.heap.size (w.heap.size + 1) cb).below _ _ HId0.out ((Below.refl _ _).alloc (Nat.le_refl _) (.cells #[.pointer (some ⟨ib, 0, none⟩)] 108))).cell, ((Inv1.keepsR g w.heap.size (w.heap.size + 1) cb).below _ _ HId0.out ((Below.refl _ _).alloc (Nat.le_refl _) (.cells #[.pointer (some ⟨ib, 0, none⟩)] 108))).tcell⟩)
    (first
      | (go_at_call 53; refine Calls.mono HQ0.out ?_; rintro r w1 ⟨rfl, hc, hx, ht⟩; have HJ1 := Lib.hid ((Inv1.keepsR g w.heap.size (w.heap.size + 1) cb).tw _ _ ib 50 _ _ HId0.out HCd0.out.rd HXd0.out (by decide) (by decide) ht)))
  have HC1 : Hid (CR cb g z0.2 w1) := hc
  have HX1 : Hid (Blk w1 ib 50 #[.string ⟨z0.1.toArray⟩, .bool false, .int .i64 0, .int .i64 0, .int .i64 0, .string ⟨#[]⟩, .string ⟨#[]⟩, .int .i64 0, .slice none 0 0, .slice none 0 0, .slice none 0 0, .slice none 0 0, .slice none 0 0, .slice none 0 0, .slice none 0 0, .slice none 0 0, .int .i64 0, .slice none 0 0, .slice none 0 0, .slice none 0 0, .slice none 0 0, .slice none 0 0, .slice none 0 0, .slice none 0 0, .slice none 0 0, .slice none 0 0]) := hx
  have HT1 : Hid (Tw g ib w w1) := HTd0.out.trans ht
  have HI1 : Hid (Inv1 w.heap.size (w.heap.size + 1) cb w1) := HJ1
  have HF1 := Lib.hid (fun (w' : World) (h : Tw g ib w1 w') => HF0.out w' ((HSt0.out.trans ht).trans h))
  clear hc hx ht HQ0 HCd0 HXd0 HTd0 HId0 HSt0 HJ1 hc0 HC0 HX0 HT0 HI0 HF0 ht0
  have HCd1 : Hid (CR cb g z0.2 w1.drew) := HC1.out.drew
  have HXd1 : Hid (Blk w1.drew ib 50 #[.string ⟨z0.1.toArray⟩, .bool false, .int .i64 0, .int .i64 0, .int .i64 0, .string ⟨#[]⟩, .string ⟨#[]⟩, .int .i64 0, .slice none 0 0, .slice none 0 0, .slice none 0 0, .slice none 0 0, .slice none 0 0, .slice none 0 0, .slice none 0 0, .slice none 0 0, .int .i64 0, .slice none 0 0, .slice none 0 0, .slice none 0 0, .slice none 0 0, .slice none 0 0, .slice none 0 0, .slice none 0 0, .slice none 0 0, .slice none 0 0]) := HX1.out
  have HId1 : Hid (Inv1 w.heap.size (w.heap.size + 1) cb w1.drew) := Lib.hid ((Inv1.keepsR g w.heap.size (w.heap.size + 1) cb).below _ _ HI1.out (Below.drew (Below.refl _ _)))
  have HTd1 : Hid (Tw g ib w w1.drew) := HT1.out.drew
  have HSt1 : Hid (Tw g ib w1 w1.drew) := (Tw.refl g ib w1).drew
  have hq1 := bool_r (cb := cb) (g := g) (xb := ib) (i := 1) (w := w1.drew) (T := 50) HCd1.out HXd1.out hxc hxg rfl (by omega)
  simp only [← HZ1.out, List.setIfInBounds_toArray, List.set_cons_zero, List.set_cons_succ] at hq1
  have HQ1 := Lib.hid hq1
  clear hq1
  unfold GetPost at HQ1
  have hc1 := HI1.out.cell
  have ht1 := HI1.out.tcell
  go_wp2_with fail
  go_region_held3 (fun w' => w'.cell? ⟨w.heap.size, 0, none⟩ = some (.pointer (some ⟨cb, 0, none⟩)) ∧ w'.cell? ⟨w.heap.size + 1, 0, none⟩ = some (.func (.func 52) #[] #[.pointer (some ⟨w.heap.size, 0, none⟩)]))
    (first | exact ⟨HJ2.out.cell, HJ2.out.tcell⟩ | exact ⟨HId1.out.cell, HId1.out.tcell⟩)
    (first
      | (go_at_call 54; refine Calls.mono HQ1.out ?_; rintro r w2 ⟨rfl, hc, hx, ht⟩; have HJ2 := Lib.hid ((Inv1.keepsR g w.heap.size (w.heap.size + 1) cb).tw _ _ ib 50 _ _ HId1.out HCd1.out.rd HXd1.out (by decide) (by decide) ht)))
  have HC2 : Hid (CR cb g z1.2 w2) := hc
  have HX2 : Hid (Blk w2 ib 50 #[.string ⟨z0.1.toArray⟩, .bool (z1.1 != 0), .int .i64 0, .int .i64 0, .int .i64 0, .string ⟨#[]⟩, .string ⟨#[]⟩, .int .i64 0, .slice none 0 0, .slice none 0 0, .slice none 0 0, .slice none 0 0, .slice none 0 0, .slice none 0 0, .slice none 0 0, .slice none 0 0, .int .i64 0, .slice none 0 0, .slice none 0 0, .slice none 0 0, .slice none 0 0, .slice none 0 0, .slice none 0 0, .slice none 0 0, .slice none 0 0, .slice none 0 0]) := hx
  have HT2 : Hid (Tw g ib w w2) := HTd1.out.trans ht
  have HI2 : Hid (Inv1 w.heap.size (w.heap.size + 1) cb w2) := HJ2
  have HF2 := Lib.hid (fun (w' : World) (h : Tw g ib w2 w') => HF1.out w' ((HSt1.out.trans ht).trans h))
  clear hc hx ht HQ1 HCd1 HXd1 HTd1 HId1 HSt1 HJ2 hc1 HC1 HX1 HT1 HI1 HF1 ht1
  have HCd2 : Hid (CR cb g z1.2 w2.drew) := HC2.out.drew
  have HXd2 : Hid (Blk w2.drew ib 50 #[.string ⟨z0.1.toArray⟩, .bool (z1.1 != 0), .int .i64 0, .int .i64 0, .int .i64 0, .string ⟨#[]⟩, .string ⟨#[]⟩, .int .i64 0, .slice none 0 0, .slice none 0 0, .slice none 0 0, .slice none 0 0, .slice none 0 0, .slice none 0 0, .slice none 0 0, .slice none 0 0, .int .i64 0, .slice none 0 0, .slice none 0 0, .slice none 0 0, .slice none 0 0, .slice none 0 0, .slice none 0 0, .slice none 0 0, .slice none 0 0, .slice none 0 0]) := HX2.out
  have HId2 : Hid (Inv1 w.heap.size (w.heap.size + 1) cb w2.drew) := Lib.hid ((Inv1.keepsR g w.heap.size (w.heap.size + 1) cb).below _ _ HI2.out (Below.drew (Below.refl _ _)))
  have HTd2 : Hid (Tw g ib w w2.drew) := HT2.out.drew
  have HSt2 : Hid (Tw g ib w2 w2.drew) := (Tw.refl g ib w2).drew
  have hq2 := ints_rn (cb := cb) (g := g) (xb := ib) (w := w2.drew) (T := 50) [2, 3, 4] HCd2.out HXd2.out hxc hxg (by simp) (by simp) (by omega)
  simp only [rIs, ← HZ2.out, ← HZ3.out, ← HZ4.out, List.setIfInBounds_toArray, List.set_cons_zero, List.set_cons_succ, List.map_cons, List.map_nil, List.length_cons, List.length_nil, Nat.zero_add, Nat.reduceAdd] at hq2
  have HQ2 := Lib.hid hq2
  clear hq2
  unfold GetPost at HQ2
  have hc2 := HI2.out.cell
  have ht2 := HI2.out.tcell
  go_wp2_with fail
  go_region_held3 (fun w' => w'.cell? ⟨w.heap.size, 0, none⟩ = some (.pointer (some ⟨cb, 0, none⟩)) ∧ w'.cell? ⟨w.heap.size + 1, 0, none⟩ = some (.func (.func 52) #[] #[.pointer (some ⟨w.heap.size, 0, none⟩)]))
    (first | exact ⟨HJ3.out.cell, HJ3.out.tcell⟩ | exact ⟨HId2.out.cell, HId2.out.tcell⟩ | exact ⟨((Inv1.keepsR g w.heap.size (w.heap.size + 1) cb).below _ _ HId2.out ((Below.refl _ _).alloc (Nat.le_refl _) (.cells #[.pointer (some ⟨ib, 2, none⟩), .pointer (some ⟨ib, 3, none⟩), .pointer (some ⟨ib, 4, none⟩)] 105))).cell, ((Inv1.keepsR g w.heap.size (w.heap.size + 1) cb).below _ _ HId2.out ((Below.refl _ _).alloc (Nat.le_refl _) (.cells #[.pointer (some ⟨ib, 2, none⟩), .pointer (some ⟨ib, 3, none⟩), .pointer (some ⟨ib, 4, none⟩)] 105))).tcell⟩)
    (first
      | (go_at_call 51; refine Calls.mono HQ2.out ?_; rintro r w3 ⟨rfl, hc, hx, ht⟩; have HJ3 := Lib.hid ((Inv1.keepsR g w.heap.size (w.heap.size + 1) cb).tw _ _ ib 50 _ _ HId2.out HCd2.out.rd HXd2.out (by decide) (by decide) ht)))
  have HC3 : Hid (CR cb g z4.2 w3) := hc
  have HX3 : Hid (Blk w3 ib 50 #[.string ⟨z0.1.toArray⟩, .bool (z1.1 != 0), .int .i64 z2.1, .int .i64 z3.1, .int .i64 z4.1, .string ⟨#[]⟩, .string ⟨#[]⟩, .int .i64 0, .slice none 0 0, .slice none 0 0, .slice none 0 0, .slice none 0 0, .slice none 0 0, .slice none 0 0, .slice none 0 0, .slice none 0 0, .int .i64 0, .slice none 0 0, .slice none 0 0, .slice none 0 0, .slice none 0 0, .slice none 0 0, .slice none 0 0, .slice none 0 0, .slice none 0 0, .slice none 0 0]) := hx
  have HT3 : Hid (Tw g ib w w3) := HTd2.out.trans ht
  have HI3 : Hid (Inv1 w.heap.size (w.heap.size + 1) cb w3) := HJ3
  have HF3 := Lib.hid (fun (w' : World) (h : Tw g ib w3 w') => HF2.out w' ((HSt2.out.trans ht).trans h))
  clear hc hx ht HQ2 HCd2 HXd2 HTd2 HId2 HSt2 HJ3 hc2 HC2 HX2 HT2 HI2 HF2 ht2
  have HCd3 : Hid (CR cb g z4.2 w3.drew) := HC3.out.drew
  have HXd3 : Hid (Blk w3.drew ib 50 #[.string ⟨z0.1.toArray⟩, .bool (z1.1 != 0), .int .i64 z2.1, .int .i64 z3.1, .int .i64 z4.1, .string ⟨#[]⟩, .string ⟨#[]⟩, .int .i64 0, .slice none 0 0, .slice none 0 0, .slice none 0 0, .slice none 0 0, .slice none 0 0, .slice none 0 0, .slice none 0 0, .slice none 0 0, .int .i64 0, .slice none 0 0, .slice none 0 0, .slice none 0 0, .slice none 0 0, .slice none 0 0, .slice none 0 0, .slice none 0 0, .slice none 0 0, .slice none 0 0]) := HX3.out
  have HId3 : Hid (Inv1 w.heap.size (w.heap.size + 1) cb w3.drew) := Lib.hid ((Inv1.keepsR g w.heap.size (w.heap.size + 1) cb).below _ _ HI3.out (Below.drew (Below.refl _ _)))
  have HTd3 : Hid (Tw g ib w w3.drew) := HT3.out.drew
  have HSt3 : Hid (Tw g ib w3 w3.drew) := (Tw.refl g ib w3).drew
  have hq3 := texts_rn (cb := cb) (g := g) (xb := ib) (w := w3.drew) (T := 50) [5, 6] HCd3.out HXd3.out hxc hxg (by simp) (by simp) (by omega)
  simp only [rTs, ← HZ5.out, ← HZ6.out, List.setIfInBounds_toArray, List.set_cons_zero, List.set_cons_succ, List.map_cons, List.map_nil, List.length_cons, List.length_nil, Nat.zero_add, Nat.reduceAdd] at hq3
  have HQ3 := Lib.hid hq3
  clear hq3
  unfold GetPost at HQ3
  have hc3 := HI3.out.cell
  have ht3 := HI3.out.tcell
  go_wp2_with fail
  go_region_held3 (fun w' => w'.cell? ⟨w.heap.size, 0, none⟩ = some (.pointer (some ⟨cb, 0, none⟩)) ∧ w'.cell? ⟨w.heap.size + 1, 0, none⟩ = some (.func (.func 52) #[] #[.pointer (some ⟨w.heap.size, 0, none⟩)]))
    (first | exact ⟨HJ4.out.cell, HJ4.out.tcell⟩ | exact ⟨HId3.out.cell, HId3.out.tcell⟩ | exact ⟨((Inv1.keepsR g w.heap.size (w.heap.size + 1) cb).below _ _ HId3.out ((Below.refl _ _).alloc (Nat.le_refl _) (.cells #[.pointer (some ⟨ib, 5, none⟩), .pointer (some ⟨ib, 6, none⟩)] 108))).cell, ((Inv1.keepsR g w.heap.size (w.heap.size + 1) cb).below _ _ HId3.out ((Below.refl _ _).alloc (Nat.le_refl _) (.cells #[.pointer (some ⟨ib, 5, none⟩), .pointer (some ⟨ib, 6, none⟩)] 108))).tcell⟩)
    (first
      | (go_at_call 53; refine Calls.mono HQ3.out ?_; rintro r w4 ⟨rfl, hc, hx, ht⟩; have HJ4 := Lib.hid ((Inv1.keepsR g w.heap.size (w.heap.size + 1) cb).tw _ _ ib 50 _ _ HId3.out HCd3.out.rd HXd3.out (by decide) (by decide) ht)))
  have HC4 : Hid (CR cb g z6.2 w4) := hc
  have HX4 : Hid (Blk w4 ib 50 #[.string ⟨z0.1.toArray⟩, .bool (z1.1 != 0), .int .i64 z2.1, .int .i64 z3.1, .int .i64 z4.1, .string ⟨z5.1.toArray⟩, .string ⟨z6.1.toArray⟩, .int .i64 0, .slice none 0 0, .slice none 0 0, .slice none 0 0, .slice none 0 0, .slice none 0 0, .slice none 0 0, .slice none 0 0, .slice none 0 0, .int .i64 0, .slice none 0 0, .slice none 0 0, .slice none 0 0, .slice none 0 0, .slice none 0 0, .slice none 0 0, .slice none 0 0, .slice none 0 0, .slice none 0 0]) := hx
  have HT4 : Hid (Tw g ib w w4) := HTd3.out.trans ht
  have HI4 : Hid (Inv1 w.heap.size (w.heap.size + 1) cb w4) := HJ4
  have HF4 := Lib.hid (fun (w' : World) (h : Tw g ib w4 w') => HF3.out w' ((HSt3.out.trans ht).trans h))
  clear hc hx ht HQ3 HCd3 HXd3 HTd3 HId3 HSt3 HJ4 hc3 HC3 HX3 HT3 HI3 HF3 ht3
  have HCd4 : Hid (CR cb g z6.2 w4.drew) := HC4.out.drew
  have HXd4 : Hid (Blk w4.drew ib 50 #[.string ⟨z0.1.toArray⟩, .bool (z1.1 != 0), .int .i64 z2.1, .int .i64 z3.1, .int .i64 z4.1, .string ⟨z5.1.toArray⟩, .string ⟨z6.1.toArray⟩, .int .i64 0, .slice none 0 0, .slice none 0 0, .slice none 0 0, .slice none 0 0, .slice none 0 0, .slice none 0 0, .slice none 0 0, .slice none 0 0, .int .i64 0, .slice none 0 0, .slice none 0 0, .slice none 0 0, .slice none 0 0, .slice none 0 0, .slice none 0 0, .slice none 0 0, .slice none 0 0, .slice none 0 0]) := HX4.out
  have HId4 : Hid (Inv1 w.heap.size (w.heap.size + 1) cb w4.drew) := Lib.hid ((Inv1.keepsR g w.heap.size (w.heap.size + 1) cb).below _ _ HI4.out (Below.drew (Below.refl _ _)))
  have HTd4 : Hid (Tw g ib w w4.drew) := HT4.out.drew
  have HSt4 : Hid (Tw g ib w4 w4.drew) := (Tw.refl g ib w4).drew
  have hq4 := ints_rn (cb := cb) (g := g) (xb := ib) (w := w4.drew) (T := 50) [7] HCd4.out HXd4.out hxc hxg (by simp) (by simp) (by omega)
  simp only [rIs, ← HZ7.out, List.setIfInBounds_toArray, List.set_cons_zero, List.set_cons_succ, List.map_cons, List.map_nil, List.length_cons, List.length_nil, Nat.zero_add, Nat.reduceAdd] at hq4
  have HQ4 := Lib.hid hq4
  clear hq4
  unfold GetPost at HQ4
  have hc4 := HI4.out.cell
  have ht4 := HI4.out.tcell
  go_wp2_with fail
  go_region_held3 (fun w' => w'.cell? ⟨w.heap.size, 0, none⟩ = some (.pointer (some ⟨cb, 0, none⟩)) ∧ w'.cell? ⟨w.heap.size + 1, 0, none⟩ = some (.func (.func 52) #[] #[.pointer (some ⟨w.heap.size, 0, none⟩)]))
    (first | exact ⟨HJ5.out.cell, HJ5.out.tcell⟩ | exact ⟨HId4.out.cell, HId4.out.tcell⟩ | exact ⟨((Inv1.keepsR g w.heap.size (w.heap.size + 1) cb).below _ _ HId4.out ((Below.refl _ _).alloc (Nat.le_refl _) (.cells #[.pointer (some ⟨ib, 7, none⟩)] 105))).cell, ((Inv1.keepsR g w.heap.size (w.heap.size + 1) cb).below _ _ HId4.out ((Below.refl _ _).alloc (Nat.le_refl _) (.cells #[.pointer (some ⟨ib, 7, none⟩)] 105))).tcell⟩)
    (first
      | (go_at_call 51; refine Calls.mono HQ4.out ?_; rintro r w5 ⟨rfl, hc, hx, ht⟩; have HJ5 := Lib.hid ((Inv1.keepsR g w.heap.size (w.heap.size + 1) cb).tw _ _ ib 50 _ _ HId4.out HCd4.out.rd HXd4.out (by decide) (by decide) ht)))
  have HC5 : Hid (CR cb g z7.2 w5) := hc
  have HX5 : Hid (Blk w5 ib 50 #[.string ⟨z0.1.toArray⟩, .bool (z1.1 != 0), .int .i64 z2.1, .int .i64 z3.1, .int .i64 z4.1, .string ⟨z5.1.toArray⟩, .string ⟨z6.1.toArray⟩, .int .i64 z7.1, .slice none 0 0, .slice none 0 0, .slice none 0 0, .slice none 0 0, .slice none 0 0, .slice none 0 0, .slice none 0 0, .slice none 0 0, .int .i64 0, .slice none 0 0, .slice none 0 0, .slice none 0 0, .slice none 0 0, .slice none 0 0, .slice none 0 0, .slice none 0 0, .slice none 0 0, .slice none 0 0]) := hx
  have HT5 : Hid (Tw g ib w w5) := HTd4.out.trans ht
  have HI5 : Hid (Inv1 w.heap.size (w.heap.size + 1) cb w5) := HJ5
  have HF5 := Lib.hid (fun (w' : World) (h : Tw g ib w5 w') => HF4.out w' ((HSt4.out.trans ht).trans h))
  clear hc hx ht HQ4 HCd4 HXd4 HTd4 HId4 HSt4 HJ5 hc4 HC4 HX4 HT4 HI4 HF4 ht4
  have HCd5 : Hid (CR cb g z7.2 w5.drew) := HC5.out.drew
  have HXd5 : Hid (Blk w5.drew ib 50 #[.string ⟨z0.1.toArray⟩, .bool (z1.1 != 0), .int .i64 z2.1, .int .i64 z3.1, .int .i64 z4.1, .string ⟨z5.1.toArray⟩, .string ⟨z6.1.toArray⟩, .int .i64 z7.1, .slice none 0 0, .slice none 0 0, .slice none 0 0, .slice none 0 0, .slice none 0 0, .slice none 0 0, .slice none 0 0, .slice none 0 0, .int .i64 0, .slice none 0 0, .slice none 0 0, .slice none 0 0, .slice none 0 0, .slice none 0 0, .slice none 0 0, .slice none 0 0, .slice none 0 0, .slice none 0 0]) := HX5.out
  have HId5 : Hid (Inv1 w.heap.size (w.heap.size + 1) cb w5.drew) := Lib.hid ((Inv1.keepsR g w.heap.size (w.heap.size + 1) cb).below _ _ HI5.out (Below.drew (Below.refl _ _)))
  have HTd5 : Hid (Tw g ib w w5.drew) := HT5.out.drew
  have HSt5 : Hid (Tw g ib w5 w5.drew) := (Tw.refl g ib w5).drew
  have HQ5 := Lib.hid (listPlaced_r (cb := cb) (g := g) (ib := ib) (off := 8) (w := w5.drew) (ti := 50) (st := z7.2) (Inv0 w.heap.size cb) ⟨w.heap.size, 0, none⟩ (Inv0.keepsR g w.heap.size cb) HId5.out.1 HCd5.out HG7.out (by omega) HXd5.out (by decide) (by decide) (by decide) hxc hxg rfl (fun wx sx xb2 i2 c2 g2 l2 b2 k2 n2 => cloPlaced_r xb2 i2 c2 g2 l2 b2 k2 n2))
  unfold GotListPlaced at HQ5
  rw [← HZ8.out] at HQ5
  have hc5 := HI5.out.cell
  have ht5 := HI5.out.tcell
  go_wp2_with fail
  go_region_held3 (fun w' => w'.cell? ⟨w.heap.size, 0, none⟩ = some (.pointer (some ⟨cb, 0, none⟩)) ∧ w'.cell? ⟨w.heap.size + 1, 0, none⟩ = some (.func (.func 52) #[] #[.pointer (some ⟨w.heap.size, 0, none⟩)]))
    (first | exact ⟨HJ6.out.cell, HJ6.out.tcell⟩ | exact ⟨HId5.out.cell, HId5.out.tcell⟩)
    (first
      | (go_at_call 55; refine Calls.mono HQ5.out ?_; rintro r w6 ⟨rfl, s8, hs8, ho, hx, hc, ht⟩; have HJ6 := Lib.hid ((Inv1.keepsR g w.heap.size (w.heap.size + 1) cb).tw _ _ ib 50 _ _ HId5.out HCd5.out.rd HXd5.out (by decide) (by decide) ht)))
  have HC6 : Hid (CR cb g z8.2 w6) := hc
  have HX6 : Hid (Blk w6 ib 50 #[.string ⟨z0.1.toArray⟩, .bool (z1.1 != 0), .int .i64 z2.1, .int .i64 z3.1, .int .i64 z4.1, .string ⟨z5.1.toArray⟩, .string ⟨z6.1.toArray⟩, .int .i64 z7.1, .slice s8.A s8.xs.length s8.c, .slice none 0 0, .slice none 0 0, .slice none 0 0, .slice none 0 0, .slice none 0 0, .slice none 0 0, .slice none 0 0, .int .i64 0, .slice none 0 0, .slice none 0 0, .slice none 0 0, .slice none 0 0, .slice none 0 0, .slice none 0 0, .slice none 0 0, .slice none 0 0, .slice none 0 0]) := hx
  have HT6 : Hid (Tw g ib w w6) := HTd5.out.trans ht
  have HI6 : Hid (Inv1 w.heap.size (w.heap.size + 1) cb w6) := HJ6
  have HF6 := Lib.hid (fun (w' : World) (h : Tw g ib w6 w') => And.intro (HF5.out w' ((HSt5.out.trans ht).trans h)) (own_tw (own_zero ho) hc.rd (by decide) hx (by decide) h))
  have HS8 := Lib.hid hs8
  clear ho hs8
  clear hc hx ht HQ5 HCd5 HXd5 HTd5 HId5 HSt5 HJ6 hc5 HC5 HX5 HT5 HI5 HF5 ht5
  have HCd6 : Hid (CR cb g z8.2 w6.drew) := HC6.out.drew
  have HXd6 : Hid (Blk w6.drew ib 50 #[.string ⟨z0.1.toArray⟩, .bool (z1.1 != 0), .int .i64 z2.1, .int .i64 z3.1, .int .i64 z4.1, .string ⟨z5.1.toArray⟩, .string ⟨z6.1.toArray⟩, .int .i64 z7.1, .slice s8.A s8.xs.length s8.c, .slice none 0 0, .slice none 0 0, .slice none 0 0, .slice none 0 0, .slice none 0 0, .slice none 0 0, .slice none 0 0, .int .i64 0, .slice none 0 0, .slice none 0 0, .slice none 0 0, .slice none 0 0, .slice none 0 0, .slice none 0 0, .slice none 0 0, .slice none 0 0, .slice none 0 0]) := HX6.out
  have HId6 : Hid (Inv1 w.heap.size (w.heap.size + 1) cb w6.drew) := Lib.hid ((Inv1.keepsR g w.heap.size (w.heap.size + 1) cb).below _ _ HI6.out (Below.drew (Below.refl _ _)))
  have HTd6 : Hid (Tw g ib w w6.drew) := HT6.out.drew
  have HSt6 : Hid (Tw g ib w6 w6.drew) := (Tw.refl g ib w6).drew
  have HQ6 := Lib.hid (listExport_r (cb := cb) (g := g) (ib := ib) (off := 9) (w := w6.drew) (ti := 50) (st := z8.2) (Inv0 w.heap.size cb) ⟨w.heap.size, 0, none⟩ (Inv0.keepsR g w.heap.size cb) HId6.out.1 HCd6.out HG8.out (by omega) HXd6.out (by decide) (by decide) (by decide) hxc hxg rfl (fun wx sx xb2 i2 c2 g2 l2 b2 k2 n2 => cloExport_r xb2 i2 c2 g2 l2 b2 k2 n2))
  unfold GotListExport at HQ6
  rw [← HZ9.out] at HQ6
  have hc6 := HI6.out.cell
  have ht6 := HI6.out.tcell
  go_wp2_with fail
  go_region_held3 (fun w' => w'.cell? ⟨w.heap.size, 0, none⟩ = some (.pointer (some ⟨cb, 0, none⟩)) ∧ w'.cell? ⟨w.heap.size + 1, 0, none⟩ = some (.func (.func 52) #[] #[.pointer (some ⟨w.heap.size, 0, none⟩)]))
    (first | exact ⟨HJ7.out.cell, HJ7.out.tcell⟩ | exact ⟨HId6.out.cell, HId6.out.tcell⟩)
    (first
      | (go_at_call 57; refine Calls.mono HQ6.out ?_; rintro r w7 ⟨rfl, s9, hs9, ho, hx, hc, ht⟩; have HJ7 := Lib.hid ((Inv1.keepsR g w.heap.size (w.heap.size + 1) cb).tw _ _ ib 50 _ _ HId6.out HCd6.out.rd HXd6.out (by decide) (by decide) ht)))
  have HC7 : Hid (CR cb g z9.2 w7) := hc
  have HX7 : Hid (Blk w7 ib 50 #[.string ⟨z0.1.toArray⟩, .bool (z1.1 != 0), .int .i64 z2.1, .int .i64 z3.1, .int .i64 z4.1, .string ⟨z5.1.toArray⟩, .string ⟨z6.1.toArray⟩, .int .i64 z7.1, .slice s8.A s8.xs.length s8.c, .slice s9.A s9.xs.length s9.c, .slice none 0 0, .slice none 0 0, .slice none 0 0, .slice none 0 0, .slice none 0 0, .slice none 0 0, .int .i64 0, .slice none 0 0, .slice none 0 0, .slice none 0 0, .slice none 0 0, .slice none 0 0, .slice none 0 0, .slice none 0 0, .slice none 0 0, .slice none 0 0]) := hx
  have HT7 : Hid (Tw g ib w w7) := HTd6.out.trans ht
  have HI7 : Hid (Inv1 w.heap.size (w.heap.size + 1) cb w7) := HJ7
  have HF7 := Lib.hid (fun (w' : World) (h : Tw g ib w7 w') => And.intro (HF6.out w' ((HSt6.out.trans ht).trans h)) (own_tw (own_zero ho) hc.rd (by decide) hx (by decide) h))
  have HS9 := Lib.hid hs9
  clear ho hs9
  clear hc hx ht HQ6 HCd6 HXd6 HTd6 HId6 HSt6 HJ7 hc6 HC6 HX6 HT6 HI6 HF6 ht6
  have HCd7 : Hid (CR cb g z9.2 w7.drew) := HC7.out.drew
  have HXd7 : Hid (Blk w7.drew ib 50 #[.string ⟨z0.1.toArray⟩, .bool (z1.1 != 0), .int .i64 z2.1, .int .i64 z3.1, .int .i64 z4.1, .string ⟨z5.1.toArray⟩, .string ⟨z6.1.toArray⟩, .int .i64 z7.1, .slice s8.A s8.xs.length s8.c, .slice s9.A s9.xs.length s9.c, .slice none 0 0, .slice none 0 0, .slice none 0 0, .slice none 0 0, .slice none 0 0, .slice none 0 0, .int .i64 0, .slice none 0 0, .slice none 0 0, .slice none 0 0, .slice none 0 0, .slice none 0 0, .slice none 0 0, .slice none 0 0, .slice none 0 0, .slice none 0 0]) := HX7.out
  have HId7 : Hid (Inv1 w.heap.size (w.heap.size + 1) cb w7.drew) := Lib.hid ((Inv1.keepsR g w.heap.size (w.heap.size + 1) cb).below _ _ HI7.out (Below.drew (Below.refl _ _)))
  have HTd7 : Hid (Tw g ib w w7.drew) := HT7.out.drew
  have HSt7 : Hid (Tw g ib w7 w7.drew) := (Tw.refl g ib w7).drew
  have HQ7 := Lib.hid (listImport_r (cb := cb) (g := g) (ib := ib) (off := 10) (w := w7.drew) (ti := 50) (st := z9.2) (Inv0 w.heap.size cb) ⟨w.heap.size, 0, none⟩ (Inv0.keepsR g w.heap.size cb) HId7.out.1 HCd7.out HG9.out (by omega) HXd7.out (by decide) (by decide) (by decide) hxc hxg rfl (fun wx sx xb2 i2 c2 g2 l2 b2 k2 n2 => cloImport_r xb2 i2 c2 g2 l2 b2 k2 n2))
  unfold GotListImport at HQ7
  rw [← HZ10.out] at HQ7
  have hc7 := HI7.out.cell
  have ht7 := HI7.out.tcell
  go_wp2_with fail
  go_region_held3 (fun w' => w'.cell? ⟨w.heap.size, 0, none⟩ = some (.pointer (some ⟨cb, 0, none⟩)) ∧ w'.cell? ⟨w.heap.size + 1, 0, none⟩ = some (.func (.func 52) #[] #[.pointer (some ⟨w.heap.size, 0, none⟩)]))
    (first | exact ⟨HJ8.out.cell, HJ8.out.tcell⟩ | exact ⟨HId7.out.cell, HId7.out.tcell⟩)
    (first
      | (go_at_call 59; refine Calls.mono HQ7.out ?_; rintro r w8 ⟨rfl, s10, hs10, ho, hx, hc, ht⟩; have HJ8 := Lib.hid ((Inv1.keepsR g w.heap.size (w.heap.size + 1) cb).tw _ _ ib 50 _ _ HId7.out HCd7.out.rd HXd7.out (by decide) (by decide) ht)))
  have HC8 : Hid (CR cb g z10.2 w8) := hc
  have HX8 : Hid (Blk w8 ib 50 #[.string ⟨z0.1.toArray⟩, .bool (z1.1 != 0), .int .i64 z2.1, .int .i64 z3.1, .int .i64 z4.1, .string ⟨z5.1.toArray⟩, .string ⟨z6.1.toArray⟩, .int .i64 z7.1, .slice s8.A s8.xs.length s8.c, .slice s9.A s9.xs.length s9.c, .slice s10.A s10.xs.length s10.c, .slice none 0 0, .slice none 0 0, .slice none 0 0, .slice none 0 0, .slice none 0 0, .int .i64 0, .slice none 0 0, .slice none 0 0, .slice none 0 0, .slice none 0 0, .slice none 0 0, .slice none 0 0, .slice none 0 0, .slice none 0 0, .slice none 0 0]) := hx
  have HT8 : Hid (Tw g ib w w8) := HTd7.out.trans ht
  have HI8 : Hid (Inv1 w.heap.size (w.heap.size + 1) cb w8) := HJ8
  have HF8 := Lib.hid (fun (w' : World) (h : Tw g ib w8 w') => And.intro (HF7.out w' ((HSt7.out.trans ht).trans h)) (own_tw (own_zero ho) hc.rd (by decide) hx (by decide) h))
  have HS10 := Lib.hid hs10
  clear ho hs10
  clear hc hx ht HQ7 HCd7 HXd7 HTd7 HId7 HSt7 HJ8 hc7 HC7 HX7 HT7 HI7 HF7 ht7
  have HCd8 : Hid (CR cb g z10.2 w8.drew) := HC8.out.drew
  have HXd8 : Hid (Blk w8.drew ib 50 #[.string ⟨z0.1.toArray⟩, .bool (z1.1 != 0), .int .i64 z2.1, .int .i64 z3.1, .int .i64 z4.1, .string ⟨z5.1.toArray⟩, .string ⟨z6.1.toArray⟩, .int .i64 z7.1, .slice s8.A s8.xs.length s8.c, .slice s9.A s9.xs.length s9.c, .slice s10.A s10.xs.length s10.c, .slice none 0 0, .slice none 0 0, .slice none 0 0, .slice none 0 0, .slice none 0 0, .int .i64 0, .slice none 0 0, .slice none 0 0, .slice none 0 0, .slice none 0 0, .slice none 0 0, .slice none 0 0, .slice none 0 0, .slice none 0 0, .slice none 0 0]) := HX8.out
  have HId8 : Hid (Inv1 w.heap.size (w.heap.size + 1) cb w8.drew) := Lib.hid ((Inv1.keepsR g w.heap.size (w.heap.size + 1) cb).below _ _ HI8.out (Below.drew (Below.refl _ _)))
  have HTd8 : Hid (Tw g ib w w8.drew) := HT8.out.drew
  have HSt8 : Hid (Tw g ib w8 w8.drew) := (Tw.refl g ib w8).drew
  have HQ8 := Lib.hid (listInt__r (cb := cb) (g := g) (ib := ib) (off := 11) (w := w8.drew) (ti := 50) (st := z10.2) (Inv0 w.heap.size cb) ⟨w.heap.size, 0, none⟩ (Inv0.keepsR g w.heap.size cb) HId8.out.1 HCd8.out HG10.out (by omega) HXd8.out (by decide) (by decide) (by decide) hxc hxg rfl (fun wx sx xb2 i2 c2 g2 l2 b2 k2 n2 => cloInt__r xb2 i2 c2 g2 l2 b2 k2 n2))
  unfold GotListInt_ at HQ8
  rw [← HZ11.out] at HQ8
  have hc8 := HI8.out.cell
  have ht8 := HI8.out.tcell
  go_wp2_with fail
  go_region_held3 (fun w' => w'.cell? ⟨w.heap.size, 0, none⟩ = some (.pointer (some ⟨cb, 0, none⟩)) ∧ w'.cell? ⟨w.heap.size + 1, 0, none⟩ = some (.func (.func 52) #[] #[.pointer (some ⟨w.heap.size, 0, none⟩)]))
    (first | exact ⟨HJ9.out.cell, HJ9.out.tcell⟩ | exact ⟨HId8.out.cell, HId8.out.tcell⟩)
    (first
      | (go_at_call 61; refine Calls.mono HQ8.out ?_; rintro r w9 ⟨rfl, s11, hs11, ho, hx, hc, ht⟩; have HJ9 := Lib.hid ((Inv1.keepsR g w.heap.size (w.heap.size + 1) cb).tw _ _ ib 50 _ _ HId8.out HCd8.out.rd HXd8.out (by decide) (by decide) ht)))
  have HC9 : Hid (CR cb g z11.2 w9) := hc
  have HX9 : Hid (Blk w9 ib 50 #[.string ⟨z0.1.toArray⟩, .bool (z1.1 != 0), .int .i64 z2.1, .int .i64 z3.1, .int .i64 z4.1, .string ⟨z5.1.toArray⟩, .string ⟨z6.1.toArray⟩, .int .i64 z7.1, .slice s8.A s8.xs.length s8.c, .slice s9.A s9.xs.length s9.c, .slice s10.A s10.xs.length s10.c, .slice s11.A s11.xs.length s11.c, .slice none 0 0, .slice none 0 0, .slice none 0 0, .slice none 0 0, .int .i64 0, .slice none 0 0, .slice none 0 0, .slice none 0 0, .slice none 0 0, .slice none 0 0, .slice none 0 0, .slice none 0 0, .slice none 0 0, .slice none 0 0]) := hx
  have HT9 : Hid (Tw g ib w w9) := HTd8.out.trans ht
  have HI9 : Hid (Inv1 w.heap.size (w.heap.size + 1) cb w9) := HJ9
  have HF9 := Lib.hid (fun (w' : World) (h : Tw g ib w9 w') => And.intro (HF8.out w' ((HSt8.out.trans ht).trans h)) (own_tw (own_zero ho) hc.rd (by decide) hx (by decide) h))
  have HS11 := Lib.hid hs11
  clear ho hs11
  clear hc hx ht HQ8 HCd8 HXd8 HTd8 HId8 HSt8 HJ9 hc8 HC8 HX8 HT8 HI8 HF8 ht8
  have HCd9 : Hid (CR cb g z11.2 w9.drew) := HC9.out.drew
  have HXd9 : Hid (Blk w9.drew ib 50 #[.string ⟨z0.1.toArray⟩, .bool (z1.1 != 0), .int .i64 z2.1, .int .i64 z3.1, .int .i64 z4.1, .string ⟨z5.1.toArray⟩, .string ⟨z6.1.toArray⟩, .int .i64 z7.1, .slice s8.A s8.xs.length s8.c, .slice s9.A s9.xs.length s9.c, .slice s10.A s10.xs.length s10.c, .slice s11.A s11.xs.length s11.c, .slice none 0 0, .slice none 0 0, .slice none 0 0, .slice none 0 0, .int .i64 0, .slice none 0 0, .slice none 0 0, .slice none 0 0, .slice none 0 0, .slice none 0 0, .slice none 0 0, .slice none 0 0, .slice none 0 0, .slice none 0 0]) := HX9.out
  have HId9 : Hid (Inv1 w.heap.size (w.heap.size + 1) cb w9.drew) := Lib.hid ((Inv1.keepsR g w.heap.size (w.heap.size + 1) cb).below _ _ HI9.out (Below.drew (Below.refl _ _)))
  have HTd9 : Hid (Tw g ib w w9.drew) := HT9.out.drew
  have HSt9 : Hid (Tw g ib w9 w9.drew) := (Tw.refl g ib w9).drew
  have HQ9 := Lib.hid (listInt__r (cb := cb) (g := g) (ib := ib) (off := 12) (w := w9.drew) (ti := 50) (st := z11.2) (Inv0 w.heap.size cb) ⟨w.heap.size, 0, none⟩ (Inv0.keepsR g w.heap.size cb) HId9.out.1 HCd9.out HG11.out (by omega) HXd9.out (by decide) (by decide) (by decide) hxc hxg rfl (fun wx sx xb2 i2 c2 g2 l2 b2 k2 n2 => cloInt__r xb2 i2 c2 g2 l2 b2 k2 n2))
  unfold GotListInt_ at HQ9
  rw [← HZ12.out] at HQ9
  have hc9 := HI9.out.cell
  have ht9 := HI9.out.tcell
  go_wp2_with fail
  go_region_held3 (fun w' => w'.cell? ⟨w.heap.size, 0, none⟩ = some (.pointer (some ⟨cb, 0, none⟩)) ∧ w'.cell? ⟨w.heap.size + 1, 0, none⟩ = some (.func (.func 52) #[] #[.pointer (some ⟨w.heap.size, 0, none⟩)]))
    (first | exact ⟨HJ10.out.cell, HJ10.out.tcell⟩ | exact ⟨HId9.out.cell, HId9.out.tcell⟩)
    (first
      | (go_at_call 61; refine Calls.mono HQ9.out ?_; rintro r w10 ⟨rfl, s12, hs12, ho, hx, hc, ht⟩; have HJ10 := Lib.hid ((Inv1.keepsR g w.heap.size (w.heap.size + 1) cb).tw _ _ ib 50 _ _ HId9.out HCd9.out.rd HXd9.out (by decide) (by decide) ht)))
  have HC10 : Hid (CR cb g z12.2 w10) := hc
  have HX10 : Hid (Blk w10 ib 50 #[.string ⟨z0.1.toArray⟩, .bool (z1.1 != 0), .int .i64 z2.1, .int .i64 z3.1, .int .i64 z4.1, .string ⟨z5.1.toArray⟩, .string ⟨z6.1.toArray⟩, .int .i64 z7.1, .slice s8.A s8.xs.length s8.c, .slice s9.A s9.xs.length s9.c, .slice s10.A s10.xs.length s10.c, .slice s11.A s11.xs.length s11.c, .slice s12.A s12.xs.length s12.c, .slice none 0 0, .slice none 0 0, .slice none 0 0, .int .i64 0, .slice none 0 0, .slice none 0 0, .slice none 0 0, .slice none 0 0, .slice none 0 0, .slice none 0 0, .slice none 0 0, .slice none 0 0, .slice none 0 0]) := hx
  have HT10 : Hid (Tw g ib w w10) := HTd9.out.trans ht
  have HI10 : Hid (Inv1 w.heap.size (w.heap.size + 1) cb w10) := HJ10
  have HF10 := Lib.hid (fun (w' : World) (h : Tw g ib w10 w') => And.intro (HF9.out w' ((HSt9.out.trans ht).trans h)) (own_tw (own_zero ho) hc.rd (by decide) hx (by decide) h))
  have HS12 := Lib.hid hs12
  clear ho hs12
  clear hc hx ht HQ9 HCd9 HXd9 HTd9 HId9 HSt9 HJ10 hc9 HC9 HX9 HT9 HI9 HF9 ht9
  have HCd10 : Hid (CR cb g z12.2 w10.drew) := HC10.out.drew
  have HXd10 : Hid (Blk w10.drew ib 50 #[.string ⟨z0.1.toArray⟩, .bool (z1.1 != 0), .int .i64 z2.1, .int .i64 z3.1, .int .i64 z4.1, .string ⟨z5.1.toArray⟩, .string ⟨z6.1.toArray⟩, .int .i64 z7.1, .slice s8.A s8.xs.length s8.c, .slice s9.A s9.xs.length s9.c, .slice s10.A s10.xs.length s10.c, .slice s11.A s11.xs.length s11.c, .slice s12.A s12.xs.length s12.c, .slice none 0 0, .slice none 0 0, .slice none 0 0, .int .i64 0, .slice none 0 0, .slice none 0 0, .slice none 0 0, .slice none 0 0, .slice none 0 0, .slice none 0 0, .slice none 0 0, .slice none 0 0, .slice none 0 0]) := HX10.out
  have HId10 : Hid (Inv1 w.heap.size (w.heap.size + 1) cb w10.drew) := Lib.hid ((Inv1.keepsR g w.heap.size (w.heap.size + 1) cb).below _ _ HI10.out (Below.drew (Below.refl _ _)))
  have HTd10 : Hid (Tw g ib w w10.drew) := HT10.out.drew
  have HSt10 : Hid (Tw g ib w10 w10.drew) := (Tw.refl g ib w10).drew
  have HQ10 := Lib.hid (listDyn_r (cb := cb) (g := g) (ib := ib) (off := 13) (w := w10.drew) (ti := 50) (st := z12.2) (Inv0 w.heap.size cb) ⟨w.heap.size, 0, none⟩ (Inv0.keepsR g w.heap.size cb) HId10.out.1 HCd10.out HG12.out (by omega) HXd10.out (by decide) (by decide) (by decide) hxc hxg rfl (fun wx sx xb2 i2 c2 g2 l2 b2 k2 n2 => cloDyn_r xb2 i2 c2 g2 l2 b2 k2 n2))
  unfold GotListDyn at HQ10
  rw [← HZ13.out] at HQ10
  have hc10 := HI10.out.cell
  have ht10 := HI10.out.tcell
  go_wp2_with fail
  go_region_held3 (fun w' => w'.cell? ⟨w.heap.size, 0, none⟩ = some (.pointer (some ⟨cb, 0, none⟩)) ∧ w'.cell? ⟨w.heap.size + 1, 0, none⟩ = some (.func (.func 52) #[] #[.pointer (some ⟨w.heap.size, 0, none⟩)]))
    (first | exact ⟨HJ11.out.cell, HJ11.out.tcell⟩ | exact ⟨HId10.out.cell, HId10.out.tcell⟩)
    (first
      | (go_at_call 62; refine Calls.mono HQ10.out ?_; rintro r w11 ⟨rfl, s13, hs13, ho, hx, hc, ht⟩; have HJ11 := Lib.hid ((Inv1.keepsR g w.heap.size (w.heap.size + 1) cb).tw _ _ ib 50 _ _ HId10.out HCd10.out.rd HXd10.out (by decide) (by decide) ht)))
  have HC11 : Hid (CR cb g z13.2 w11) := hc
  have HX11 : Hid (Blk w11 ib 50 #[.string ⟨z0.1.toArray⟩, .bool (z1.1 != 0), .int .i64 z2.1, .int .i64 z3.1, .int .i64 z4.1, .string ⟨z5.1.toArray⟩, .string ⟨z6.1.toArray⟩, .int .i64 z7.1, .slice s8.A s8.xs.length s8.c, .slice s9.A s9.xs.length s9.c, .slice s10.A s10.xs.length s10.c, .slice s11.A s11.xs.length s11.c, .slice s12.A s12.xs.length s12.c, .slice s13.A s13.xs.length s13.c, .slice none 0 0, .slice none 0 0, .int .i64 0, .slice none 0 0, .slice none 0 0, .slice none 0 0, .slice none 0 0, .slice none 0 0, .slice none 0 0, .slice none 0 0, .slice none 0 0, .slice none 0 0]) := hx
  have HT11 : Hid (Tw g ib w w11) := HTd10.out.trans ht
  have HI11 : Hid (Inv1 w.heap.size (w.heap.size + 1) cb w11) := HJ11
  have HF11 := Lib.hid (fun (w' : World) (h : Tw g ib w11 w') => And.intro (HF10.out w' ((HSt10.out.trans ht).trans h)) (own_tw (own_zero ho) hc.rd (by decide) hx (by decide) h))
  have HS13 := Lib.hid hs13
  clear ho hs13
  clear hc hx ht HQ10 HCd10 HXd10 HTd10 HId10 HSt10 HJ11 hc10 HC10 HX10 HT10 HI10 HF10 ht10
  have HCd11 : Hid (CR cb g z13.2 w11.drew) := HC11.out.drew
  have HXd11 : Hid (Blk w11.drew ib 50 #[.string ⟨z0.1.toArray⟩, .bool (z1.1 != 0), .int .i64 z2.1, .int .i64 z3.1, .int .i64 z4.1, .string ⟨z5.1.toArray⟩, .string ⟨z6.1.toArray⟩, .int .i64 z7.1, .slice s8.A s8.xs.length s8.c, .slice s9.A s9.xs.length s9.c, .slice s10.A s10.xs.length s10.c, .slice s11.A s11.xs.length s11.c, .slice s12.A s12.xs.length s12.c, .slice s13.A s13.xs.length s13.c, .slice none 0 0, .slice none 0 0, .int .i64 0, .slice none 0 0, .slice none 0 0, .slice none 0 0, .slice none 0 0, .slice none 0 0, .slice none 0 0, .slice none 0 0, .slice none 0 0, .slice none 0 0]) := HX11.out
  have HId11 : Hid (Inv1 w.heap.size (w.heap.size + 1) cb w11.drew) := Lib.hid ((Inv1.keepsR g w.heap.size (w.heap.size + 1) cb).below _ _ HI11.out (Below.drew (Below.refl _ _)))
  have HTd11 : Hid (Tw g ib w w11.drew) := HT11.out.drew
  have HSt11 : Hid (Tw g ib w11 w11.drew) := (Tw.refl g ib w11).drew
  have HQ11 := Lib.hid (listInt__r (cb := cb) (g := g) (ib := ib) (off := 14) (w := w11.drew) (ti := 50) (st := z13.2) (Inv0 w.heap.size cb) ⟨w.heap.size, 0, none⟩ (Inv0.keepsR g w.heap.size cb) HId11.out.1 HCd11.out HG13.out (by omega) HXd11.out (by decide) (by decide) (by decide) hxc hxg rfl (fun wx sx xb2 i2 c2 g2 l2 b2 k2 n2 => cloInt__r xb2 i2 c2 g2 l2 b2 k2 n2))
  unfold GotListInt_ at HQ11
  rw [← HZ14.out] at HQ11
  have hc11 := HI11.out.cell
  have ht11 := HI11.out.tcell
  go_wp2_with fail
  go_region_held3 (fun w' => w'.cell? ⟨w.heap.size, 0, none⟩ = some (.pointer (some ⟨cb, 0, none⟩)) ∧ w'.cell? ⟨w.heap.size + 1, 0, none⟩ = some (.func (.func 52) #[] #[.pointer (some ⟨w.heap.size, 0, none⟩)]))
    (first | exact ⟨HJ12.out.cell, HJ12.out.tcell⟩ | exact ⟨HId11.out.cell, HId11.out.tcell⟩)
    (first
      | (go_at_call 61; refine Calls.mono HQ11.out ?_; rintro r w12 ⟨rfl, s14, hs14, ho, hx, hc, ht⟩; have HJ12 := Lib.hid ((Inv1.keepsR g w.heap.size (w.heap.size + 1) cb).tw _ _ ib 50 _ _ HId11.out HCd11.out.rd HXd11.out (by decide) (by decide) ht)))
  have HC12 : Hid (CR cb g z14.2 w12) := hc
  have HX12 : Hid (Blk w12 ib 50 #[.string ⟨z0.1.toArray⟩, .bool (z1.1 != 0), .int .i64 z2.1, .int .i64 z3.1, .int .i64 z4.1, .string ⟨z5.1.toArray⟩, .string ⟨z6.1.toArray⟩, .int .i64 z7.1, .slice s8.A s8.xs.length s8.c, .slice s9.A s9.xs.length s9.c, .slice s10.A s10.xs.length s10.c, .slice s11.A s11.xs.length s11.c, .slice s12.A s12.xs.length s12.c, .slice s13.A s13.xs.length s13.c, .slice s14.A s14.xs.length s14.c, .slice none 0 0, .int .i64 0, .slice none 0 0, .slice none 0 0, .slice none 0 0, .slice none 0 0, .slice none 0 0, .slice none 0 0, .slice none 0 0, .slice none 0 0, .slice none 0 0]) := hx
  have HT12 : Hid (Tw g ib w w12) := HTd11.out.trans ht
  have HI12 : Hid (Inv1 w.heap.size (w.heap.size + 1) cb w12) := HJ12
  have HF12 := Lib.hid (fun (w' : World) (h : Tw g ib w12 w') => And.intro (HF11.out w' ((HSt11.out.trans ht).trans h)) (own_tw (own_zero ho) hc.rd (by decide) hx (by decide) h))
  have HS14 := Lib.hid hs14
  clear ho hs14
  clear hc hx ht HQ11 HCd11 HXd11 HTd11 HId11 HSt11 HJ12 hc11 HC11 HX11 HT11 HI11 HF11 ht11
  have HCd12 : Hid (CR cb g z14.2 w12.drew) := HC12.out.drew
  have HXd12 : Hid (Blk w12.drew ib 50 #[.string ⟨z0.1.toArray⟩, .bool (z1.1 != 0), .int .i64 z2.1, .int .i64 z3.1, .int .i64 z4.1, .string ⟨z5.1.toArray⟩, .string ⟨z6.1.toArray⟩, .int .i64 z7.1, .slice s8.A s8.xs.length s8.c, .slice s9.A s9.xs.length s9.c, .slice s10.A s10.xs.length s10.c, .slice s11.A s11.xs.length s11.c, .slice s12.A s12.xs.length s12.c, .slice s13.A s13.xs.length s13.c, .slice s14.A s14.xs.length s14.c, .slice none 0 0, .int .i64 0, .slice none 0 0, .slice none 0 0, .slice none 0 0, .slice none 0 0, .slice none 0 0, .slice none 0 0, .slice none 0 0, .slice none 0 0, .slice none 0 0]) := HX12.out
  have HId12 : Hid (Inv1 w.heap.size (w.heap.size + 1) cb w12.drew) := Lib.hid ((Inv1.keepsR g w.heap.size (w.heap.size + 1) cb).below _ _ HI12.out (Below.drew (Below.refl _ _)))
  have HTd12 : Hid (Tw g ib w w12.drew) := HT12.out.drew
  have HSt12 : Hid (Tw g ib w12 w12.drew) := (Tw.refl g ib w12).drew
  have HQ12 := Lib.hid (listInt__r (cb := cb) (g := g) (ib := ib) (off := 15) (w := w12.drew) (ti := 50) (st := z14.2) (Inv0 w.heap.size cb) ⟨w.heap.size, 0, none⟩ (Inv0.keepsR g w.heap.size cb) HId12.out.1 HCd12.out HG14.out (by omega) HXd12.out (by decide) (by decide) (by decide) hxc hxg rfl (fun wx sx xb2 i2 c2 g2 l2 b2 k2 n2 => cloInt__r xb2 i2 c2 g2 l2 b2 k2 n2))
  unfold GotListInt_ at HQ12
  rw [← HZ15.out] at HQ12
  have hc12 := HI12.out.cell
  have ht12 := HI12.out.tcell
  go_wp2_with fail
  go_region_held3 (fun w' => w'.cell? ⟨w.heap.size, 0, none⟩ = some (.pointer (some ⟨cb, 0, none⟩)) ∧ w'.cell? ⟨w.heap.size + 1, 0, none⟩ = some (.func (.func 52) #[] #[.pointer (some ⟨w.heap.size, 0, none⟩)]))
    (first | exact ⟨HJ13.out.cell, HJ13.out.tcell⟩ | exact ⟨HId12.out.cell, HId12.out.tcell⟩)
    (first
      | (go_at_call 61; refine Calls.mono HQ12.out ?_; rintro r w13 ⟨rfl, s15, hs15, ho, hx, hc, ht⟩; have HJ13 := Lib.hid ((Inv1.keepsR g w.heap.size (w.heap.size + 1) cb).tw _ _ ib 50 _ _ HId12.out HCd12.out.rd HXd12.out (by decide) (by decide) ht)))
  have HC13 : Hid (CR cb g z15.2 w13) := hc
  have HX13 : Hid (Blk w13 ib 50 #[.string ⟨z0.1.toArray⟩, .bool (z1.1 != 0), .int .i64 z2.1, .int .i64 z3.1, .int .i64 z4.1, .string ⟨z5.1.toArray⟩, .string ⟨z6.1.toArray⟩, .int .i64 z7.1, .slice s8.A s8.xs.length s8.c, .slice s9.A s9.xs.length s9.c, .slice s10.A s10.xs.length s10.c, .slice s11.A s11.xs.length s11.c, .slice s12.A s12.xs.length s12.c, .slice s13.A s13.xs.length s13.c, .slice s14.A s14.xs.length s14.c, .slice s15.A s15.xs.length s15.c, .int .i64 0, .slice none 0 0, .slice none 0 0, .slice none 0 0, .slice none 0 0, .slice none 0 0, .slice none 0 0, .slice none 0 0, .slice none 0 0, .slice none 0 0]) := hx
  have HT13 : Hid (Tw g ib w w13) := HTd12.out.trans ht
  have HI13 : Hid (Inv1 w.heap.size (w.heap.size + 1) cb w13) := HJ13
  have HF13 := Lib.hid (fun (w' : World) (h : Tw g ib w13 w') => And.intro (HF12.out w' ((HSt12.out.trans ht).trans h)) (own_tw (own_zero ho) hc.rd (by decide) hx (by decide) h))
  have HS15 := Lib.hid hs15
  clear ho hs15
  clear hc hx ht HQ12 HCd12 HXd12 HTd12 HId12 HSt12 HJ13 hc12 HC12 HX12 HT12 HI12 HF12 ht12
  have HCd13 : Hid (CR cb g z15.2 w13.drew) := HC13.out.drew
  have HXd13 : Hid (Blk w13.drew ib 50 #[.string ⟨z0.1.toArray⟩, .bool (z1.1 != 0), .int .i64 z2.1, .int .i64 z3.1, .int .i64 z4.1, .string ⟨z5.1.toArray⟩, .string ⟨z6.1.toArray⟩, .int .i64 z7.1, .slice s8.A s8.xs.length s8.c, .slice s9.A s9.xs.length s9.c, .slice s10.A s10.xs.length s10.c, .slice s11.A s11.xs.length s11.c, .slice s12.A s12.xs.length s12.c, .slice s13.A s13.xs.length s13.c, .slice s14.A s14.xs.length s14.c, .slice s15.A s15.xs.length s15.c, .int .i64 0, .slice none 0 0, .slice none 0 0, .slice none 0 0, .slice none 0 0, .slice none 0 0, .slice none 0 0, .slice none 0 0, .slice none 0 0, .slice none 0 0]) := HX13.out
  have HId13 : Hid (Inv1 w.heap.size (w.heap.size + 1) cb w13.drew) := Lib.hid ((Inv1.keepsR g w.heap.size (w.heap.size + 1) cb).below _ _ HI13.out (Below.drew (Below.refl _ _)))
  have HTd13 : Hid (Tw g ib w w13.drew) := HT13.out.drew
  have HSt13 : Hid (Tw g ib w13 w13.drew) := (Tw.refl g ib w13).drew
  have hq13 := ints_rn (cb := cb) (g := g) (xb := ib) (w := w13.drew) (T := 50) [16] HCd13.out HXd13.out hxc hxg (by simp) (by simp) (by omega)
  simp only [rIs, ← HZ16.out, List.setIfInBounds_toArray, List.set_cons_zero, List.set_cons_succ, List.map_cons, List.map_nil, List.length_cons, List.length_nil, Nat.zero_add, Nat.reduceAdd] at hq13
  have HQ13 := Lib.hid hq13
  clear hq13
  unfold GetPost at HQ13
  have hc13 := HI13.out.cell
  have ht13 := HI13.out.tcell
  go_wp2_with fail
  go_region_held3 (fun w' => w'.cell? ⟨w.heap.size, 0, none⟩ = some (.pointer (some ⟨cb, 0, none⟩)) ∧ w'.cell? ⟨w.heap.size + 1, 0, none⟩ = some (.func (.func 52) #[] #[.pointer (some ⟨w.heap.size, 0, none⟩)]))
    (first | exact ⟨HJ14.out.cell, HJ14.out.tcell⟩ | exact ⟨HId13.out.cell, HId13.out.tcell⟩ | exact ⟨((Inv1.keepsR g w.heap.size (w.heap.size + 1) cb).below _ _ HId13.out ((Below.refl _ _).alloc (Nat.le_refl _) (.cells #[.pointer (some ⟨ib, 16, none⟩)] 105))).cell, ((Inv1.keepsR g w.heap.size (w.heap.size + 1) cb).below _ _ HId13.out ((Below.refl _ _).alloc (Nat.le_refl _) (.cells #[.pointer (some ⟨ib, 16, none⟩)] 105))).tcell⟩)
    (first
      | (go_at_call 51; refine Calls.mono HQ13.out ?_; rintro r w14 ⟨rfl, hc, hx, ht⟩; have HJ14 := Lib.hid ((Inv1.keepsR g w.heap.size (w.heap.size + 1) cb).tw _ _ ib 50 _ _ HId13.out HCd13.out.rd HXd13.out (by decide) (by decide) ht)))
  have HC14 : Hid (CR cb g z16.2 w14) := hc
  have HX14 : Hid (Blk w14 ib 50 #[.string ⟨z0.1.toArray⟩, .bool (z1.1 != 0), .int .i64 z2.1, .int .i64 z3.1, .int .i64 z4.1, .string ⟨z5.1.toArray⟩, .string ⟨z6.1.toArray⟩, .int .i64 z7.1, .slice s8.A s8.xs.length s8.c, .slice s9.A s9.xs.length s9.c, .slice s10.A s10.xs.length s10.c, .slice s11.A s11.xs.length s11.c, .slice s12.A s12.xs.length s12.c, .slice s13.A s13.xs.length s13.c, .slice s14.A s14.xs.length s14.c, .slice s15.A s15.xs.length s15.c, .int .i64 z16.1, .slice none 0 0, .slice none 0 0, .slice none 0 0, .slice none 0 0, .slice none 0 0, .slice none 0 0, .slice none 0 0, .slice none 0 0, .slice none 0 0]) := hx
  have HT14 : Hid (Tw g ib w w14) := HTd13.out.trans ht
  have HI14 : Hid (Inv1 w.heap.size (w.heap.size + 1) cb w14) := HJ14
  have HF14 := Lib.hid (fun (w' : World) (h : Tw g ib w14 w') => HF13.out w' ((HSt13.out.trans ht).trans h))
  clear hc hx ht HQ13 HCd13 HXd13 HTd13 HId13 HSt13 HJ14 hc13 HC13 HX13 HT13 HI13 HF13 ht13
  have HCd14 : Hid (CR cb g z16.2 w14.drew) := HC14.out.drew
  have HXd14 : Hid (Blk w14.drew ib 50 #[.string ⟨z0.1.toArray⟩, .bool (z1.1 != 0), .int .i64 z2.1, .int .i64 z3.1, .int .i64 z4.1, .string ⟨z5.1.toArray⟩, .string ⟨z6.1.toArray⟩, .int .i64 z7.1, .slice s8.A s8.xs.length s8.c, .slice s9.A s9.xs.length s9.c, .slice s10.A s10.xs.length s10.c, .slice s11.A s11.xs.length s11.c, .slice s12.A s12.xs.length s12.c, .slice s13.A s13.xs.length s13.c, .slice s14.A s14.xs.length s14.c, .slice s15.A s15.xs.length s15.c, .int .i64 z16.1, .slice none 0 0, .slice none 0 0, .slice none 0 0, .slice none 0 0, .slice none 0 0, .slice none 0 0, .slice none 0 0, .slice none 0 0, .slice none 0 0]) := HX14.out
  have HId14 : Hid (Inv1 w.heap.size (w.heap.size + 1) cb w14.drew) := Lib.hid ((Inv1.keepsR g w.heap.size (w.heap.size + 1) cb).below _ _ HI14.out (Below.drew (Below.refl _ _)))
  have HTd14 : Hid (Tw g ib w w14.drew) := HT14.out.drew
  have HSt14 : Hid (Tw g ib w14 w14.drew) := (Tw.refl g ib w14).drew
  have HQ14 := Lib.hid (listStr_r (cb := cb) (g := g) (ib := ib) (off := 17) (w := w14.drew) (ti := 50) (st := z16.2) (Inv0 w.heap.size cb) ⟨w.heap.size, 0, none⟩ (Inv0.keepsR g w.heap.size cb) HId14.out.1 HCd14.out HG16.out (by omega) HXd14.out (by decide) (by decide) (by decide) hxc hxg rfl (fun wx sx xb2 i2 c2 g2 l2 b2 k2 n2 => cloStr_r xb2 i2 c2 g2 l2 b2 k2 n2))
  unfold GotListStr at HQ14
  rw [← HZ17.out] at HQ14
  have hc14 := HI14.out.cell
  have ht14 := HI14.out.tcell
  go_wp2_with fail
  go_region_held3 (fun w' => w'.cell? ⟨w.heap.size, 0, none⟩ = some (.pointer (some ⟨cb, 0, none⟩)) ∧ w'.cell? ⟨w.heap.size + 1, 0, none⟩ = some (.func (.func 52) #[] #[.pointer (some ⟨w.heap.size, 0, none⟩)]))
    (first | exact ⟨HJ15.out.cell, HJ15.out.tcell⟩ | exact ⟨HId14.out.cell, HId14.out.tcell⟩)
    (first
      | (go_at_call 64; refine Calls.mono HQ14.out ?_; rintro r w15 ⟨rfl, s17, hs17, ho, hx, hc, ht⟩; have HJ15 := Lib.hid ((Inv1.keepsR g w.heap.size (w.heap.size + 1) cb).tw _ _ ib 50 _ _ HId14.out HCd14.out.rd HXd14.out (by decide) (by decide) ht)))
  have HC15 : Hid (CR cb g z17.2 w15) := hc
  have HX15 : Hid (Blk w15 ib 50 #[.string ⟨z0.1.toArray⟩, .bool (z1.1 != 0), .int .i64 z2.1, .int .i64 z3.1, .int .i64 z4.1, .string ⟨z5.1.toArray⟩, .string ⟨z6.1.toArray⟩, .int .i64 z7.1, .slice s8.A s8.xs.length s8.c, .slice s9.A s9.xs.length s9.c, .slice s10.A s10.xs.length s10.c, .slice s11.A s11.xs.length s11.c, .slice s12.A s12.xs.length s12.c, .slice s13.A s13.xs.length s13.c, .slice s14.A s14.xs.length s14.c, .slice s15.A s15.xs.length s15.c, .int .i64 z16.1, .slice s17.A s17.xs.length s17.c, .slice none 0 0, .slice none 0 0, .slice none 0 0, .slice none 0 0, .slice none 0 0, .slice none 0 0, .slice none 0 0, .slice none 0 0]) := hx
  have HT15 : Hid (Tw g ib w w15) := HTd14.out.trans ht
  have HI15 : Hid (Inv1 w.heap.size (w.heap.size + 1) cb w15) := HJ15
  have HF15 := Lib.hid (fun (w' : World) (h : Tw g ib w15 w') => And.intro (HF14.out w' ((HSt14.out.trans ht).trans h)) (own_tw (own_zero ho) hc.rd (by decide) hx (by decide) h))
  have HS17 := Lib.hid hs17
  clear ho hs17
  clear hc hx ht HQ14 HCd14 HXd14 HTd14 HId14 HSt14 HJ15 hc14 HC14 HX14 HT14 HI14 HF14 ht14
  have HCd15 : Hid (CR cb g z17.2 w15.drew) := HC15.out.drew
  have HXd15 : Hid (Blk w15.drew ib 50 #[.string ⟨z0.1.toArray⟩, .bool (z1.1 != 0), .int .i64 z2.1, .int .i64 z3.1, .int .i64 z4.1, .string ⟨z5.1.toArray⟩, .string ⟨z6.1.toArray⟩, .int .i64 z7.1, .slice s8.A s8.xs.length s8.c, .slice s9.A s9.xs.length s9.c, .slice s10.A s10.xs.length s10.c, .slice s11.A s11.xs.length s11.c, .slice s12.A s12.xs.length s12.c, .slice s13.A s13.xs.length s13.c, .slice s14.A s14.xs.length s14.c, .slice s15.A s15.xs.length s15.c, .int .i64 z16.1, .slice s17.A s17.xs.length s17.c, .slice none 0 0, .slice none 0 0, .slice none 0 0, .slice none 0 0, .slice none 0 0, .slice none 0 0, .slice none 0 0, .slice none 0 0]) := HX15.out
  have HId15 : Hid (Inv1 w.heap.size (w.heap.size + 1) cb w15.drew) := Lib.hid ((Inv1.keepsR g w.heap.size (w.heap.size + 1) cb).below _ _ HI15.out (Below.drew (Below.refl _ _)))
  have HTd15 : Hid (Tw g ib w w15.drew) := HT15.out.drew
  have HSt15 : Hid (Tw g ib w15 w15.drew) := (Tw.refl g ib w15).drew
  have HQ15 := Lib.hid (listVerDef_r (cb := cb) (g := g) (ib := ib) (off := 18) (w := w15.drew) (ti := 50) (st := z17.2) (Inv1 w.heap.size (w.heap.size + 1) cb) ⟨⟨w.heap.size, 0, none⟩, ⟨w.heap.size + 1, 0, none⟩⟩ (Inv1.keepsR g w.heap.size (w.heap.size + 1) cb) HId15.out HCd15.out HG17.out (by omega) HXd15.out (by decide) (by decide) (by decide) (by decide) hxc hxg rfl (fun wx sx xb2 i2 c2 g2 l2 b2 k2 n2 => cloVerDef_r xb2 i2 c2 g2 l2 b2 k2 n2))
  unfold GotListVerDef at HQ15
  rw [← HZ18.out] at HQ15
  have hc15 := HI15.out.cell
  have ht15 := HI15.out.tcell
  go_wp2_with fail
  go_region_held3 (fun w' => w'.cell? ⟨w.heap.size, 0, none⟩ = some (.pointer (some ⟨cb, 0, none⟩)) ∧ w'.cell? ⟨w.heap.size + 1, 0, none⟩ = some (.func (.func 52) #[] #[.pointer (some ⟨w.heap.size, 0, none⟩)]))
    (first | exact ⟨HJ16.out.cell, HJ16.out.tcell⟩ | exact ⟨HId15.out.cell, HId15.out.tcell⟩)
    (first
      | (go_at_call 65; refine Calls.mono HQ15.out ?_; rintro r w16 ⟨rfl, s18, hs18, ho, hx, hc, ht, hn⟩; have HJ16 := Lib.hid ((Inv1.keepsR g w.heap.size (w.heap.size + 1) cb).tw _ _ ib 50 _ _ HId15.out HCd15.out.rd HXd15.out (by decide) (by decide) ht)))
  have HC16 : Hid (CR cb g z18.2 w16) := hc
  have HX16 : Hid (Blk w16 ib 50 #[.string ⟨z0.1.toArray⟩, .bool (z1.1 != 0), .int .i64 z2.1, .int .i64 z3.1, .int .i64 z4.1, .string ⟨z5.1.toArray⟩, .string ⟨z6.1.toArray⟩, .int .i64 z7.1, .slice s8.A s8.xs.length s8.c, .slice s9.A s9.xs.length s9.c, .slice s10.A s10.xs.length s10.c, .slice s11.A s11.xs.length s11.c, .slice s12.A s12.xs.length s12.c, .slice s13.A s13.xs.length s13.c, .slice s14.A s14.xs.length s14.c, .slice s15.A s15.xs.length s15.c, .int .i64 z16.1, .slice s17.A s17.xs.length s17.c, .slice s18.A s18.xs.length s18.c, .slice none 0 0, .slice none 0 0, .slice none 0 0, .slice none 0 0, .slice none 0 0, .slice none 0 0, .slice none 0 0]) := hx
  have HT16 : Hid (Tw g ib w w16) := HTd15.out.trans ht
  have HI16 : Hid (Inv1 w.heap.size (w.heap.size + 1) cb w16) := HJ16
  have HF16 := Lib.hid (fun (w' : World) (h : Tw g ib w16 w') => And.intro (HF15.out w' ((HSt15.out.trans ht).trans h)) (And.intro (own_tw (own_zero ho) hc.rd (by decide) hx (by decide) h) (fun y hy => own_tw (hn y hy) hc.rd (by decide) hx (by decide) h)))
  have HS18 := Lib.hid hs18
  clear ho hs18 hn
  clear hc hx ht HQ15 HCd15 HXd15 HTd15 HId15 HSt15 HJ16 hc15 HC15 HX15 HT15 HI15 HF15 ht15
  have HCd16 : Hid (CR cb g z18.2 w16.drew) := HC16.out.drew
  have HXd16 : Hid (Blk w16.drew ib 50 #[.string ⟨z0.1.toArray⟩, .bool (z1.1 != 0), .int .i64 z2.1, .int .i64 z3.1, .int .i64 z4.1, .string ⟨z5.1.toArray⟩, .string ⟨z6.1.toArray⟩, .int .i64 z7.1, .slice s8.A s8.xs.length s8.c, .slice s9.A s9.xs.length s9.c, .slice s10.A s10.xs.length s10.c, .slice s11.A s11.xs.length s11.c, .slice s12.A s12.xs.length s12.c, .slice s13.A s13.xs.length s13.c, .slice s14.A s14.xs.length s14.c, .slice s15.A s15.xs.length s15.c, .int .i64 z16.1, .slice s17.A s17.xs.length s17.c, .slice s18.A s18.xs.length s18.c, .slice none 0 0, .slice none 0 0, .slice none 0 0, .slice none 0 0, .slice none 0 0, .slice none 0 0, .slice none 0 0]) := HX16.out
  have HId16 : Hid (Inv1 w.heap.size (w.heap.size + 1) cb w16.drew) := Lib.hid ((Inv1.keepsR g w.heap.size (w.heap.size + 1) cb).below _ _ HI16.out (Below.drew (Below.refl _ _)))
  have HTd16 : Hid (Tw g ib w w16.drew) := HT16.out.drew
  have HSt16 : Hid (Tw g ib w16 w16.drew) := (Tw.refl g ib w16).drew
  have HQ16 := Lib.hid (info_r (cb := cb) (g := g) (ib := ib) (w := w16.drew) (st := z18.2) (.string ⟨z0.1.toArray⟩) (.bool (z1.1 != 0)) (.int .i64 z2.1) (.int .i64 z3.1) (.int .i64 z4.1) (.string ⟨z5.1.toArray⟩) (.string ⟨z6.1.toArray⟩) (.int .i64 z7.1) (.slice s8.A s8.xs.length s8.c) (.slice s9.A s9.xs.length s9.c) (.slice s10.A s10.xs.length s10.c) (.slice s11.A s11.xs.length s11.c) (.slice s12.A s12.xs.length s12.c) (.slice s13.A s13.xs.length s13.c) (.slice s14.A s14.xs.length s14.c) (.slice s15.A s15.xs.length s15.c) (.int .i64 z16.1) (.slice s17.A s17.xs.length s17.c) (.slice s18.A s18.xs.length s18.c) (.slice none 0 0) HCd16.out HG18.out (by omega) HXd16.out hxc hxg)
  unfold InfoGot at HQ16
  rw [← HZi.out] at HQ16
  have hc16 := HI16.out.cell
  have ht16 := HI16.out.tcell
  go_wp2_with fail
  go_region_held3 (fun w' => w'.cell? ⟨w.heap.size, 0, none⟩ = some (.pointer (some ⟨cb, 0, none⟩)) ∧ w'.cell? ⟨w.heap.size + 1, 0, none⟩ = some (.func (.func 52) #[] #[.pointer (some ⟨w.heap.size, 0, none⟩)]))
    (first | exact ⟨HJ17.out.cell, HJ17.out.tcell⟩ | exact ⟨HId16.out.cell, HId16.out.tcell⟩)
    (first
      | (go_at_call 67; refine Calls.mono HQ16.out ?_; rintro r w17 ⟨rfl, s19, s20, s21, s22, s23, s24, hsi, hc, hx, ht, ho19, ho20, ho21, ho22, ho23, ho24⟩; have HJ17 := Lib.hid ((Inv1.keepsR g w.heap.size (w.heap.size + 1) cb).tw _ _ ib 50 _ _ HId16.out HCd16.out.rd HXd16.out (by decide) (by decide) ht)))
  have HC17 : Hid (CR cb g zi.2 w17) := hc
  have HX17 : Hid (Blk w17 ib 50 #[.string ⟨z0.1.toArray⟩, .bool (z1.1 != 0), .int .i64 z2.1, .int .i64 z3.1, .int .i64 z4.1, .string ⟨z5.1.toArray⟩, .string ⟨z6.1.toArray⟩, .int .i64 z7.1, .slice s8.A s8.xs.length s8.c, .slice s9.A s9.xs.length s9.c, .slice s10.A s10.xs.length s10.c, .slice s11.A s11.xs.length s11.c, .slice s12.A s12.xs.length s12.c, .slice s13.A s13.xs.length s13.c, .slice s14.A s14.xs.length s14.c, .slice s15.A s15.xs.length s15.c, .int .i64 z16.1, .slice s17.A s17.xs.length s17.c, .slice s18.A s18.xs.length s18.c, .slice s19.A s19.xs.length s19.c, .slice s20.A s20.xs.length s20.c, .slice s21.A s21.xs.length s21.c, .slice s22.A s22.xs.length s22.c, .slice s23.A s23.xs.length s23.c, .slice s24.A s24.xs.length s24.c, .slice none 0 0]) := hx
  have HT17 : Hid (Tw g ib w w17) := HTd16.out.trans ht
  have HI17 : Hid (Inv1 w.heap.size (w.heap.size + 1) cb w17) := HJ17
  have HF17 := Lib.hid (fun (w' : World) (h : Tw g ib w17 w') => And.intro (HF16.out w' ((HSt16.out.trans ht).trans h)) ((And.intro (own_tw ho19 hc.rd (by decide) hx (by decide) h) (And.intro (own_tw ho20 hc.rd (by decide) hx (by decide) h) (And.intro (own_tw ho21 hc.rd (by decide) hx (by decide) h) (And.intro (own_tw ho22 hc.rd (by decide) hx (by decide) h) (And.intro (own_tw ho23 hc.rd (by decide) hx (by decide) h) (own_tw ho24 hc.rd (by decide) hx (by decide) h))))))))
  have HSi := Lib.hid hsi
  clear hsi ho19 ho20 ho21 ho22 ho23 ho24
  clear hc hx ht HQ16 HCd16 HXd16 HTd16 HId16 HSt16 HJ17 hc16 HC16 HX16 HT16 HI16 HF16 ht16
  have HCd17 : Hid (CR cb g zi.2 w17.drew) := HC17.out.drew
  have HXd17 : Hid (Blk w17.drew ib 50 #[.string ⟨z0.1.toArray⟩, .bool (z1.1 != 0), .int .i64 z2.1, .int .i64 z3.1, .int .i64 z4.1, .string ⟨z5.1.toArray⟩, .string ⟨z6.1.toArray⟩, .int .i64 z7.1, .slice s8.A s8.xs.length s8.c, .slice s9.A s9.xs.length s9.c, .slice s10.A s10.xs.length s10.c, .slice s11.A s11.xs.length s11.c, .slice s12.A s12.xs.length s12.c, .slice s13.A s13.xs.length s13.c, .slice s14.A s14.xs.length s14.c, .slice s15.A s15.xs.length s15.c, .int .i64 z16.1, .slice s17.A s17.xs.length s17.c, .slice s18.A s18.xs.length s18.c, .slice s19.A s19.xs.length s19.c, .slice s20.A s20.xs.length s20.c, .slice s21.A s21.xs.length s21.c, .slice s22.A s22.xs.length s22.c, .slice s23.A s23.xs.length s23.c, .slice s24.A s24.xs.length s24.c, .slice none 0 0]) := HX17.out
  have HId17 : Hid (Inv1 w.heap.size (w.heap.size + 1) cb w17.drew) := Lib.hid ((Inv1.keepsR g w.heap.size (w.heap.size + 1) cb).below _ _ HI17.out (Below.drew (Below.refl _ _)))
  have HTd17 : Hid (Tw g ib w w17.drew) := HT17.out.drew
  have HSt17 : Hid (Tw g ib w17 w17.drew) := (Tw.refl g ib w17).drew
  have HQ17 := Lib.hid (listConv_r (cb := cb) (g := g) (ib := ib) (off := 25) (w := w17.drew) (ti := 50) (st := zi.2) (Inv0 w.heap.size cb) ⟨w.heap.size, 0, none⟩ (Inv0.keepsR g w.heap.size cb) HId17.out.1 HCd17.out HGi.out (by omega) HXd17.out (by decide) (by decide) (by decide) (by decide) hxc hxg rfl (fun wx sx xb2 i2 c2 g2 l2 b2 k2 n2 => cloConv_r xb2 i2 c2 g2 l2 b2 k2 n2))
  unfold GotListConv at HQ17
  rw [← HZ25.out] at HQ17
  have hc17 := HI17.out.cell
  have ht17 := HI17.out.tcell
  go_wp2_with fail
  go_region_held3 (fun w' => w'.cell? ⟨w.heap.size, 0, none⟩ = some (.pointer (some ⟨cb, 0, none⟩)) ∧ w'.cell? ⟨w.heap.size + 1, 0, none⟩ = some (.func (.func 52) #[] #[.pointer (some ⟨w.heap.size, 0, none⟩)]))
    (first | exact ⟨HJ18.out.cell, HJ18.out.tcell⟩ | exact ⟨HId17.out.cell, HId17.out.tcell⟩)
    (first
      | (go_at_call 68; refine Calls.mono HQ17.out ?_; rintro r w18 ⟨rfl, s25, hs25, ho, hx, hc, ht, hn⟩; have HJ18 := Lib.hid ((Inv1.keepsR g w.heap.size (w.heap.size + 1) cb).tw _ _ ib 50 _ _ HId17.out HCd17.out.rd HXd17.out (by decide) (by decide) ht)))
  have HC18 : Hid (CR cb g z25.2 w18) := hc
  have HX18 : Hid (Blk w18 ib 50 #[.string ⟨z0.1.toArray⟩, .bool (z1.1 != 0), .int .i64 z2.1, .int .i64 z3.1, .int .i64 z4.1, .string ⟨z5.1.toArray⟩, .string ⟨z6.1.toArray⟩, .int .i64 z7.1, .slice s8.A s8.xs.length s8.c, .slice s9.A s9.xs.length s9.c, .slice s10.A s10.xs.length s10.c, .slice s11.A s11.xs.length s11.c, .slice s12.A s12.xs.length s12.c, .slice s13.A s13.xs.length s13.c, .slice s14.A s14.xs.length s14.c, .slice s15.A s15.xs.length s15.c, .int .i64 z16.1, .slice s17.A s17.xs.length s17.c, .slice s18.A s18.xs.length s18.c, .slice s19.A s19.xs.length s19.c, .slice s20.A s20.xs.length s20.c, .slice s21.A s21.xs.length s21.c, .slice s22.A s22.xs.length s22.c, .slice s23.A s23.xs.length s23.c, .slice s24.A s24.xs.length s24.c, .slice s25.A s25.xs.length s25.c]) := hx
  have HT18 : Hid (Tw g ib w w18) := HTd17.out.trans ht
  have HI18 : Hid (Inv1 w.heap.size (w.heap.size + 1) cb w18) := HJ18
  have HF18 := Lib.hid (fun (w' : World) (h : Tw g ib w18 w') => And.intro (HF17.out w' ((HSt17.out.trans ht).trans h)) (And.intro (own_tw (own_zero ho) hc.rd (by decide) hx (by decide) h) (fun y hy => own_tw (hn y hy) hc.rd (by decide) hx (by decide) h)))
  have HS25 := Lib.hid hs25
  clear ho hs25 hn
  clear hc hx ht HQ17 HCd17 HXd17 HTd17 HId17 HSt17 HJ18 hc17 HC17 HX17 HT17 HI17 HF17 ht17
  obtain ⟨⟨⟨⟨⟨⟨⟨⟨⟨⟨⟨⟨_, r8⟩, r9⟩, r10⟩, r11⟩, r12⟩, r13⟩, r14⟩, r15⟩, r17⟩, ⟨r18, n18⟩⟩, ⟨r19, r20, r21, r22, r23, r24⟩⟩, ⟨r25, n25⟩⟩ := HF18.out _ (Tw.refl g ib _)
  have HS19 := Lib.hid (congrArg InfoP.i19 HSi.out)
  have HS20 := Lib.hid (congrArg InfoP.i20 HSi.out)
  have HS21 := Lib.hid (congrArg InfoP.i21 HSi.out)
  have HS22 := Lib.hid (congrArg InfoP.i22 HSi.out)
  have HS23 := Lib.hid (congrArg InfoP.i23 HSi.out)
  have HS24 := Lib.hid (congrArg InfoP.i24 HSi.out)
  go_wp2
  go_end0
  refine ⟨rfl, ⟨z0.1, z1.1 != 0, z2.1, z3.1, z4.1, z5.1, z6.1, z7.1, s8, s9, s10, s11, s12, s13, s14, s15, z16.1, s17, s18, s19, s20, s21, s22, s23, s24, s25⟩, ?_, HC18.out, HX18.out, HT18.out, ⟨r8, r9, r10, r11, r12, r13, r14, r15, r17, r18, r19, r20, r21, r22, r23, r24, r25, n18, n25⟩⟩
  simp only [ImageD.pl, HS8.out, HS9.out, HS10.out, HS11.out, HS12.out, HS13.out, HS14.out, HS15.out, HS17.out, HS18.out, HS25.out]
  rw [show s19.xs.map MarkD.pl = zi.1.i19 from HS19.out, show s20.xs.map LineD.pl = zi.1.i20 from HS20.out, show s21.xs.map SpanD.pl = zi.1.i21 from HS21.out, show s22.xs.map InlineD.pl = zi.1.i22 from HS22.out, show s23.xs.map VarID.pl = zi.1.i23 from HS23.out, show s24.xs.map DepthD.pl = zi.1.i24 from HS24.out]

end Go.Proofs.YtefgajipakjpeaaDoor
