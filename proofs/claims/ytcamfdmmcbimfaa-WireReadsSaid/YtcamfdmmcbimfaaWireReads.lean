/-
  WireReads: for all strings of at most 400 bytes and all sequences of at most 20 calls, a reader returns what the reference returns, also after it has failed; for all other inputs the small examples hold. No condition.
-/
import Derived.Test.YtcamfdmmcbimfaaRefItems
import Derived.Test.YtcamfdmmcbimfaaWireAgain
namespace Go.Proofs.Ytcamfdmmcbimfaa.wireReads
open Go.ChangeShapes Go.WideShapes Go.ChangeAt Go.RowKit
open Go.ChangeMaps (open_string shut_string)
open Go.Proofs.Ytcamfdmmcbimfaa.wireAgain (rNums_len rTexts_len)

theorem own : ownKnob Try.prog.godebug = none := by kernel_rfl
theorem laidOut : laidOutB Try.prog = true := by kernel_rfl

theorem openNums {H : Type} {enc : TypeId × Value → H} {w : World} {base : Nat} {held : Bool} {r : Reach} {b0 : Nat} {v : Value} {d : DataW H} {p : List MemPlace} (hv : Value.okWide Try.prog w r b0 22 v) (h : DataW.Trod enc Try.prog w base (fun _ => true) held 22 v d p) :
    ∃ (A : Option Addr) (zs : List Int) (c : Nat), v = .slice A zs.length c ∧ zs.length ≤ 9223372036854775807 ∧ Reads w w.heap.size 1 A zs.length (intCells zs) ∧ ∀ z ∈ zs, I64 z := by
  obtain ⟨n, hn⟩ := h
  obtain ⟨a, len, cap, rfl⟩ := okWide_slice Try.underlying22 hv
  exact openInts (by simpa [Value.cells] using hn)

/-- Both readers stand in the same state. -/
structure Both (w : World) (g h : Nat) (s : St) : Prop where
  p : Rd w g s
  q : Q.Rd w h s
theorem Both.below {w w' : World} {g h : Nat} {s : St} (hh : Both w g h s) (hb : Below w.heap.size w w') : Both w' g h s := ⟨Rd.below hh.p hb, Q.Rd.below hh.q hb⟩
theorem Both.one {w w' : World} {g h : Nat} {s t : St} (hh : Both w g h s) (hne : h ≠ g) (ht : RdTo w w' g t) : Q.Rd w' h s := Blk.grown hh.q ht.only (fun e => hne (by injection e))
theorem Both.end_ {w w1 w2 : World} {g h : Nat} {t : St} (hne : h ≠ g) (h1 : RdTo w w1 g t) (h2 : Q.RdTo w1 w2 h t) : Both w2 g h t := ⟨Blk.grown h1.rd h2.only (fun e => hne (by injection e with e; exact e.symm)), h2.rd⟩
theorem belowTwo {w0 w w1 w2 : World} {g h : Nat} {t : St} (hb : Below w0.heap.size w0 w) (hg : w0.heap.size ≤ g) (hh : w0.heap.size ≤ h) (h1 : RdTo w w1 g t) (h2 : Q.RdTo w1 w2 h t) : Below w0.heap.size w0 w2 :=
  (hb.grown h1.only hb.size (fun k hk => by injection hk with hk; omega)).grown h2.only (Nat.le_trans hb.size h1.only.size) (fun k hk => by injection hk with hk; omega)

theorem rItems_rest_le {α : Type} (f : St → α × St) (hr : ∀ s, (f s).2.rest.length ≤ s.rest.length) : ∀ (n : Nat) (s : St), (rItems f n s).2.rest.length ≤ s.rest.length
  | 0, _ => Nat.le_refl _
  | n + 1, s => by
    unfold rItems
    split
    · exact Nat.le_refl _
    · exact Nat.le_trans (rItems_rest_le f hr n _) (hr s)
theorem rList_rest_le {α : Type} (f : St → α × St) (hr : ∀ s, (f s).2.rest.length ≤ s.rest.length) (s : St) : (rList f s).2.rest.length ≤ s.rest.length := by
  unfold rList
  split
  · exact Nat.le_trans (rItems_rest_le f hr _ _) (rNum_rest_le s)
  · exact Nat.le_trans (rItems_rest_le f hr _ _) (rNum_rest_le s)

set_option maxHeartbeats 8000000 in
set_option maxRecDepth 100000 in
theorem walk (a : ByteArray) (b : Value) (w : World) (hsz : a.size ≤ maxLen) (hb : ∃ (A : Option Addr) (zs : List Int) (c : Nat), b = .slice A zs.length c ∧ zs.length ≤ 9223372036854775807 ∧ Reads w w.heap.size 1 A zs.length (intCells zs) ∧ ∀ z ∈ zs, I64 z) :
    Calls Try.prog 5 #[.string a, b] w fun e w' => e = .returned (.bool true) ∧ Below w.heap.size w w' := by
  obtain ⟨A, zs, c, rfl, hzl, hreads, hI⟩ := hb
  obtain ⟨l, rfl⟩ : ∃ l : List UInt8, a = ⟨l.toArray⟩ := ⟨a.data.toList, (Lib.mk_data a).symm⟩
  have htl : l.length ≤ 9223372036854775807 := by
    have h1 : (ByteArray.mk l.toArray).size = l.length := by show l.toArray.size = _; simp
    rw [h1] at hsz
    exact hsz
  clear hsz
  have HR := Lib.hid hreads
  have HI := Lib.hid hI
  clear hreads hI
  go_enter Try.func5, Try.ntmps5
  go_wp2_with fail
  refine (small_any _).mono ?_
  rintro e w1 ⟨rfl, hb1⟩
  by_cases h4 : (400 : Int) < (l.length : Int)
  · go_wp2
    go_ret
    exact ⟨rfl, hb1⟩
  · by_cases h20 : (20 : Int) < (zs.length : Int)
    · go_wp2
      go_ret
      exact ⟨rfl, hb1⟩
    · have h4' : (l.length : Int) ≤ 400 := by omega
      have h5 : decide ((400 : Int) < (l.length : Int)) = false := by simpa using h4
      have h6 : decide ((20 : Int) < (zs.length : Int)) = false := by simpa using h20
      have h20' : (zs.length : Int) ≤ 20 := by omega
      clear h4 h20
      have hO := Open_any l w1
      unfold str at hO
      have HO := Lib.hid hO
      clear hO
      go_wp2_with fail
      refine (HO.out).mono ?_
      rintro e w2 ⟨rfl, hrd, hb2⟩
      have hb02 : Below w.heap.size w w2 := hb1.trans (hb2.mono hb1.size)
      have hgw := hb1.size
      have hgl := Rd.lt hrd
      have hQ := Q.Open_any l w2
      unfold str at hQ
      have HQ := Lib.hid hQ
      clear hb1 hb2 HO hQ
      generalize w1.heap.size = g at hrd hgw hgl
      go_wp2_with fail
      refine (HQ.out).mono ?_
      rintro e w3 ⟨rfl, hrq, hb3⟩
      have hb03 : Below w.heap.size w w3 := hb02.trans (hb3.mono hb02.size)
      have hbo : Both w3 g w2.heap.size ⟨l, false⟩ := ⟨Rd.below hrd hb3, hrq⟩
      have hne : w2.heap.size ≠ g := by omega
      have hhw : w.heap.size ≤ w2.heap.size := hb02.size
      clear hb02 hb3 hrd hrq HQ hgl
      generalize w2.heap.size = h at hbo hne hhw
      have HB3 := Lib.hid hb03
      have HBO := Lib.hid hbo
      clear hb03 hbo
      go_wp2_with fail
      go_loopw [8] (fun vi wr => ∃ (i : Nat) (st : St), vi = .int .i64 i ∧ i ≤ zs.length ∧ st.rest.length ≤ 400 ∧ Below w.heap.size w wr ∧ Both wr g h st) (fun vi _ => zs.length - (intOf vi).toNat)
      case atStart => exact ⟨0, ⟨l, false⟩, rfl, Nat.zero_le _, (by show l.length ≤ 400; omega), HB3.out, HBO.out⟩
      case round =>
        obtain ⟨i, st, rfl, hi, hsl, hbw, hbo⟩ := hrel
        by_cases hil : i < zs.length
        · obtain ⟨b, off, rfl, _, hc⟩ := (HR.out.below hbw).lit (by omega) (by decide)
          have c0 : wr.cell? ⟨b, off + i, none⟩ = some (.int .i64 (zs[i]'hil)) := hc i _ (by simp [intCells, hil])
          have hIz := HI.out _ (List.getElem_mem hil)
          have HK := Lib.hid (kind_any (zs[i]'hil) (.int .i64 0) (.string ByteArray.empty) (.slice none 0 0) (.slice none 0 0) hIz)
          have hcs := kindOf_cases (zs[i]'hil)
          clear hc hIz
          generalize zs[i]'hil = z at c0 HK hcs
          generalize (kindOf z : Int) = kd at HK hcs
          have HBW := Lib.hid hbw
          have HBH := Lib.hid hbo
          clear hbw hbo
          go_wp2_with fail
          refine (HK.out _).mono ?_
          rintro e w4 ⟨rfl, hb4⟩
          have HB4 := Lib.hid (HBW.out.trans (hb4.mono HBW.out.size))
          have HS4 := Lib.hid (HBH.out.below hb4)
          clear hb4 HK HBW HBH c0
          rcases hcs with rfl | rfl | rfl | rfl | rfl
          · have hle : (rNum st).2.rest.length ≤ 400 := Nat.le_trans (rNum_rest_le st) hsl
            have h1 := rNum_any g st w4 HS4.out.p (by omega)
            have h2 := fun (w5 : World) (hq : Q.Rd w5 h st) => Q.rNum_any h st w5 hq (by omega)
            have H1 := Lib.hid h1
            have H2 := Lib.hid h2
            clear h1 h2
            generalize (((rNum st).1 : Nat) : Int) = x at H1 H2
            generalize (rNum st).2 = t at H1 H2 hle
            go_wp2_with fail
            refine (H1.out).mono ?_
            rintro e w5 ⟨rfl, hto⟩
            have H25 := Lib.hid (H2.out w5 (HS4.out.one hne hto))
            have HTO := Lib.hid hto
            clear hto H1 H2
            go_wp2_with fail
            refine (H25.out).mono ?_
            rintro e wt ⟨rfl, hto2⟩
            have HE := Lib.hid (Both.end_ hne HTO.out hto2)
            have HBT := Lib.hid (belowTwo HB4.out hgw hhw HTO.out hto2)
            clear hto2 H25 HTO HB4 HS4
            have HL := Lib.hid (Left_any g _ wt HE.out.p)
            have HLQ := Lib.hid (Q.Left_any h _ wt HE.out.q)
            have HD := Lib.hid (Done_any g _ wt HE.out.p)
            have HDQ := Lib.hid (Q.Done_any h _ wt HE.out.q)
            go_wp2_with fail
            refine (HL.out).mono ?_
            rintro e w' ⟨rfl, rfl⟩
            go_wp2_with fail
            refine (HLQ.out).mono ?_
            rintro e w' ⟨rfl, rfl⟩
            go_wp2_with fail
            refine (HD.out).mono ?_
            rintro e w' ⟨rfl, rfl⟩
            go_wp2_with fail
            refine (HDQ.out).mono ?_
            rintro e w' ⟨rfl, rfl⟩
            generalize (!t.bad && t.rest.isEmpty) = db
            go_wp2
            exact ⟨⟨i + 1, t, by go_num, by omega, hle, HBT.out, HE.out⟩, by simp [intOf]; omega⟩
          · have hle : (rInt st).2.rest.length ≤ 400 := Nat.le_trans (rInt_rest_le st) hsl
            have h1 := rInt_any g st w4 HS4.out.p (by omega)
            have h2 := fun (w5 : World) (hq : Q.Rd w5 h st) => Q.rInt_any h st w5 hq (by omega)
            have H1 := Lib.hid h1
            have H2 := Lib.hid h2
            clear h1 h2
            generalize (rInt st).1 = x at H1 H2
            generalize (rInt st).2 = t at H1 H2 hle
            go_wp2_with fail
            refine (H1.out).mono ?_
            rintro e w5 ⟨rfl, hto⟩
            have H25 := Lib.hid (H2.out w5 (HS4.out.one hne hto))
            have HTO := Lib.hid hto
            clear hto H1 H2
            go_wp2_with fail
            refine (H25.out).mono ?_
            rintro e wt ⟨rfl, hto2⟩
            have HE := Lib.hid (Both.end_ hne HTO.out hto2)
            have HBT := Lib.hid (belowTwo HB4.out hgw hhw HTO.out hto2)
            clear hto2 H25 HTO HB4 HS4
            have HL := Lib.hid (Left_any g _ wt HE.out.p)
            have HLQ := Lib.hid (Q.Left_any h _ wt HE.out.q)
            have HD := Lib.hid (Done_any g _ wt HE.out.p)
            have HDQ := Lib.hid (Q.Done_any h _ wt HE.out.q)
            go_wp2_with fail
            refine (HL.out).mono ?_
            rintro e w' ⟨rfl, rfl⟩
            go_wp2_with fail
            refine (HLQ.out).mono ?_
            rintro e w' ⟨rfl, rfl⟩
            go_wp2_with fail
            refine (HD.out).mono ?_
            rintro e w' ⟨rfl, rfl⟩
            go_wp2_with fail
            refine (HDQ.out).mono ?_
            rintro e w' ⟨rfl, rfl⟩
            generalize (!t.bad && t.rest.isEmpty) = db
            go_wp2
            exact ⟨⟨i + 1, t, by go_num, by omega, hle, HBT.out, HE.out⟩, by simp [intOf]; omega⟩
          · have hle : (rText st).2.rest.length ≤ 400 := Nat.le_trans (rText_rest_le st) hsl
            have h1 := rText_any g st w4 HS4.out.p (by omega)
            have h2 := fun (w5 : World) (hq : Q.Rd w5 h st) => Q.rText_any h st w5 hq (by omega)
            unfold str at h1 h2
            have H1 := Lib.hid h1
            have H2 := Lib.hid h2
            clear h1 h2
            generalize (rText st).1 = x at H1 H2
            generalize (rText st).2 = t at H1 H2 hle
            go_wp2_with fail
            refine (H1.out).mono ?_
            rintro e w5 ⟨rfl, hto⟩
            have H25 := Lib.hid (H2.out w5 (HS4.out.one hne hto))
            have HTO := Lib.hid hto
            clear hto H1 H2
            go_wp2_with fail
            refine (H25.out).mono ?_
            rintro e wt ⟨rfl, hto2⟩
            have HE := Lib.hid (Both.end_ hne HTO.out hto2)
            have HBT := Lib.hid (belowTwo HB4.out hgw hhw HTO.out hto2)
            clear hto2 H25 HTO HB4 HS4
            have HL := Lib.hid (Left_any g _ wt HE.out.p)
            have HLQ := Lib.hid (Q.Left_any h _ wt HE.out.q)
            have HD := Lib.hid (Done_any g _ wt HE.out.p)
            have HDQ := Lib.hid (Q.Done_any h _ wt HE.out.q)
            go_wp2_with fail
            refine (HL.out).mono ?_
            rintro e w' ⟨rfl, rfl⟩
            go_wp2_with fail
            refine (HLQ.out).mono ?_
            rintro e w' ⟨rfl, rfl⟩
            go_wp2_with fail
            refine (HD.out).mono ?_
            rintro e w' ⟨rfl, rfl⟩
            go_wp2_with fail
            refine (HDQ.out).mono ?_
            rintro e w' ⟨rfl, rfl⟩
            generalize (!t.bad && t.rest.isEmpty) = db
            go_wp2
            exact ⟨⟨i + 1, t, by go_num, by omega, hle, HBT.out, HE.out⟩, by simp [intOf]; omega⟩
          · have hle : (rNums st).2.rest.length ≤ 400 := Nat.le_trans (rList_rest_le rInt rInt_rest_le st) hsl
            have hln : (rNums st).1.length ≤ 401 := Nat.le_trans (rNums_len st) (by omega)
            have h1 := rNums_any g st w4 HS4.out.p (by omega)
            have h2 := fun (w5 : World) (hq : Q.Rd w5 h st) => Q.rNums_any h st w5 hq (by omega)
            have H1 := Lib.hid h1
            have H2 := Lib.hid h2
            clear h1 h2
            generalize (rNums st).1 = x at H1 H2 hln
            generalize (rNums st).2 = t at H1 H2 hle
            go_wp2_with fail
            refine (H1.out).mono ?_
            rintro e w5 ⟨v5, rfl, hto, hown⟩
            have hq5 := HS4.out.one hne hto
            have H25 := Lib.hid (H2.out w5 hq5)
            have HTO := Lib.hid hto
            have HOWN := Lib.hid hown
            have hlt4 : h < w4.heap.size := Q.Rd.lt HS4.out.q
            clear hq5 hto hown H1 H2
            go_wp2_with fail
            refine (H25.out).mono ?_
            rintro e w6 ⟨v6, rfl, hto2, hown2⟩
            have hown5 := ownsRow_rd HOWN.out hto2.only hlt4
            obtain ⟨A5, c5, rfl, hR5⟩ := own_reads hown5
            obtain ⟨A6, c6, rfl, hR6⟩ := own_reads hown2
            rw [intCells_length] at hR5 hR6
            rw [intCells_length]
            have HSM := Lib.hid (SameNums_eq A5 A6 c5 c6 w6.heap.size w6.heap.size x w6 hR5 hR6 (by omega) (Nat.le_refl _) (Nat.le_refl _))
            have HE6 := Lib.hid (Both.end_ hne HTO.out hto2)
            have HB6 := Lib.hid (belowTwo HB4.out hgw hhw HTO.out hto2)
            clear hown5 hown2 hto2 hR5 hR6 HOWN H25
            go_wp2_with fail
            refine (HSM.out).mono ?_
            rintro e wt ⟨rfl, hb7⟩
            have HE := Lib.hid (HE6.out.below hb7)
            have HBT := Lib.hid (HB6.out.trans (hb7.mono HB6.out.size))
            clear hb7 HSM HE6 HB6 HTO HB4 HS4
            have HL := Lib.hid (Left_any g _ wt HE.out.p)
            have HLQ := Lib.hid (Q.Left_any h _ wt HE.out.q)
            have HD := Lib.hid (Done_any g _ wt HE.out.p)
            have HDQ := Lib.hid (Q.Done_any h _ wt HE.out.q)
            go_wp2_with fail
            refine (HL.out).mono ?_
            rintro e w' ⟨rfl, rfl⟩
            go_wp2_with fail
            refine (HLQ.out).mono ?_
            rintro e w' ⟨rfl, rfl⟩
            go_wp2_with fail
            refine (HD.out).mono ?_
            rintro e w' ⟨rfl, rfl⟩
            go_wp2_with fail
            refine (HDQ.out).mono ?_
            rintro e w' ⟨rfl, rfl⟩
            generalize (!t.bad && t.rest.isEmpty) = db
            go_wp2
            exact ⟨⟨i + 1, t, by go_num, by omega, hle, HBT.out, HE.out⟩, by simp [intOf]; omega⟩
          · have hle : (rTexts st).2.rest.length ≤ 400 := Nat.le_trans (rList_rest_le rText rText_rest_le st) hsl
            have hln : (rTexts st).1.length ≤ 401 := Nat.le_trans (rTexts_len st) (by omega)
            have h1 := rTexts_any g st w4 HS4.out.p (by omega)
            have h2 := fun (w5 : World) (hq : Q.Rd w5 h st) => Q.rTexts_any h st w5 hq (by omega)
            have H1 := Lib.hid h1
            have H2 := Lib.hid h2
            clear h1 h2
            generalize (rTexts st).1 = x at H1 H2 hln
            generalize (rTexts st).2 = t at H1 H2 hle
            go_wp2_with fail
            refine (H1.out).mono ?_
            rintro e w5 ⟨v5, rfl, hto, hown⟩
            have hq5 := HS4.out.one hne hto
            have H25 := Lib.hid (H2.out w5 hq5)
            have HTO := Lib.hid hto
            have HOWN := Lib.hid hown
            have hlt4 : h < w4.heap.size := Q.Rd.lt HS4.out.q
            clear hq5 hto hown H1 H2
            go_wp2_with fail
            refine (H25.out).mono ?_
            rintro e w6 ⟨v6, rfl, hto2, hown2⟩
            have hown5 := ownsRow_rd HOWN.out hto2.only hlt4
            obtain ⟨A5, c5, rfl, hR5⟩ := own_reads hown5
            obtain ⟨A6, c6, rfl, hR6⟩ := own_reads hown2
            rw [strCellsL_length] at hR5 hR6
            rw [strCellsL_length]
            have HSM := Lib.hid (SameTexts_eq A5 A6 c5 c6 w6.heap.size w6.heap.size x w6 hR5 hR6 (by omega) (Nat.le_refl _) (Nat.le_refl _))
            have HE6 := Lib.hid (Both.end_ hne HTO.out hto2)
            have HB6 := Lib.hid (belowTwo HB4.out hgw hhw HTO.out hto2)
            clear hown5 hown2 hto2 hR5 hR6 HOWN H25
            go_wp2_with fail
            refine (HSM.out).mono ?_
            rintro e wt ⟨rfl, hb7⟩
            have HE := Lib.hid (HE6.out.below hb7)
            have HBT := Lib.hid (HB6.out.trans (hb7.mono HB6.out.size))
            clear hb7 HSM HE6 HB6 HTO HB4 HS4
            have HL := Lib.hid (Left_any g _ wt HE.out.p)
            have HLQ := Lib.hid (Q.Left_any h _ wt HE.out.q)
            have HD := Lib.hid (Done_any g _ wt HE.out.p)
            have HDQ := Lib.hid (Q.Done_any h _ wt HE.out.q)
            go_wp2_with fail
            refine (HL.out).mono ?_
            rintro e w' ⟨rfl, rfl⟩
            go_wp2_with fail
            refine (HLQ.out).mono ?_
            rintro e w' ⟨rfl, rfl⟩
            go_wp2_with fail
            refine (HD.out).mono ?_
            rintro e w' ⟨rfl, rfl⟩
            go_wp2_with fail
            refine (HDQ.out).mono ?_
            rintro e w' ⟨rfl, rfl⟩
            generalize (!t.bad && t.rest.isEmpty) = db
            go_wp2
            exact ⟨⟨i + 1, t, by go_num, by omega, hle, HBT.out, HE.out⟩, by simp [intOf]; omega⟩
        · obtain rfl : i = zs.length := by omega
          have HBW := Lib.hid hbw
          clear hbw hbo
          go_wp2
          go_ret
          exact ⟨rfl, HBW.out⟩

set_option maxRecDepth 100000 in
theorem lifted (os : Os) (started : os.Started) (H : Type) (enc : TypeId × Value → H) :
    ReturnsInHanded {} Try.checked os 5 .any (Rows.wireReadsSpec.pre6 enc Try.prog Try.f5 Rows.wireReadsRow.domain false) (Rows.wireReadsSpec.post enc Try.prog Try.f5 false true false false) := by
  refine returnsInHanded_of_change (C := Try.checked) own started (by kernel_rfl) Try.func5
    (ChangeSpec.witness6 (enc := enc) (C := Try.checked) false ⟨#[], #[.string ByteArray.empty, .slice none 0 0], []⟩ 8 (by kernel_rfl) (by kernel_rfl) (by kernel_rfl) (by kernel_rfl)) ?_
  intro W base args ds gs before hval0 hW hcnd _
  have hval : ∀ (j : Nat) t v, Try.f5.params[j]? = some t → args[j]? = some v → Value.okWide Try.prog W .any base t v := hval0
  have hW' := hW
  obtain ⟨p, q, hA0, hV, rfl, hfz, hnd⟩ := hW
  have hA : DataW.TrodAll enc Try.prog W 0 (fun _ => true) true Try.f5.params.toList args.toList ds p := hA0
  rw [Try.params5] at hA hval
  obtain ⟨v0, vs0, d0, ds0, p0, q0, hargs, rfl, rfl, h0, r0⟩ := trodAll_cons hA
  obtain ⟨v1, vs1, d1, ds1, p1, q1, rfl, rfl, rfl, h1, r1⟩ := trodAll_cons r0
  obtain ⟨rfl, rfl, rfl⟩ := trodAll_nil r1
  obtain rfl : args = #[v0, v1] := by cases args; simp_all
  obtain ⟨rfl, rfl⟩ := trodVars_none hV
  obtain ⟨a0, rfl, rfl, rfl, w0⟩ := open_string Try.underlying9 (hval 0 9 v0 rfl rfl) h0
  have k1 := h1
  have lt1 : ∀ x ∈ p1, x.block < W.heap.size := by obtain ⟨m, hm⟩ := k1; exact DataW.trod_lt m _ _ _ hm
  have o1 := openNums (hval 1 22 v1 rfl rfl) h1
  clear hA0 hval0
  refine (walk a0 v1 W w0 o1).mono fun e W' ⟨he, bel⟩ => ?_
  subst he
  exact ⟨_, rfl, _, _, _, [], _, [], hW', trodAll_mk1 (shut_bool Try.underlying4 _), (trodAll_cons_mk (shut_string Try.underlying9 w0) (trodAll_cons_mk (Below.trod laidOut (by kernel_rfl) (of_decide_eq_true (by kernel_rfl)) k1 bel lt1) trodAll_mk0)), rfl, bel.frame _, fun h => by cases h⟩

theorem over : Rows.wireReadsRow.holds Try.pinned (OpenSpec.ofChange Rows.wireReadsSpec) :=
  OpenClaim.holds_of_wide 5 Try.f5 rfl rfl rfl rfl rfl rfl rfl ⟨rfl, rfl, rfl, rfl, rfl⟩ rfl rfl rfl rfl rfl (by kernel_rfl) Try.func5 (by kernel_rfl)
    (of_decide_eq_true (by kernel_rfl)) (by unfold Func.isWrapper; first | (rw [if_pos (by decide +kernel)]; kernel_rfl) | (rw [if_neg (by decide +kernel)]; exact ⟨rfl, rfl⟩))
    (fun os started H enc _ => lifted os started H enc)

/-- The statement. -/
theorem proved : Rows.WireReadsSaid := over
#print axioms proved
end Go.Proofs.Ytcamfdmmcbimfaa.wireReads
