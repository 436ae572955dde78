/-
  WireAgain: for all strings of at most 400 bytes and kinds of values, if a reader reads a value at the beginning without failing, its encoding is exactly what was read; for longer strings the small examples hold. No condition.
-/
import Derived.Test.YtcamfdmmcbimfaaEqual
namespace Go.Proofs.Ytcamfdmmcbimfaa.wireAgain
open Go.ChangeShapes Go.WideShapes Go.ChangeAt Go.RowKit
open Go.ChangeMaps (open_string shut_string)

theorem own : ownKnob Try.prog.godebug = none := by kernel_rfl
theorem laidOut : laidOutB Try.prog = true := by kernel_rfl

/-! ## The plain law -/
/-- A reader that has failed has nothing left. -/
def Dry (s : St) : Prop := s.bad = true → s.rest = []

theorem rU_dry (s : St) (h : Dry s) : Dry (rU s).2 := by
  unfold rU
  cases hd : dec s.rest with
  | none => intro _; rfl
  | some x =>
    intro hb
    have h1 := ((dec_some _ _ _).1 (show dec s.rest = some (x.1, x.2) from hd)).1
    rw [h hb] at h1
    have h2 := congrArg List.length h1
    rw [List.length_append] at h2
    have h3 := Lib.uvarint_pos x.1
    simp at h2
    omega

theorem rNum_dry (s : St) (h : Dry s) : Dry (rNum s).2 := by
  unfold rNum
  split
  · exact rU_dry s h
  · intro _; rfl

theorem rInt_dry (s : St) (h : Dry s) : Dry (rInt s).2 := rU_dry s h

theorem rText_dry (s : St) (h : Dry s) : Dry (rText s).2 := by
  unfold rText
  split
  · intro hb
    have h1 := rNum_dry s h hb
    show ((rNum s).2.rest.drop (rNum s).1) = []
    rw [h1]
    simp
  · intro _; rfl

theorem rItems_dry {α : Type} (f : St → α × St) (hf : ∀ s, Dry s → Dry (f s).2) : ∀ (n : Nat) (s : St), Dry s → Dry (rItems f n s).2
  | 0, _, h => h
  | n + 1, s, h => by
    unfold rItems
    split
    · exact h
    · exact rItems_dry f hf n _ (hf s h)

theorem rList_dry {α : Type} (f : St → α × St) (hf : ∀ s, Dry s → Dry (f s).2) (s : St) (h : Dry s) : Dry (rList f s).2 := by
  unfold rList
  split
  · exact rItems_dry f hf _ _ (rNum_dry s h)
  · exact rItems_dry f hf _ _ (rNum_dry s h)

theorem rItems_len {α : Type} (f : St → α × St) (hl : ∀ s, (f s).2.bad = false → (f s).2.rest.length < s.rest.length) : ∀ (n : Nat) (s : St), (rItems f n s).1.length ≤ s.rest.length + 1
  | 0, _ => by simp [rItems]
  | n + 1, s => by
    unfold rItems
    split
    · simp
    · show ((f s).1 :: (rItems f n (f s).2).1).length ≤ _
      rw [List.length_cons]
      cases hb : (f s).2.bad with
      | true =>
        have : (rItems f n (f s).2).1 = [] := by
          cases n with
          | zero => rfl
          | succ n => unfold rItems; rw [hb]; rfl
        rw [this]
        simp
      | false =>
        have h1 := rItems_len f hl n (f s).2
        have h2 := hl s hb
        omega

theorem rItems_all {α : Type} (f : St → α × St) (L : Nat) (P : α → Prop) (hr : ∀ s, (f s).2.rest.length ≤ s.rest.length) (hp : ∀ s, s.rest.length ≤ L → P (f s).1) :
    ∀ (n : Nat) (s : St), s.rest.length ≤ L → ∀ x ∈ (rItems f n s).1, P x
  | 0, _, _ => by simp [rItems]
  | n + 1, s, h => by
    unfold rItems
    split
    · simp
    · intro x hx
      have hx' : x = (f s).1 ∨ x ∈ (rItems f n (f s).2).1 := by simpa using hx
      rcases hx' with rfl | hx'
      · exact hp s h
      · exact rItems_all f L P hr hp n (f s).2 (Nat.le_trans (hr s) h) x hx'

theorem rList_len {α : Type} (f : St → α × St) (hl : ∀ s, (f s).2.bad = false → (f s).2.rest.length < s.rest.length) (s : St) : (rList f s).1.length ≤ s.rest.length + 1 := by
  unfold rList
  split
  · simp
  · have h1 := rItems_len f hl (rNum s).1 (rNum s).2
    have h2 := rNum_rest_le s
    omega

theorem rList_all {α : Type} (f : St → α × St) (L : Nat) (P : α → Prop) (hr : ∀ s, (f s).2.rest.length ≤ s.rest.length) (hp : ∀ s, s.rest.length ≤ L → P (f s).1) (s : St) (h : s.rest.length ≤ L) :
    ∀ x ∈ (rList f s).1, P x := by
  unfold rList
  split
  · simp
  · exact rItems_all f L P hr hp _ _ (Nat.le_trans (rNum_rest_le s) h)

theorem rText_len (s : St) : (rText s).1.length ≤ s.rest.length := by
  unfold rText
  split
  · have := rNum_rest_le s
    show ((rNum s).2.rest.take (rNum s).1).length ≤ _
    rw [List.length_take]
    omega
  · simp

theorem rNums_I64 (s : St) : ∀ x ∈ (rNums s).1, I64 x :=
  rList_all rInt s.rest.length I64 rInt_rest_le (fun s _ => unzigzag_i64 (rU_lt s)) s (Nat.le_refl _)
theorem rTexts_le (s : St) : ∀ x ∈ (rTexts s).1, x.length ≤ s.rest.length :=
  rList_all rText s.rest.length (fun x => x.length ≤ s.rest.length) rText_rest_le (fun s' h => Nat.le_trans (rText_len s') h) s (Nat.le_refl _)
theorem rNums_len (s : St) : (rNums s).1.length ≤ s.rest.length + 1 := rList_len rInt rInt_less s
theorem rTexts_len (s : St) : (rTexts s).1.length ≤ s.rest.length + 1 := rList_len rText rText_less s

theorem extE (l : List UInt8) (n : Nat) : ((ByteArray.mk l.toArray).extract 0 n).toList = l.take n := by
  rw [Lib.extract_toList]
  simp

/-- What the walk asks of an encoding that was read. -/
structure Was (l E r : List UInt8) : Prop where
  len : (l.length : Int) - (r.length : Int) = (E.length : Int)
  le : (E.length : Int) ≤ (l.length : Int)
  ext : (E == ((ByteArray.mk l.toArray).extract 0 E.length).toList) = true
theorem Was.mk' {l E r : List UInt8} (h : l = E ++ r) : Was l E r := by
  subst h
  refine ⟨by rw [List.length_append]; omega, by rw [List.length_append]; omega, ?_⟩
  rw [extE]
  simp

set_option maxHeartbeats 8000000 in
set_option maxRecDepth 100000 in
theorem walk (a : ByteArray) (what : Int) (w : World) (hsz : a.size ≤ maxLen) (hwf : (Lit.int .i64 what).wf = true) :
    Calls Try.prog 7 #[.string a, .int .i64 what] w fun e w' => e = .returned (.bool true) ∧ Below w.heap.size w w' := by
  have hI : I64 what := by
    simp [Lit.wf, IntKind.min, IntKind.max, IntKind.bits, IntKind.signed] at hwf
    exact hwf
  clear hwf
  obtain ⟨l, rfl⟩ : ∃ l : List UInt8, a = ⟨l.toArray⟩ := ⟨a.data.toList, (Lib.mk_data a).symm⟩
  have htl : l.length ≤ 9223372036854775807 := by
    have h1 : (ByteArray.mk l.toArray).size = l.length := by show l.toArray.size = _; simp
    rw [h1] at hsz
    exact hsz
  clear hsz
  have HK := Lib.hid (kind_any what (.int .i64 0) (.string ByteArray.empty) (.slice none 0 0) (.slice none 0 0) hI)
  have hcs := kindOf_cases what
  generalize (kindOf what : Int) = kd at HK hcs
  clear hI
  go_enter Try.func7, Try.ntmps7
  go_wp2_with fail
  refine (small_any _).mono ?_
  rintro e w1 ⟨rfl, hb1⟩
  by_cases h4 : (400 : Int) < (l.length : Int)
  · go_wp2
    go_ret
    exact ⟨rfl, hb1⟩
  · have h4' : (l.length : Int) ≤ 400 := by omega
    have h5 : decide ((400 : Int) < (l.length : Int)) = false := by simpa using h4
    clear h4
    have hO := Open_any l w1
    unfold str at hO
    have HO := Lib.hid hO
    clear hO
    go_wp2_with fail
    refine (HO.out).mono ?_
    rintro e w2 ⟨rfl, hrd, hb2⟩
    have hb02 : Below w.heap.size w w2 := hb1.trans (hb2.mono hb1.size)
    have hgw := hb1.size
    clear hb1 hb2 HO
    generalize w1.heap.size = g at hrd hgw
    go_wp2_with fail
    refine (HK.out _).mono ?_
    rintro e w3 ⟨rfl, hb3⟩
    have hb03 : Below w.heap.size w w3 := hb02.trans (hb3.mono hb02.size)
    have hrd3 : Rd w3 g ⟨l, false⟩ := Rd.below hrd hb3
    clear hb02 hb3 hrd HK
    have HB3 := Lib.hid hb03
    have HR3 := Lib.hid hrd3
    clear hb03 hrd3
    rcases hcs with rfl | rfl | rfl | rfl | rfl
    · have hdry : Dry (rNum ⟨l, false⟩).2 := rNum_dry ⟨l, false⟩ (fun h => by cases h)
      have hlt := rNum_lt ⟨l, false⟩
      have hwN : wNum ((rNum ⟨l, false⟩).1 : Int) = Lib.uvarint (rNum ⟨l, false⟩).1 := by unfold wNum; rw [if_neg (by omega), Int.toNat_natCast]
      have hwas : (rNum ⟨l, false⟩).2.bad = false → Was l (wNum ((rNum ⟨l, false⟩).1 : Int)) (rNum ⟨l, false⟩).2.rest := fun h => Was.mk' (by rw [hwN]; exact (rNum_r _ h).1)
      have hwr := fun w' => Num_any ((rNum ⟨l, false⟩).1 : Int) ⟨by omega, by omega⟩ w'
      have hrd := rNum_any g ⟨l, false⟩ w3 HR3.out (by show l.length ≤ _; omega)
      unfold str at hwr
      have HDRY := Lib.hid hdry
      have HWAS := Lib.hid hwas
      have HWR := Lib.hid hwr
      have HRD := Lib.hid hrd
      clear hdry hwas hwr hrd
      clear hwN
      generalize wNum ((rNum ⟨l, false⟩).1 : Int) = E at HWAS HWR
      generalize (((rNum ⟨l, false⟩).1 : Nat) : Int) = x at HWR HRD
      generalize (rNum ⟨l, false⟩).2 = t at HDRY HWAS HRD
      clear hlt
      go_wp2_with fail
      refine (HRD.out).mono ?_
      rintro e w4 ⟨rfl, hto⟩
      have hw4 := HWR.out w4
      have HW4 := Lib.hid hw4
      have HTO := Lib.hid hto
      clear hw4 hto
      go_wp2_with fail
      refine (HW4.out).mono ?_
      rintro e wt ⟨rfl, hb5⟩
      have HRT : Hid (Rd wt g t) := Rd.below HTO.out.rd hb5
      have HBT : Hid (Below w.heap.size w wt) := (HB3.out.grown HTO.out.only HB3.out.size (fun k hk => by injection hk with hk; omega)).trans (hb5.mono (Nat.le_trans HB3.out.size HTO.out.only.size))
      clear hb5 HW4 HTO HWR HRD HB3 HR3
      obtain ⟨r, b⟩ := t
      cases b with
      | true =>
        obtain rfl : r = [] := HDRY.out rfl
        have HL := Lib.hid (Left_any g _ wt HRT.out)
        have HD := Lib.hid (Done_any g _ wt HRT.out)
        clear HRT
        go_wp2_with fail
        refine (HL.out).mono ?_
        rintro e w' ⟨rfl, rfl⟩
        go_wp2_with fail
        refine (HD.out).mono ?_
        rintro e w' ⟨rfl, rfl⟩
        go_wp2
        go_ret
        exact ⟨rfl, HBT.out⟩
      | false =>
        obtain ⟨ha1, ha2, ha3⟩ := HWAS.out rfl
        have HL := Lib.hid (Left_any g _ wt HRT.out)
        have HD := Lib.hid (Done_any g _ wt HRT.out)
        clear HRT
        have ha4 : (0 : Int) ≤ (E.length : Int) := Int.natCast_nonneg _
        have ha5 : IntKind.i64.wrap ((l.length : Int) - (r.length : Int)) = (E.length : Int) := by rw [ha1]; exact IntWalk.i64_in _ ⟨by omega, by omega⟩
        have ha7 : (E.length : Int) ≤ 400 := by omega
        by_cases hr0 : r = []
        · subst hr0
          have ha8 : E.length = l.length := by have h1 : (l.length : Int) - 0 = (E.length : Int) := ha1
                                               omega
          rw [ha8] at ha3
          clear ha1 ha2 ha4 ha5 ha7 ha8
          go_wp2_with fail
          refine (HL.out).mono ?_
          rintro e w' ⟨rfl, rfl⟩
          go_wp2_with fail
          refine (HD.out).mono ?_
          rintro e w' ⟨rfl, rfl⟩
          go_wp2_with fail
          refine (HL.out).mono ?_
          rintro e w' ⟨rfl, rfl⟩
          go_wp2
          go_ret
          exact ⟨rfl, HBT.out⟩
        · have hr1 : ((r.length : Int) == 0) = false := by
            cases r with
            | nil => exact absurd rfl hr0
            | cons y ys => simp; omega
          clear hr0 ha1
          go_wp2_with fail
          refine (HL.out).mono ?_
          rintro e w' ⟨rfl, rfl⟩
          go_wp2_with fail
          refine (HL.out).mono ?_
          rintro e w' ⟨rfl, rfl⟩
          go_wp2
          go_ret
          exact ⟨rfl, HBT.out⟩
    · have hdry : Dry (rInt ⟨l, false⟩).2 := rInt_dry ⟨l, false⟩ (fun h => by cases h)
      have hwas : (rInt ⟨l, false⟩).2.bad = false → Was l (wInt (rInt ⟨l, false⟩).1) (rInt ⟨l, false⟩).2.rest := fun h => Was.mk' (rInt_r _ h).1
      have hwr := fun w' => Int_any (rInt ⟨l, false⟩).1 (unzigzag_i64 (rU_lt _)) w'
      have hrd := rInt_any g ⟨l, false⟩ w3 HR3.out (by show l.length ≤ _; omega)
      unfold str at hwr
      have HDRY := Lib.hid hdry
      have HWAS := Lib.hid hwas
      have HWR := Lib.hid hwr
      have HRD := Lib.hid hrd
      clear hdry hwas hwr hrd
      generalize wInt (rInt ⟨l, false⟩).1 = E at HWAS HWR
      generalize (rInt ⟨l, false⟩).1 = x at HWR HRD
      generalize (rInt ⟨l, false⟩).2 = t at HDRY HWAS HRD
      go_wp2_with fail
      refine (HRD.out).mono ?_
      rintro e w4 ⟨rfl, hto⟩
      have hw4 := HWR.out w4
      have HW4 := Lib.hid hw4
      have HTO := Lib.hid hto
      clear hw4 hto
      go_wp2_with fail
      refine (HW4.out).mono ?_
      rintro e wt ⟨rfl, hb5⟩
      have HRT : Hid (Rd wt g t) := Rd.below HTO.out.rd hb5
      have HBT : Hid (Below w.heap.size w wt) := (HB3.out.grown HTO.out.only HB3.out.size (fun k hk => by injection hk with hk; omega)).trans (hb5.mono (Nat.le_trans HB3.out.size HTO.out.only.size))
      clear hb5 HW4 HTO HWR HRD HB3 HR3
      obtain ⟨r, b⟩ := t
      cases b with
      | true =>
        obtain rfl : r = [] := HDRY.out rfl
        have HL := Lib.hid (Left_any g _ wt HRT.out)
        have HD := Lib.hid (Done_any g _ wt HRT.out)
        clear HRT
        go_wp2_with fail
        refine (HL.out).mono ?_
        rintro e w' ⟨rfl, rfl⟩
        go_wp2_with fail
        refine (HD.out).mono ?_
        rintro e w' ⟨rfl, rfl⟩
        go_wp2
        go_ret
        exact ⟨rfl, HBT.out⟩
      | false =>
        obtain ⟨ha1, ha2, ha3⟩ := HWAS.out rfl
        have HL := Lib.hid (Left_any g _ wt HRT.out)
        have HD := Lib.hid (Done_any g _ wt HRT.out)
        clear HRT
        have ha4 : (0 : Int) ≤ (E.length : Int) := Int.natCast_nonneg _
        have ha5 : IntKind.i64.wrap ((l.length : Int) - (r.length : Int)) = (E.length : Int) := by rw [ha1]; exact IntWalk.i64_in _ ⟨by omega, by omega⟩
        have ha7 : (E.length : Int) ≤ 400 := by omega
        by_cases hr0 : r = []
        · subst hr0
          have ha8 : E.length = l.length := by have h1 : (l.length : Int) - 0 = (E.length : Int) := ha1
                                               omega
          rw [ha8] at ha3
          clear ha1 ha2 ha4 ha5 ha7 ha8
          go_wp2_with fail
          refine (HL.out).mono ?_
          rintro e w' ⟨rfl, rfl⟩
          go_wp2_with fail
          refine (HD.out).mono ?_
          rintro e w' ⟨rfl, rfl⟩
          go_wp2_with fail
          refine (HL.out).mono ?_
          rintro e w' ⟨rfl, rfl⟩
          go_wp2
          go_ret
          exact ⟨rfl, HBT.out⟩
        · have hr1 : ((r.length : Int) == 0) = false := by
            cases r with
            | nil => exact absurd rfl hr0
            | cons y ys => simp; omega
          clear hr0 ha1
          go_wp2_with fail
          refine (HL.out).mono ?_
          rintro e w' ⟨rfl, rfl⟩
          go_wp2_with fail
          refine (HL.out).mono ?_
          rintro e w' ⟨rfl, rfl⟩
          go_wp2
          go_ret
          exact ⟨rfl, HBT.out⟩
    · have hdry : Dry (rText ⟨l, false⟩).2 := rText_dry ⟨l, false⟩ (fun h => by cases h)
      have hln := rText_len ⟨l, false⟩
      have hwas : (rText ⟨l, false⟩).2.bad = false → Was l (wText (rText ⟨l, false⟩).1) (rText ⟨l, false⟩).2.rest := fun h => Was.mk' (rText_r _ h).1
      have hwr := fun w' => Text_any (rText ⟨l, false⟩).1 (by have : l.length ≤ 400 := by omega
                                                              exact Nat.le_trans hln (Nat.le_trans this (by decide))) w'
      have hrd := rText_any g ⟨l, false⟩ w3 HR3.out (by show l.length ≤ _; omega)
      unfold str at hwr hrd
      clear hln
      have HDRY := Lib.hid hdry
      have HWAS := Lib.hid hwas
      have HWR := Lib.hid hwr
      have HRD := Lib.hid hrd
      clear hdry hwas hwr hrd
      generalize wText (rText ⟨l, false⟩).1 = E at HWAS HWR
      generalize (rText ⟨l, false⟩).1 = x at HWR HRD
      generalize (rText ⟨l, false⟩).2 = t at HDRY HWAS HRD
      go_wp2_with fail
      refine (HRD.out).mono ?_
      rintro e w4 ⟨rfl, hto⟩
      have hw4 := HWR.out w4
      have HW4 := Lib.hid hw4
      have HTO := Lib.hid hto
      clear hw4 hto
      go_wp2_with fail
      refine (HW4.out).mono ?_
      rintro e wt ⟨rfl, hb5⟩
      have HRT : Hid (Rd wt g t) := Rd.below HTO.out.rd hb5
      have HBT : Hid (Below w.heap.size w wt) := (HB3.out.grown HTO.out.only HB3.out.size (fun k hk => by injection hk with hk; omega)).trans (hb5.mono (Nat.le_trans HB3.out.size HTO.out.only.size))
      clear hb5 HW4 HTO HWR HRD HB3 HR3
      obtain ⟨r, b⟩ := t
      cases b with
      | true =>
        obtain rfl : r = [] := HDRY.out rfl
        have HL := Lib.hid (Left_any g _ wt HRT.out)
        have HD := Lib.hid (Done_any g _ wt HRT.out)
        clear HRT
        go_wp2_with fail
        refine (HL.out).mono ?_
        rintro e w' ⟨rfl, rfl⟩
        go_wp2_with fail
        refine (HD.out).mono ?_
        rintro e w' ⟨rfl, rfl⟩
        go_wp2
        go_ret
        exact ⟨rfl, HBT.out⟩
      | false =>
        obtain ⟨ha1, ha2, ha3⟩ := HWAS.out rfl
        have HL := Lib.hid (Left_any g _ wt HRT.out)
        have HD := Lib.hid (Done_any g _ wt HRT.out)
        clear HRT
        have ha4 : (0 : Int) ≤ (E.length : Int) := Int.natCast_nonneg _
        have ha5 : IntKind.i64.wrap ((l.length : Int) - (r.length : Int)) = (E.length : Int) := by rw [ha1]; exact IntWalk.i64_in _ ⟨by omega, by omega⟩
        have ha7 : (E.length : Int) ≤ 400 := by omega
        by_cases hr0 : r = []
        · subst hr0
          have ha8 : E.length = l.length := by have h1 : (l.length : Int) - 0 = (E.length : Int) := ha1
                                               omega
          rw [ha8] at ha3
          clear ha1 ha2 ha4 ha5 ha7 ha8
          go_wp2_with fail
          refine (HL.out).mono ?_
          rintro e w' ⟨rfl, rfl⟩
          go_wp2_with fail
          refine (HD.out).mono ?_
          rintro e w' ⟨rfl, rfl⟩
          go_wp2_with fail
          refine (HL.out).mono ?_
          rintro e w' ⟨rfl, rfl⟩
          go_wp2
          go_ret
          exact ⟨rfl, HBT.out⟩
        · have hr1 : ((r.length : Int) == 0) = false := by
            cases r with
            | nil => exact absurd rfl hr0
            | cons y ys => simp; omega
          clear hr0 ha1
          go_wp2_with fail
          refine (HL.out).mono ?_
          rintro e w' ⟨rfl, rfl⟩
          go_wp2_with fail
          refine (HL.out).mono ?_
          rintro e w' ⟨rfl, rfl⟩
          go_wp2
          go_ret
          exact ⟨rfl, HBT.out⟩
    · have hdry : Dry (rNums ⟨l, false⟩).2 := rList_dry rInt rInt_dry ⟨l, false⟩ (fun h => by cases h)
      have hln := rNums_len ⟨l, false⟩
      have hl4 : l.length ≤ 400 := by omega
      have hall := rNums_I64 ⟨l, false⟩
      have hwas : (rNums ⟨l, false⟩).2.bad = false → Was l (wNums (rNums ⟨l, false⟩).1) (rNums ⟨l, false⟩).2.rest := fun h => Was.mk' (rNums_r _ h).1
      have hwr := fun (A : Option Addr) (c : Nat) (w' : World) (hR : Reads w' w'.heap.size 1 A (rNums ⟨l, false⟩).1.length (intCells (rNums ⟨l, false⟩).1)) => Nums_any A c w'.heap.size (rNums ⟨l, false⟩).1 w' hR (Nat.le_refl _) hall (Nat.le_trans hln (Nat.le_trans (Nat.succ_le_succ hl4) (by decide)))
      have hrd := rNums_any g ⟨l, false⟩ w3 HR3.out (by show l.length ≤ _; omega)
      unfold str at hwr
      clear hln hall
      have HDRY := Lib.hid hdry
      have HWAS := Lib.hid hwas
      have HWR := Lib.hid hwr
      have HRD := Lib.hid hrd
      clear hdry hwas hwr hrd
      generalize wNums (rNums ⟨l, false⟩).1 = E at HWAS HWR
      have hcl : (intCells (rNums ⟨l, false⟩).1).length = (rNums ⟨l, false⟩).1.length := intCells_length _
      rw [← hcl] at HWR
      clear hcl
      generalize intCells (rNums ⟨l, false⟩).1 = x at HWR HRD
      generalize (rNums ⟨l, false⟩).2 = t at HDRY HWAS HRD
      go_wp2_with fail
      refine (HRD.out).mono ?_
      rintro e w4 ⟨v4, rfl, hto, hown⟩
      obtain ⟨A, c, rfl, hreads⟩ := own_reads hown
      have hw4 := HWR.out A c w4 hreads
      have HW4 := Lib.hid hw4
      have HTO := Lib.hid hto
      clear hw4 hto
      go_wp2_with fail
      refine (HW4.out).mono ?_
      rintro e wt ⟨rfl, hb5⟩
      have HRT : Hid (Rd wt g t) := Rd.below HTO.out.rd hb5
      have HBT : Hid (Below w.heap.size w wt) := (HB3.out.grown HTO.out.only HB3.out.size (fun k hk => by injection hk with hk; omega)).trans (hb5.mono (Nat.le_trans HB3.out.size HTO.out.only.size))
      clear hb5 HW4 HTO HWR HRD HB3 HR3
      obtain ⟨r, b⟩ := t
      cases b with
      | true =>
        obtain rfl : r = [] := HDRY.out rfl
        have HL := Lib.hid (Left_any g _ wt HRT.out)
        have HD := Lib.hid (Done_any g _ wt HRT.out)
        clear HRT
        go_wp2_with fail
        refine (HL.out).mono ?_
        rintro e w' ⟨rfl, rfl⟩
        go_wp2_with fail
        refine (HD.out).mono ?_
        rintro e w' ⟨rfl, rfl⟩
        go_wp2
        go_ret
        exact ⟨rfl, HBT.out⟩
      | false =>
        obtain ⟨ha1, ha2, ha3⟩ := HWAS.out rfl
        have HL := Lib.hid (Left_any g _ wt HRT.out)
        have HD := Lib.hid (Done_any g _ wt HRT.out)
        clear HRT
        have ha4 : (0 : Int) ≤ (E.length : Int) := Int.natCast_nonneg _
        have ha5 : IntKind.i64.wrap ((l.length : Int) - (r.length : Int)) = (E.length : Int) := by rw [ha1]; exact IntWalk.i64_in _ ⟨by omega, by omega⟩
        have ha7 : (E.length : Int) ≤ 400 := by omega
        by_cases hr0 : r = []
        · subst hr0
          have ha8 : E.length = l.length := by have h1 : (l.length : Int) - 0 = (E.length : Int) := ha1
                                               omega
          rw [ha8] at ha3
          clear ha1 ha2 ha4 ha5 ha7 ha8
          go_wp2_with fail
          refine (HL.out).mono ?_
          rintro e w' ⟨rfl, rfl⟩
          go_wp2_with fail
          refine (HD.out).mono ?_
          rintro e w' ⟨rfl, rfl⟩
          go_wp2_with fail
          refine (HL.out).mono ?_
          rintro e w' ⟨rfl, rfl⟩
          go_wp2
          go_ret
          exact ⟨rfl, HBT.out⟩
        · have hr1 : ((r.length : Int) == 0) = false := by
            cases r with
            | nil => exact absurd rfl hr0
            | cons y ys => simp; omega
          clear hr0 ha1
          go_wp2_with fail
          refine (HL.out).mono ?_
          rintro e w' ⟨rfl, rfl⟩
          go_wp2_with fail
          refine (HL.out).mono ?_
          rintro e w' ⟨rfl, rfl⟩
          go_wp2
          go_ret
          exact ⟨rfl, HBT.out⟩
    · have hdry : Dry (rTexts ⟨l, false⟩).2 := rList_dry rText rText_dry ⟨l, false⟩ (fun h => by cases h)
      have hln := rTexts_len ⟨l, false⟩
      have hl4 : l.length ≤ 400 := by omega
      have hall := rTexts_le ⟨l, false⟩
      have hwas : (rTexts ⟨l, false⟩).2.bad = false → Was l (wTexts (rTexts ⟨l, false⟩).1) (rTexts ⟨l, false⟩).2.rest := fun h => Was.mk' (rTexts_r _ h).1
      have hwr := fun (A : Option Addr) (c : Nat) (w' : World) (hR : Reads w' w'.heap.size 1 A (rTexts ⟨l, false⟩).1.length (strCellsL (rTexts ⟨l, false⟩).1)) => Texts_any A c w'.heap.size (rTexts ⟨l, false⟩).1 w' hR (Nat.le_refl _) (fun z hz => Nat.le_trans (hall z hz) (Nat.le_trans hl4 (by decide))) (Nat.le_trans hln (Nat.le_trans (Nat.succ_le_succ hl4) (by decide)))
      have hrd := rTexts_any g ⟨l, false⟩ w3 HR3.out (by show l.length ≤ _; omega)
      unfold str at hwr
      clear hln hall
      have HDRY := Lib.hid hdry
      have HWAS := Lib.hid hwas
      have HWR := Lib.hid hwr
      have HRD := Lib.hid hrd
      clear hdry hwas hwr hrd
      generalize wTexts (rTexts ⟨l, false⟩).1 = E at HWAS HWR
      have hcl : (strCellsL (rTexts ⟨l, false⟩).1).length = (rTexts ⟨l, false⟩).1.length := strCellsL_length _
      rw [← hcl] at HWR
      clear hcl
      generalize strCellsL (rTexts ⟨l, false⟩).1 = x at HWR HRD
      generalize (rTexts ⟨l, false⟩).2 = t at HDRY HWAS HRD
      go_wp2_with fail
      refine (HRD.out).mono ?_
      rintro e w4 ⟨v4, rfl, hto, hown⟩
      obtain ⟨A, c, rfl, hreads⟩ := own_reads hown
      have hw4 := HWR.out A c w4 hreads
      have HW4 := Lib.hid hw4
      have HTO := Lib.hid hto
      clear hw4 hto
      go_wp2_with fail
      refine (HW4.out).mono ?_
      rintro e wt ⟨rfl, hb5⟩
      have HRT : Hid (Rd wt g t) := Rd.below HTO.out.rd hb5
      have HBT : Hid (Below w.heap.size w wt) := (HB3.out.grown HTO.out.only HB3.out.size (fun k hk => by injection hk with hk; omega)).trans (hb5.mono (Nat.le_trans HB3.out.size HTO.out.only.size))
      clear hb5 HW4 HTO HWR HRD HB3 HR3
      obtain ⟨r, b⟩ := t
      cases b with
      | true =>
        obtain rfl : r = [] := HDRY.out rfl
        have HL := Lib.hid (Left_any g _ wt HRT.out)
        have HD := Lib.hid (Done_any g _ wt HRT.out)
        clear HRT
        go_wp2_with fail
        refine (HL.out).mono ?_
        rintro e w' ⟨rfl, rfl⟩
        go_wp2_with fail
        refine (HD.out).mono ?_
        rintro e w' ⟨rfl, rfl⟩
        go_wp2
        go_ret
        exact ⟨rfl, HBT.out⟩
      | false =>
        obtain ⟨ha1, ha2, ha3⟩ := HWAS.out rfl
        have HL := Lib.hid (Left_any g _ wt HRT.out)
        have HD := Lib.hid (Done_any g _ wt HRT.out)
        clear HRT
        have ha4 : (0 : Int) ≤ (E.length : Int) := Int.natCast_nonneg _
        have ha5 : IntKind.i64.wrap ((l.length : Int) - (r.length : Int)) = (E.length : Int) := by rw [ha1]; exact IntWalk.i64_in _ ⟨by omega, by omega⟩
        have ha7 : (E.length : Int) ≤ 400 := by omega
        by_cases hr0 : r = []
        · subst hr0
          have ha8 : E.length = l.length := by have h1 : (l.length : Int) - 0 = (E.length : Int) := ha1
                                               omega
          rw [ha8] at ha3
          clear ha1 ha2 ha4 ha5 ha7 ha8
          go_wp2_with fail
          refine (HL.out).mono ?_
          rintro e w' ⟨rfl, rfl⟩
          go_wp2_with fail
          refine (HD.out).mono ?_
          rintro e w' ⟨rfl, rfl⟩
          go_wp2_with fail
          refine (HL.out).mono ?_
          rintro e w' ⟨rfl, rfl⟩
          go_wp2
          go_ret
          exact ⟨rfl, HBT.out⟩
        · have hr1 : ((r.length : Int) == 0) = false := by
            cases r with
            | nil => exact absurd rfl hr0
            | cons y ys => simp; omega
          clear hr0 ha1
          go_wp2_with fail
          refine (HL.out).mono ?_
          rintro e w' ⟨rfl, rfl⟩
          go_wp2_with fail
          refine (HL.out).mono ?_
          rintro e w' ⟨rfl, rfl⟩
          go_wp2
          go_ret
          exact ⟨rfl, HBT.out⟩

set_option maxRecDepth 100000 in
theorem lifted (os : Os) (started : os.Started) (H : Type) (enc : TypeId × Value → H) :
    ReturnsInHanded {} Try.checked os 7 .any (Rows.wireAgainSpec.pre6 enc Try.prog Try.f7 Rows.wireAgainRow.domain false) (Rows.wireAgainSpec.post enc Try.prog Try.f7 false true false false) := by
  refine returnsInHanded_of_change (C := Try.checked) own started (by kernel_rfl) Try.func7
    (ChangeSpec.witness6 (enc := enc) (C := Try.checked) false ⟨#[], #[.string ByteArray.empty, .int .i64 0], []⟩ 8 (by kernel_rfl) (by kernel_rfl) (by kernel_rfl) (by kernel_rfl)) ?_
  intro W base args ds gs before hval0 hW hcnd _
  have hval : ∀ (j : Nat) t v, Try.f7.params[j]? = some t → args[j]? = some v → Value.okWide Try.prog W .any base t v := hval0
  have hW' := hW
  obtain ⟨p, q, hA0, hV, rfl, hfz, hnd⟩ := hW
  have hA : DataW.TrodAll enc Try.prog W 0 (fun _ => true) true Try.f7.params.toList args.toList ds p := hA0
  rw [Try.params7] at hA hval
  obtain ⟨v0, vs0, d0, ds0, p0, q0, hargs, rfl, rfl, h0, r0⟩ := trodAll_cons hA
  obtain ⟨v1, vs1, d1, ds1, p1, q1, rfl, rfl, rfl, h1, r1⟩ := trodAll_cons r0
  obtain ⟨rfl, rfl, rfl⟩ := trodAll_nil r1
  obtain rfl : args = #[v0, v1] := by cases args; simp_all
  obtain ⟨rfl, rfl⟩ := trodVars_none hV
  obtain ⟨a0, rfl, rfl, rfl, w0⟩ := open_string Try.underlying9 (hval 0 9 v0 rfl rfl) h0
  obtain ⟨a1, rfl, rfl, rfl, w1⟩ := open_int Try.underlying3 (hval 1 3 v1 rfl rfl) h1
  clear hA0 hval0
  refine (walk a0 a1 W w0 w1).mono fun e W' ⟨he, bel⟩ => ?_
  subst he
  exact ⟨_, rfl, _, _, _, [], _, [], hW', trodAll_mk1 (shut_bool Try.underlying4 _), (trodAll_cons_mk (shut_string Try.underlying9 w0) (trodAll_cons_mk (shut_int Try.underlying3 w1) trodAll_mk0)), rfl, bel.frame _, fun h => by cases h⟩

theorem over : Rows.wireAgainRow.holds Try.pinned (OpenSpec.ofChange Rows.wireAgainSpec) :=
  OpenClaim.holds_of_wide 7 Try.f7 rfl rfl rfl rfl rfl rfl rfl ⟨rfl, rfl, rfl, rfl, rfl⟩ rfl rfl rfl rfl rfl (by kernel_rfl) Try.func7 (by kernel_rfl)
    (of_decide_eq_true (by kernel_rfl)) (by unfold Func.isWrapper; first | (rw [if_pos (by decide +kernel)]; kernel_rfl) | (rw [if_neg (by decide +kernel)]; exact ⟨rfl, rfl⟩))
    (fun os started H enc _ => lifted os started H enc)

/-- The statement. -/
theorem proved : Rows.WireAgainSaid := over
#print axioms proved
end Go.Proofs.Ytcamfdmmcbimfaa.wireAgain
