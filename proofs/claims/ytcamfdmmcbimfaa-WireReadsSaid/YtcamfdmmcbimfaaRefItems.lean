/-
  Contracts of the reference's list readers: Nums and Texts answer as package wire's do. Conditions: what is left is at most 2^20 bytes.
-/
import Derived.Test.YtcamfdmmcbimfaaRefRead
namespace Go.Proofs.Ytcamfdmmcbimfaa.Q
open Go.RowKit

theorem RdTo.lt {w w' : World} {g : Nat} {s : St} (h : RdTo w w' g s) : g < w'.heap.size := Blk.lt h.rd

theorem RdTo.alloc {w w1 : World} {g : Nat} {s : St} (h : RdTo w w1 g s) (o : Obj) : RdTo w (w1.alloc o) g s :=
  ⟨Blk.alloc h.rd o, ⟨h.only.os, h.only.tape, h.only.output, Nat.le_trans h.only.size (by simp), fun i hi hne => (Below.heap_alloc w1 o i (Nat.lt_of_lt_of_le hi h.only.size)).trans (h.only.block i hi hne)⟩⟩
/-- Behind an append to a row of the call's own. -/
theorem RdTo.grown {w w1 w2 : World} {g : Nat} {s : St} (h : RdTo w w1 g s) {row : Option Nat} (hg : w1.grownBy w2 row) (hr : ∀ k, row = some k → w.heap.size ≤ k) (hlt : g < w.heap.size) : RdTo w w2 g s :=
  ⟨Blk.grown h.rd hg (fun e => by have := hr _ e.symm; omega), ⟨hg.os.trans h.only.os, hg.tape.trans h.only.tape, hg.output.trans h.only.output, Nat.le_trans h.only.size hg.size,
    fun i hi hne => (hg.block i (Nat.lt_of_lt_of_le hi h.only.size) (fun e => by have := hr _ e.symm; omega)).trans (h.only.block i hi hne)⟩⟩

/-- What a list reader leaves. -/
structure ListTo (w w' : World) (g : Nat) (e : TypeId) (v : Value) (xs : List Value) (s : St) : Prop where
  to_ : RdTo w w' g s
  own : w'.ownsRow w.heap.size e 1 v xs.length xs

set_option maxHeartbeats 8000000 in
set_option maxRecDepth 100000 in
theorem rNums_any (g : Nat) (s : St) (w : World) (h : Rd w g s) (hl : s.rest.length ≤ 1048576) :
    Calls Try.prog 33 #[.pointer (some ⟨g, 0, none⟩)] w fun e w' => ∃ v, e = .returned v ∧ ListTo w w' g 3 v (intCells (rNums s).1) (rNums s).2 := by
  obtain ⟨i0, hi, hz0, hz1, hz2⟩ := info_parts intInfo
  have hglt := Rd.lt h
  have HN := Lib.hid (rNum_any g s w h (by omega))
  have hlt := rNum_lt s
  have hle := rNum_rest_le s
  have HE := Lib.hid (show rNums s = (if (rItems rInt (rNum s).1 (rNum s).2).2.bad = true then ([], (rItems rInt (rNum s).1 (rNum s).2).2) else rItems rInt (rNum s).1 (rNum s).2) from rfl)
  generalize rNum s = y at HN hlt hle HE
  obtain ⟨n, s1⟩ := y
  have h1 : (n : Int) ≤ 9223372036854775807 := by simp only at hlt; omega
  simp only at hle
  have hs1 : s1.rest.length ≤ 1048576 := by omega
  clear hlt h hle
  go_enter Try.func33, Try.ntmps33
  go_wp2_with fail
  refine (HN.out).mono ?_
  rintro e w1 ⟨rfl, hto⟩
  have HTO := Lib.hid hto
  clear hto HN
  go_wp2_with fail
  go_loopw [4, 5] (fun vo vn wr => ∃ (i k : Nat) (acc : List Int) (st : St), vn = .int .i64 i ∧ i + k = n ∧ RdTo w wr g st ∧ wr.ownsRow w.heap.size 3 1 vo acc.length (intCells acc) ∧ Hid (Came rInt 1048576 n s1 k acc st)) (fun _ vn _ => n - (intOf vn).toNat)
  case atStart => exact ⟨0, n, [], s1, rfl, Nat.zero_add _, HTO.out, World.ownsRow_nil _ _ _ _, Came.start hs1⟩
  case round =>
    obtain ⟨i, k, acc, st, rfl, hk, hto, hown, HC⟩ := hrel
    have HT := Lib.hid hto
    have c1 : wr.cell? ⟨g, 1, none⟩ = some (.bool st.bad) := hto.rd.cell 1
    clear hto
    cases hb : st.bad with
    | true =>
      have HS := Lib.hid (HC.out.stop (.inr hb))
      have HB := Lib.hid hb
      rw [hb] at c1
      clear hb
      have e1 : rNums s = ([], st) := by rw [HE.out, HS.out]; exact if_pos HB.out
      have HE1 := Lib.hid e1
      clear e1
      go_wp2
      all_goals
        go_ret
        exact ⟨.slice none 0 0, rfl, by rw [HE1.out]; exact ⟨HT.out, World.ownsRow_nil _ _ _ _⟩⟩
    | false =>
      rw [hb] at c1
      have HB := Lib.hid hb
      clear hb
      by_cases hk0 : k < 1
      · have hin : i = n := by omega
        have HS := Lib.hid (HC.out.stop (.inl (by omega)))
        obtain ⟨A, c, hv⟩ : ∃ A c, u4 = Value.slice A acc.length c := by
          rcases hown.2 with ⟨hv, h0⟩ | ⟨gg, cap, cur, hv, _⟩
          · exact ⟨none, 0, by rw [hv, h0]⟩
          · exact ⟨_, _, hv⟩
        rw [hv] at hown ⊢
        have HOW := Lib.hid hown
        clear hown hv hk
        subst hin
        go_wp2
        go_ret
        refine ⟨_, rfl, ?_⟩
        have e1 : rNums s = (acc, st) := by rw [HE.out, HS.out]; exact if_neg (by rw [HB.out]; decide)
        rw [e1]
        exact ⟨HT.out, by rw [intCells_length]; exact HOW.out⟩
      · obtain ⟨k', rfl⟩ : ∃ k', k = k' + 1 := ⟨k - 1, by omega⟩
        have hin : i < n := by omega
        have HC1 := Lib.hid (HC.out.step rInt_less rInt_rest_le HB.out)
        have hal := HC.out.len
        have HO := Lib.hid (rInt_any g st wr HT.out.rd (by have := HC.out.rest; omega))
        have HOW := Lib.hid hown
        clear hown
        go_wp2_with fail
        refine (HO.out).mono ?_
        rintro e w2 ⟨rfl, hto2⟩
        have hto3 := HT.out.trans hto2
        have hown2 := ownsRow_rd HOW.out hto2.only hglt
        have HT2 := Lib.hid hto3
        have hsz2 := hto3.only.size
        clear hto2 hto3
        generalize (rInt st).1 = x at HC1
        generalize (rInt st).2 = st2 at HC1 HT2
        go_wp2_with (at_builtin; refine wpList_append_own _ rfl _ _ 22 rfl w.heap.size 3 i0 (.int .i64 0) 1 8 Try.underlying22 hi hz0 hz1 hz2 rfl (by decide) _ _ _ rfl (hown2.alloc _) ⟨w2.heap.size, 0, none⟩ 1 1 [Value.int .i64 x] rfl rfl ?c1 ?c2 ?c3 ?c4 ?c5 ?_)
        case c1 =>
          intro j u hj
          match j, hj with
          | 0, hj => simp at hj; subst hj; simp [Addr.add]
        case c2 => intro u hu; simp at hu; subst hu; rfl
        case c3 => unfold maxLen; omega
        case c4 => omega
        case c5 => simp; omega
        intro v' w3 hown' hgrow _
        have HT3 := Lib.hid (((HT2.out.alloc _).grown hgrow (fun kk hkk => (hown2.lt kk hkk).1) hglt))
        have HOW3 := Lib.hid hown'
        clear hown' hown2 hgrow
        go_wp2
        go_roundw
        case rel => exact ⟨i + 1, k', acc ++ [x], st2, by go_num, by omega, HT3.out, by rw [intCells_snoc, List.length_append]; simpa using HOW3.out, HC1.out⟩
        case measure => simp [intOf]; omega

set_option maxHeartbeats 8000000 in
set_option maxRecDepth 100000 in
theorem rTexts_any (g : Nat) (s : St) (w : World) (h : Rd w g s) (hl : s.rest.length ≤ 1048576) :
    Calls Try.prog 36 #[.pointer (some ⟨g, 0, none⟩)] w fun e w' => ∃ v, e = .returned v ∧ ListTo w w' g 9 v (strCellsL (rTexts s).1) (rTexts s).2 := by
  obtain ⟨i0, hi, hz0, hz1, hz2⟩ := info_parts strInfo
  have hglt := Rd.lt h
  have HN := Lib.hid (rNum_any g s w h (by omega))
  have hlt := rNum_lt s
  have hle := rNum_rest_le s
  have HE := Lib.hid (show rTexts s = (if (rItems rText (rNum s).1 (rNum s).2).2.bad = true then ([], (rItems rText (rNum s).1 (rNum s).2).2) else rItems rText (rNum s).1 (rNum s).2) from rfl)
  generalize rNum s = y at HN hlt hle HE
  obtain ⟨n, s1⟩ := y
  have h1 : (n : Int) ≤ 9223372036854775807 := by simp only at hlt; omega
  simp only at hle
  have hs1 : s1.rest.length ≤ 1048576 := by omega
  clear hlt h hle
  go_enter Try.func36, Try.ntmps36
  go_wp2_with fail
  refine (HN.out).mono ?_
  rintro e w1 ⟨rfl, hto⟩
  have HTO := Lib.hid hto
  clear hto HN
  go_wp2_with fail
  go_loopw [4, 5] (fun vo vn wr => ∃ (i k : Nat) (acc : List (List UInt8)) (st : St), vn = .int .i64 i ∧ i + k = n ∧ RdTo w wr g st ∧ wr.ownsRow w.heap.size 9 1 vo acc.length (strCellsL acc) ∧ Hid (Came rText 1048576 n s1 k acc st)) (fun _ vn _ => n - (intOf vn).toNat)
  case atStart => exact ⟨0, n, [], s1, rfl, Nat.zero_add _, HTO.out, World.ownsRow_nil _ _ _ _, Came.start hs1⟩
  case round =>
    obtain ⟨i, k, acc, st, rfl, hk, hto, hown, HC⟩ := hrel
    have HT := Lib.hid hto
    have c1 : wr.cell? ⟨g, 1, none⟩ = some (.bool st.bad) := hto.rd.cell 1
    clear hto
    cases hb : st.bad with
    | true =>
      have HS := Lib.hid (HC.out.stop (.inr hb))
      have HB := Lib.hid hb
      rw [hb] at c1
      clear hb
      have e1 : rTexts s = ([], st) := by rw [HE.out, HS.out]; exact if_pos HB.out
      have HE1 := Lib.hid e1
      clear e1
      go_wp2
      all_goals
        go_ret
        exact ⟨.slice none 0 0, rfl, by rw [HE1.out]; exact ⟨HT.out, World.ownsRow_nil _ _ _ _⟩⟩
    | false =>
      rw [hb] at c1
      have HB := Lib.hid hb
      clear hb
      by_cases hk0 : k < 1
      · have hin : i = n := by omega
        have HS := Lib.hid (HC.out.stop (.inl (by omega)))
        obtain ⟨A, c, hv⟩ : ∃ A c, u4 = Value.slice A acc.length c := by
          rcases hown.2 with ⟨hv, h0⟩ | ⟨gg, cap, cur, hv, _⟩
          · exact ⟨none, 0, by rw [hv, h0]⟩
          · exact ⟨_, _, hv⟩
        rw [hv] at hown ⊢
        have HOW := Lib.hid hown
        clear hown hv hk
        subst hin
        go_wp2
        go_ret
        refine ⟨_, rfl, ?_⟩
        have e1 : rTexts s = (acc, st) := by rw [HE.out, HS.out]; exact if_neg (by rw [HB.out]; decide)
        rw [e1]
        exact ⟨HT.out, by rw [strCellsL_length]; exact HOW.out⟩
      · obtain ⟨k', rfl⟩ : ∃ k', k = k' + 1 := ⟨k - 1, by omega⟩
        have hin : i < n := by omega
        have HC1 := Lib.hid (HC.out.step rText_less rText_rest_le HB.out)
        have hal := HC.out.len
        have ho := rText_any g st wr HT.out.rd (by have := HC.out.rest; omega)
        unfold str at ho
        have HO := Lib.hid ho
        clear ho
        have HOW := Lib.hid hown
        clear hown
        go_wp2_with fail
        refine (HO.out).mono ?_
        rintro e w2 ⟨rfl, hto2⟩
        have hto3 := HT.out.trans hto2
        have hown2 := ownsRow_rd HOW.out hto2.only hglt
        have HT2 := Lib.hid hto3
        have hsz2 := hto3.only.size
        clear hto2 hto3
        generalize (rText st).1 = x at HC1
        generalize (rText st).2 = st2 at HC1 HT2
        go_wp2_with (at_builtin; refine wpList_append_own _ rfl _ _ 23 rfl w.heap.size 9 i0 (.string ⟨#[]⟩) 1 16 Try.underlying23 hi hz0 hz1 hz2 rfl (by decide) _ _ _ rfl (hown2.alloc _) ⟨w2.heap.size, 0, none⟩ 1 1 [Value.string ⟨x.toArray⟩] rfl rfl ?c1 ?c2 ?c3 ?c4 ?c5 ?_)
        case c1 =>
          intro j u hj
          match j, hj with
          | 0, hj => simp at hj; subst hj; simp [Addr.add]
        case c2 => intro u hu; simp at hu; subst hu; rfl
        case c3 => unfold maxLen; omega
        case c4 => omega
        case c5 => simp; omega
        intro v' w3 hown' hgrow _
        have HT3 := Lib.hid (((HT2.out.alloc _).grown hgrow (fun kk hkk => (hown2.lt kk hkk).1) hglt))
        have HOW3 := Lib.hid hown'
        clear hown' hown2 hgrow
        go_wp2
        go_roundw
        case rel => exact ⟨i + 1, k', acc ++ [x], st2, by go_num, by omega, HT3.out, by rw [strCells_snoc, List.length_append]; simpa using HOW3.out, HC1.out⟩
        case measure => simp [intOf]; omega

end Go.Proofs.Ytcamfdmmcbimfaa.Q
