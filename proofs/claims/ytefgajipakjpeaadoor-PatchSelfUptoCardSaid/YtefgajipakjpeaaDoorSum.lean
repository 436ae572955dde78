/-
  Contracts of package digest's absorb and Sum. Condition: the tables stand as the program lays them.
-/
import Derived.Test.YtefgajipakjpeaaDoorPerm
import Derived.Test.YtefgajipakjpeaaDoorByte
import Derived.Lib.BufferWrite
import Derived.Deep.DeepCutAuto
import Derived.Laws.CopyOwn
namespace Go.Proofs.YtefgajipakjpeaaDoor
open Go.RowKit

/-- A byte into its lane. -/
def stepX (s : List UInt8) (a : List Int) (i : Nat) : List Int := a.set (i / 8) (xo (a.getD (i / 8) 0) (IntKind.u64.wrap (IntKind.u64.wrap ((s.getD i 0).toNat : Int) * 2 ^ (8 * (i % 8)))))
def xAt (s : List UInt8) (a : List Int) (k : Nat) : List Int := (List.range k).foldl (stepX s) a
def absorbI (s : List UInt8) (a : List Int) : List Int := permI (xAt s a s.length)
theorem xAt_step (s : List UInt8) (a : List Int) (k : Nat) : xAt s a (k + 1) = stepX s (xAt s a k) k := by unfold xAt; rw [List.range_succ, List.foldl_append]; rfl
theorem xAt_length (s : List UInt8) (a : List Int) (k : Nat) : (xAt s a k).length = a.length := by
  induction k with
  | zero => rfl
  | succ k ih => rw [xAt_step]; unfold stepX; rw [List.length_set, ih]

set_option maxHeartbeats 4000000 in
set_option maxRecDepth 100000 in
theorem absorb_any (ga : Nat) (s : List UInt8) (A0 : List Int) (w : World) (hA : Blk w ga 166 (cellsU A0)) (hl : A0.length = 25) (hs : s.length ≤ 136) (ht : Tabs w) (hg : 2 ≤ ga) :
    Calls Tryd.prog 75 #[.pointer (some ⟨ga, 0, none⟩), str s] w fun e w' => e = .returned (.tuple #[]) ∧ Blk w' ga 166 (cellsU (absorbI s A0)) ∧ w.grownBy w' (some ga) := by
  have HA := Lib.hid hA
  have HT := Lib.hid ht
  have HP : Hid (absorbI s A0 = permI (xAt s A0 s.length)) := rfl
  have HL := Lib.hid hl
  clear hA hl ht
  generalize absorbI s A0 = RES at HP
  unfold str
  have hsz : (ByteArray.mk s.toArray).size = s.length := by show s.toArray.size = _; simp
  go_enter Tryd.func75, Tryd.ntmps75
  go_wp2_with fail
  go_loopw [7] (fun vi wr => ∃ i : Nat, vi = .int .i64 i ∧ i ≤ s.length ∧ Hid (Blk wr ga 166 (cellsU (xAt s A0 i))) ∧ Hid (w.grownBy wr (some ga))) (fun vi _ => s.length - (intOf vi).toNat)
  case atStart => exact ⟨0, rfl, Nat.zero_le _, HA, World.grownBy.refl w _⟩
  case round =>
    obtain ⟨i, rfl, hi, HB, HG⟩ := hrel
    by_cases hil : i < s.length
    · obtain ⟨q, hq⟩ : ∃ q, q = i / 8 := ⟨_, rfl⟩
      obtain ⟨m, hm⟩ : ∃ m, m = i % 8 := ⟨_, rfl⟩
      have hq25 : q < 25 := by omega
      have hm8 : m < 8 := by omega
      have HLx := Lib.hid ((xAt_length s A0 i).trans HL.out)
      have HXS : Hid (xAt s A0 (i + 1) = (xAt s A0 i).set q (xo ((xAt s A0 i).getD q 0) (IntKind.u64.wrap (IntKind.u64.wrap ((s[i]'hil).toNat : Int) * 2 ^ (8 * m))))) := Lib.hid (by
        rw [xAt_step, hq, hm]
        unfold stepX
        rw [List.getD_eq_getElem?_getD (l := s), List.getElem?_eq_getElem hil]
        rfl)
      generalize xAt s A0 i = A at HB HLx HXS
      have ca : wr.cell? ⟨ga, q, none⟩ = some (.int .u64 (A.getD q 0)) := (HB.out.cell q).trans (cellsU_at A q (by rw [HLx.out]; exact hq25))
      have fa : wr.frozen? ⟨ga, q, none⟩ = false := HB.out.frozen q
      generalize A.getD q 0 = av at ca HXS
      have hi0 : (0 : Int) ≤ (i : Int) := by omega
      have hiI : (i : Int) < (s.length : Int) := by omega
      have hiI2 : (i : Int) < 136 := by omega
      have hm0 : (0 : Int) ≤ (m : Int) := by omega
      have hmI : (m : Int) < 8 := by omega
      have hq0 : (0 : Int) ≤ (q : Int) := by omega
      have hqI : (q : Int) < 25 := by omega
      have T1 : Hid ((i : Int).tmod 8 = (m : Int)) := Lib.hid (by rw [Int.tmod_eq_emod_of_nonneg (by omega)]; omega)
      have T2 : Hid ((i : Int).tdiv 8 = (q : Int)) := Lib.hid (by rw [Int.tdiv_eq_ediv_of_nonneg (by omega)]; omega)
      have W1 : Hid (IntKind.i64.wrap (8 * (m : Int)) = 8 * (m : Int)) := Lib.hid (IntWalk.i64_in _ ⟨by omega, by omega⟩)
      have W2 : Hid (IntKind.i64.wrap (q : Int) = (q : Int)) := Lib.hid (IntWalk.i64_in _ ⟨by omega, by omega⟩)
      have W3 : Hid ((8 * (m : Int)).toNat = 8 * m) := Lib.hid (by omega)
      have HH1 := Lib.hid hq
      have HH2 := Lib.hid hm
      clear hq hm
      have hsb : i < (ByteArray.mk s.toArray).size := by rw [hsz]; exact hil
      go_wp2_with fail
      have t1 := T1.out
      have t2 := T2.out
      have w1 := W1.out
      have w2 := W2.out
      have w3 := W3.out
      go_still_tail 17, (by kernel_rfl)
      clear t1 t2 w1 w2 w3
      have hv : bits .xor .u64 av (IntKind.u64.wrap (IntKind.u64.wrap (((ByteArray.mk s.toArray)[i]'hsb).toNat : Int) * 2 ^ (8 * m))) = xo av (IntKind.u64.wrap (IntKind.u64.wrap ((s[i]'hil).toNat : Int) * 2 ^ (8 * m))) := rfl
      rw [hv]
      clear hv
      generalize xo av (IntKind.u64.wrap (IntKind.u64.wrap ((s[i]'hil).toNat : Int) * 2 ^ (8 * m))) = X at HXS ⊢
      have HNEW : Hid (Blk (wr.drew.setCell ⟨ga, q, none⟩ (.int .u64 X)) ga 166 (cellsU (xAt s A0 (i + 1)))) := Lib.hid (by rw [HXS.out, ← cellsU_set]; exact HB.out.set_ q _)
      have HGN : Hid (w.grownBy (wr.drew.setCell ⟨ga, q, none⟩ (.int .u64 X)) (some ga)) := only_setCell (p := ⟨ga, q, none⟩) (show w.grownBy wr.drew (some ga) from ⟨HG.out.os, HG.out.tape, HG.out.output, HG.out.size, HG.out.block⟩) (.inl rfl) _
      change wpList _ _ _ _ _ wr.drew
      go_wp2
      first
        | exact ⟨⟨i + 1, by go_num, by omega, HNEW, HGN⟩, by simp [intOf]; omega⟩
        | (refine ⟨?_, by simp [intOf]; omega⟩; (repeat apply Exists.intro); exact ⟨⟨i + 1, by go_num, by omega, HNEW, HGN⟩, rfl⟩)
    · obtain rfl : i = s.length := by omega
      have HPM := Lib.hid (permute_any ga (xAt s A0 s.length) wr HB.out ((xAt_length s A0 s.length).trans HL.out) (HT.out.grown HG.out hg) hg)
      go_wp2_with fail
      refine (HPM.out).mono ?_
      rintro e w' ⟨rfl, hb, hgr⟩
      have HB2 := Lib.hid hb
      have HG2 := Lib.hid (only_trans HG.out hgr)
      clear hb hgr
      go_wp2
      go_end0
      exact ⟨rfl, by rw [HP.out]; exact HB2.out, HG2.out⟩

theorem or128 : ∀ n : Fin 256, bits .or .u8 (n.val : Int) 128 = ((n.val.toUInt8 ||| 128).toNat : Int) := by decide +kernel
theorem or128_any (x : UInt8) : bits .or .u8 (x.toNat : Int) 128 = ((x ||| 128).toNat : Int) := by
  have h := or128 ⟨x.toNat, x.toNat_lt⟩
  rw [toUInt8_of] at h
  exact h
/-- The last block: padded. -/
def padI (s : List UInt8) : List UInt8 := (s ++ List.replicate (136 - s.length) 0).set s.length 6
def lastI (s : List UInt8) : List UInt8 := (padI s).set 135 ((padI s).getD 135 0 ||| 128)
def zerosI : List Int := List.replicate 25 0
def stAt (s : List UInt8) : Nat → List Int
  | 0 => zerosI
  | k + 1 => absorbI ((s.drop (136 * k)).take 136) (stAt s k)
def byteOf (x : Int) (i : Nat) : UInt8 := (IntKind.u8.wrap (x / 2 ^ (8 * i))).toNat.toUInt8
def outL (x : Int) (i : Nat) : List UInt8 := (List.range i).map (byteOf x)
def outI (a : List Int) (j : Nat) : List UInt8 := (a.take j).flatMap fun x => outL x 8
def finI (s : List UInt8) : List Int := absorbI (lastI (s.drop (136 * (s.length / 136)))) (stAt s (s.length / 136))
/-- The digest. -/
def sumI (s : List UInt8) : List UInt8 := outI (finI s) 4

theorem byteOf_toNat (x : Int) (i : Nat) : ((byteOf x i).toNat : Int) = IntKind.u8.wrap (x / 2 ^ (8 * i)) := by
  unfold byteOf
  have h : IntKind.u8.wrap (x / 2 ^ (8 * i)) = (x / 2 ^ (8 * i)) % 256 := IntKind.wrap_u8 _
  rw [toUInt8_toNat' (by omega)]
  omega
theorem permI_length (a : List Int) : (permI a).length = a.length := permAt_length a 24 (Nat.le_refl _)
theorem absorbI_length (s : List UInt8) (a : List Int) : (absorbI s a).length = a.length := by unfold absorbI; rw [permI_length, xAt_length]
theorem stAt_length (s : List UInt8) (k : Nat) : (stAt s k).length = 25 := by
  induction k with
  | zero => rfl
  | succ k ih => show (absorbI _ _).length = 25; rw [absorbI_length, ih]
theorem padI_length (s : List UInt8) (h : s.length < 136) : (padI s).length = 136 := by simp [padI]; omega
theorem lastI_length (s : List UInt8) (h : s.length < 136) : (lastI s).length = 136 := by simp [lastI, padI_length s h]
theorem finI_length (s : List UInt8) : (finI s).length = 25 := by unfold finI; rw [absorbI_length, stAt_length]
theorem outL_length (x : Int) (i : Nat) : (outL x i).length = i := by simp [outL]
theorem outI_length (a : List Int) : ∀ j, j ≤ a.length → (outI a j).length = 8 * j
  | 0, _ => rfl
  | j + 1, h => by
    unfold outI
    rw [List.take_succ_eq_append_getElem (by omega), List.flatMap_append, List.length_append]
    have := outI_length a j (by omega)
    unfold outI at this
    rw [this]
    simp [outL_length]
    omega
theorem sumI_length (s : List UInt8) : (sumI s).length = 32 := by unfold sumI; rw [outI_length _ 4 (by rw [finI_length]; omega)]
theorem byteCells_set (l : List UInt8) (i : Nat) (x : UInt8) : (Lib.byteCells l).toArray.setIfInBounds i (.int .u8 (x.toNat : Int)) = (Lib.byteCells (l.set i x)).toArray := by
  simp [Lib.byteCells, List.map_set]
theorem byteCells_at (l : List UInt8) (i : Nat) (h : i < l.length) : (Lib.byteCells l).toArray[i]? = some (.int .u8 ((l.getD i 0).toNat : Int)) := by
  simp [Lib.byteCells, h, List.getD]

theorem ownsRow_blk {w : World} {base g m : Nat} {e : TypeId} {xs : List Value} (h : w.ownsRow base e 1 (.slice (some ⟨g, 0, none⟩) m m) m xs) : Blk w g e xs.toArray := by
  rcases h.2 with ⟨hv, _⟩ | ⟨g', cap, cur, hv, _, hg, _, _, hcs, ht⟩
  · simp at hv
  · simp only [Value.slice.injEq, Option.some.injEq, Addr.mk.injEq, and_true, true_and] at hv
    obtain ⟨rfl, rfl⟩ := hv
    unfold Blk
    rw [hg, ← ht, List.take_of_length_le (by rw [Array.length_toList, hcs]; exact Nat.le_refl _), Array.toArray_toList]

/-- copy(row, string). -/
theorem wpList_copy_str {w : World} {ops : Array Oper} {rest : List Oper} {o : Oper} {a : Act} {Q : Exit → Act → World → Prop} (hgd : o.guard = none) (d s : Operand) (dT sT : TypeId)
    (ho : o.op = .call { callee := .builtin .copy, args := #[d, s], argTypes := #[dT, sT] }) (elem : TypeId) (hu : Tryd.prog.underlying dT = some (.slice elem)) (hsz : (Tryd.prog.info? elem).map (·.size) = some 1)
    (g dLen dCap : Nat) (l : List UInt8) (hd : a.eval d = .slice (some ⟨g, 0, none⟩) dLen dCap) (hs : a.eval s = str l) (cur : List Value) (t : TypeId) (hg : Blk w g t cur.toArray) (hle : l.length ≤ dLen) (hfit : l.length ≤ cur.length)
    (h : ∀ w', Blk w' g t (Lib.byteCells l ++ cur.drop l.length).toArray → Below g w w' → wpList Tryd.prog ops Q rest (a.put o.dst (goInt l.length)) w') : wpList Tryd.prog ops Q (o :: rest) a w := by
  refine wpList_plain hgd fun K hK => ?_
  have hz : (ByteArray.mk l.toArray).size = l.length := by show l.toArray.size = _; simp
  have hrun := Lib.run_copy_row_string (P := Tryd.prog) w dT sT o.type elem g 0 dLen dCap ⟨l.toArray⟩ cur.toArray t hu hsz hg (by rw [hz]; exact hle) (by rw [hz]; simpa using hfit)
  unfold str at hs
  have h1 := h (w.setRow g (cur.toArray.toList.take 0 ++ Lib.byteCells (ByteArray.mk l.toArray).data.toList ++ cur.toArray.toList.drop (0 + (ByteArray.mk l.toArray).size)).toArray)
    (by rw [hz]; have h0 : w.heap[g]? = some (.cells cur.toArray t (0, 0)) := hg; have := setRow_heap w g cur.toArray (Lib.byteCells l ++ cur.drop l.length).toArray t (0, 0) h0; simpa [Blk] using this) (below_setRow (Below.refl _ _) (Nat.le_refl _) _)
  unfold Oper.wp
  simp only [execOp, ho, resolve, invoke, builtin, Sem.run_bind, Sem.run_pure, Result.andThen_ok, List.map_toArray, List.map_cons, List.map_nil, hd, hs, hrun]
  rw [hz]
  rw [hz] at h1
  exact hK _ _ h1

set_option maxHeartbeats 8000000 in
set_option maxRecDepth 100000 in
/-- Sum. -/
theorem Sum_any (s : List UInt8) (hs : s.length ≤ 70368744177664) (w : World) (ht : Tabs w) :
    Calls Tryd.prog 47 #[str s] w fun e w' => e = .returned (str (sumI s)) ∧ Below w.heap.size w w' := by
  obtain ⟨i0, hi, hz0, hz1, hz2⟩ := info_parts byteInfo
  have hszB : (Tryd.prog.info? 5).map (·.size) = some 1 := by kernel_rfl
  have HT := Lib.hid ht
  have hw2 : 2 ≤ w.heap.size := ht.size
  clear ht
  have HFI : Hid (finI s = absorbI (lastI (s.drop (136 * (s.length / 136)))) (stAt s (s.length / 136))) := rfl
  have HFL := Lib.hid (finI_length s)
  have HSU : Hid (sumI s = outI (finI s) 4) := rfl
  have HRN : Hid (sumI s ≠ []) := fun h => by have := sumI_length s; rw [h] at this; simp at this
  generalize sumI s = RES at HSU HRN
  generalize finI s = FI at HFI HFL HSU
  have HZ0 : Hid (Blk (w.alloc (.cells (cellsU zerosI) 166)) w.heap.size 166 (cellsU zerosI)) := Blk.new _ _ _
  unfold str
  go_enter Tryd.func47, Tryd.ntmps47
  go_wp2_with fail
  go_loopw [0] (fun vs wr => ∃ (k : Nat) (r : List UInt8), vs = .string ⟨r.toArray⟩ ∧ r = s.drop (136 * k) ∧ 136 * k ≤ s.length ∧ Hid (Blk wr w.heap.size 166 (cellsU (stAt s k))) ∧ Hid (Below w.heap.size w wr)) (fun vs _ => match vs with | .string x => x.size | _ => 0)
  case atStart => exact ⟨0, s, rfl, by simp, by omega, HZ0, (Below.refl _ _).alloc (Nat.le_refl _) _⟩
  case round =>
    obtain ⟨k, r, rfl, hr, hk, HB, HE⟩ := hrel
    have hrl : r.length = s.length - 136 * k := by rw [hr, List.length_drop]
    have hsz : (ByteArray.mk r.toArray).size = r.length := by show r.toArray.size = _; simp
    have HTr := Lib.hid (HT.out.below HE.out hw2)
    have hrle : r.length ≤ 70368744177664 := by omega
    have HRL := Lib.hid hrl
    clear hrl hsz
    by_cases hlong : 136 ≤ r.length
    · have hlI : (136 : Int) ≤ (r.length : Int) := by omega
      have HAB := Lib.hid (absorb_any w.heap.size (r.take 136) (stAt s k) wr HB.out (stAt_length s k) (by rw [List.length_take]; omega) HTr.out hw2)
      have HST : Hid (stAt s (k + 1) = absorbI (r.take 136) (stAt s k)) := Lib.hid (by rw [hr]; rfl)
      have HDR : Hid (r.drop 136 = s.drop (136 * (k + 1))) := Lib.hid (by rw [hr, List.drop_drop]; congr 1)
      have HRR := Lib.hid hr
      clear hr
      unfold str at HAB
      go_wp2_with fail
      rw [extract_to]
      refine (HAB.out).mono ?_
      rintro e w1 ⟨rfl, hb1, hg1⟩
      have HB1 : Hid (Blk w1 w.heap.size 166 (cellsU (stAt s (k + 1)))) := Lib.hid (by rw [HST.out]; exact hb1)
      have HE1 : Hid (Below w.heap.size w w1) := HE.out.grown hg1 HE.out.size (fun g hg => by injection hg with hg; omega)
      clear hb1 hg1
      go_wp2
      go_roundw
      case rel => exact ⟨k + 1, r.drop 136, congrArg Value.string (extract_from r 136), HDR.out, by have := HRL.out; omega, HB1, HE1⟩
      case measure =>
        show ((ByteArray.mk r.toArray).extract 136 r.length).size < (ByteArray.mk r.toArray).size
        rw [extract_from]
        show (r.drop 136).toArray.size < r.toArray.size
        simp
        omega
    · have hk2 : k = s.length / 136 := by have := HRL.out; omega
      subst hk2
      rw [← hr] at HFI
      have hr136 : r.length < 136 := by omega
      clear hr HRL
      have HB' := HB
      have HSTL := Lib.hid (stAt_length s (s.length / 136))
      generalize stAt s (s.length / 136) = ST at HB' HFI HB HSTL
      have hgl : w.heap.size < wr.heap.size := HB.out.lt
      have hd0 : decide ((136 : Int) ≤ (r.length : Int)) = false := decide_eq_false (by omega)
      go_wp2_with (at_make; refine wpList_make_full _ rfl _ _ 61 rfl wr.heap.size 5 i0 (.int .u8 0) 1 Tryd.underlying61 hi hz0 hz1 .i64 .i64 _ _ 136 rfl rfl rfl rfl (by rw [hz2]; omega) (by unfold maxLen; omega) (Nat.le_refl _) ?_)
      intro w1 hown1 hgrow1
      have HR1 : Hid (Blk w1 wr.heap.size 5 (List.replicate 136 (Value.int .u8 0)).toArray) := Lib.hid (by
        have h := ownsRow_blk hown1
        rw [toList_madeCells_one] at h
        exact h)
      have HB1 := Lib.hid (HB.out.grown hgrow1 (by simp))
      have HE1 := Lib.hid (HE.out.grown hgrow1 HE.out.size (fun k hk => by cases hk))
      clear hown1 hgrow1 HB' HE HB HTr
      generalize wr.heap.size = gl at HR1 hgl ⊢
      go_wp2_with (refine wpList_copy_str rfl _ _ 61 9 rfl 5 Tryd.underlying61 hszB gl 136 136 r rfl rfl (List.replicate 136 (.int .u8 0)) 5 HR1.out (by omega) (by simp; omega) ?_)
      intro w2 hb2 hbe2
      have HR2 : Hid (Blk w2 gl 5 (Lib.byteCells (r ++ List.replicate (136 - r.length) 0)).toArray) := Lib.hid (by
        rw [Lib.byteCells_append]
        have e : Lib.byteCells (List.replicate (136 - r.length) 0) = (List.replicate 136 (Value.int .u8 0)).drop r.length := by rw [List.drop_replicate]; unfold Lib.byteCells; rw [List.map_replicate]; rfl
        rw [e]
        exact hb2)
      have HB2 := Lib.hid (HB1.out.below hbe2 hgl)
      have HE2 := Lib.hid (HE1.out.trans (hbe2.mono (Nat.le_of_lt hgl)))
      clear hb2 hbe2 HR1 HB1 HE1
      have hpl : (r ++ List.replicate (136 - r.length) (0 : UInt8)).length = 136 := by simp; omega
      have c0 : w2.cell? ⟨gl, r.length, none⟩ = some (.int .u8 (((r ++ List.replicate (136 - r.length) (0 : UInt8)).getD r.length 0).toNat : Int)) := (HR2.out.cell r.length).trans (byteCells_at _ r.length (by rw [hpl]; exact hr136))
      have f0 : w2.frozen? ⟨gl, r.length, none⟩ = false := HR2.out.frozen r.length
      have HR3 : Hid (Blk (w2.setCell ⟨gl, r.length, none⟩ (.int .u8 6)) gl 5 (Lib.byteCells (padI r)).toArray) := Lib.hid (by
        have h := HR2.out.set_ r.length (.int .u8 (((6 : UInt8).toNat : Nat) : Int))
        rw [byteCells_set] at h
        exact h)
      have HB3 : Hid (Blk (w2.setCell ⟨gl, r.length, none⟩ (.int .u8 6)) w.heap.size 166 (cellsU ST)) := HB2.out.far (by show w.heap.size ≠ gl; omega) _
      have HE3 : Hid (Below w.heap.size w (w2.setCell ⟨gl, r.length, none⟩ (.int .u8 6))) := HE2.out.setCell (by show w.heap.size ≤ gl; omega) _
      have HPL := Lib.hid hpl
      clear hpl
      have hrI : (r.length : Int) < 136 := by omega
      go_upto_region 8 with (fail)
      generalize w2.setCell ⟨gl, r.length, none⟩ (.int .u8 6) = w3 at HR3 HB3 HE3 ⊢
      clear HR2 HB2 HE2 c0 f0 HPL
      have HPD := Lib.hid (padI_length r hr136)
      have HLS : Hid (lastI r = (padI r).set 135 ((padI r).getD 135 0 ||| 128)) := rfl
      have c135 : w3.cell? ⟨gl, 135, none⟩ = some (.int .u8 (((padI r).getD 135 0).toNat : Int)) := (HR3.out.cell 135).trans (byteCells_at _ 135 (by rw [HPD.out]; omega))
      have f135 : w3.frozen? ⟨gl, 135, none⟩ = false := HR3.out.frozen 135
      have hor := or128_any ((padI r).getD 135 0)
      have HR4 : Hid (Blk (w3.setCell ⟨gl, 135, none⟩ (.int .u8 (((padI r).getD 135 0 ||| 128).toNat : Int))) gl 5 (Lib.byteCells (lastI r)).toArray) := Lib.hid (by
        have h := HR3.out.set_ 135 (.int .u8 (((padI r).getD 135 0 ||| 128).toNat : Int))
        rw [byteCells_set] at h
        rw [HLS.out]
        exact h)
      have HLL := Lib.hid (lastI_length r hr136)
      generalize (padI r).getD 135 0 ||| 128 = y at hor HR4
      generalize (padI r).getD 135 0 = x at c135 hor
      have HB4 : Hid (Blk (w3.setCell ⟨gl, 135, none⟩ (.int .u8 (y.toNat : Int))) w.heap.size 166 (cellsU ST)) := HB3.out.far (by show w.heap.size ≠ gl; omega) _
      have HE4 : Hid (Below w.heap.size w (w3.setCell ⟨gl, 135, none⟩ (.int .u8 (y.toNat : Int)))) := HE3.out.setCell (by show w.heap.size ≤ gl; omega) _
      clear HLS
      go_upto_region 9 with (fail)
      clear c135 f135 hor
      generalize w3.setCell ⟨gl, 135, none⟩ (.int .u8 (y.toNat : Int)) = w4 at HR4 HB4 HE4 ⊢
      have hcv : (convert 61 9 (.slice (some ⟨gl, 0, none⟩) 136 136)).run Tryd.prog w4 = .ok (.string ⟨(lastI r).toArray⟩) w4 := conv_own (B := gl) (n := 136) ⟨by rw [Lib.byteCells_length, HLL.out], .inr ⟨gl, 136, (Lib.byteCells (lastI r)).toArray, rfl, Nat.le_refl _, HR4.out, Nat.le_refl _, by unfold maxLen; omega, by rw [List.size_toArray, Lib.byteCells_length, HLL.out], by rw [List.take_of_length_le (by rw [Lib.byteCells_length, HLL.out]; omega)]⟩⟩
      have HTr4 := Lib.hid (HT.out.below HE4.out hw2)
      have HAB := Lib.hid (absorb_any w.heap.size (lastI r) ST w4 HB4.out HSTL.out (by rw [HLL.out]; omega) HTr4.out hw2)
      rw [← HFI.out] at HAB
      unfold str at HAB
      go_wp2_with fail
      refine (HAB.out).mono ?_
      rintro e w5 ⟨rfl, hb5, hg5⟩
      have HB5 := Lib.hid hb5
      have HE5 : Hid (Below w.heap.size w w5) := HE4.out.grown hg5 HE4.out.size (fun g hg => by injection hg with hg; omega)
      clear hb5 hg5 hcv HAB HB4 HE4 HR4 HTr4 HR3 HB3 HE3
      go_wp2_with fail
      have HNB : Hid (LB w5.heap.size w5.heap.size [] (w5.alloc (.cells #[.pointer none, .slice none 0 0] 69))) := LB.new w5 (Nat.le_refl _)
      have hbb : w.heap.size < w5.heap.size := HB5.out.lt
      go_loopw [35] (fun vj wr => ∃ j : Nat, vj = .int .i64 j ∧ j ≤ 4 ∧ Hid (LB w5.heap.size w5.heap.size (outI FI j) wr) ∧ Hid (Below w5.heap.size w5 wr)) (fun vj _ => 4 - (intOf vj).toNat)
      case atStart => exact ⟨0, rfl, Nat.zero_le _, HNB, (Below.refl _ _).alloc (Nat.le_refl _) _⟩
      case round =>
        clear HNB
        obtain ⟨j, rfl, hj, HLB, HBE⟩ := hrel
        by_cases hj4 : j < 4
        · have HFw := Lib.hid (HB5.out.below HBE.out hbb)
          have cl : wr.cell? ⟨w.heap.size, j, none⟩ = some (.int .u64 (FI.getD j 0)) := (HFw.out.cell j).trans (cellsU_at FI j (by rw [HFL.out]; omega))
          have HOS : Hid (outI FI (j + 1) = outI FI j ++ outL (FI.getD j 0) 8) := Lib.hid (by
            unfold outI
            rw [List.take_succ_eq_append_getElem (by rw [HFL.out]; omega), List.flatMap_append]
            simp [List.getD, List.getElem?_eq_getElem (show j < FI.length by rw [HFL.out]; omega)])
          have HOL := Lib.hid (outI_length FI j (by rw [HFL.out]; omega))
          generalize FI.getD j 0 = L at cl HOS
          generalize outI FI j = acc at HLB HOS HOL
          have hj0 : (0 : Int) ≤ (j : Int) := by omega
          have hjI : (j : Int) < 4 := by omega
          obtain ⟨wo, rfl⟩ : ∃ wo : World, wo = wr := ⟨_, rfl⟩
          go_wp2_with fail
          go_loopw [39] (fun vi wr => ∃ i : Nat, vi = .int .i64 i ∧ i ≤ 8 ∧ Hid (LB w5.heap.size w5.heap.size (acc ++ outL L i) wr) ∧ Hid (Below w5.heap.size w5 wr)) (fun vi _ => 8 - (intOf vi).toNat)
          case atStart => exact ⟨0, rfl, Nat.zero_le _, Lib.hid (by show LB _ _ (acc ++ []) _; rw [List.append_nil]; exact HLB.out), HBE⟩
          case round =>
            obtain ⟨i, rfl, hi, HLI, HBI⟩ := hrel
            by_cases hi8 : i < 8
            · have HWB := Lib.hid (HLI.out.writeByte (byteOf L i) (by rw [List.length_append, outL_length, HOL.out]; omega) HBI.out.size)
              have HOI : Hid (outL L (i + 1) = outL L i ++ [byteOf L i]) := Lib.hid (by unfold outL; rw [List.range_succ, List.map_append]; rfl)
              rw [byteOf_toNat] at HWB
              have hi0 : (0 : Int) ≤ (i : Int) := by omega
              have hiI : (i : Int) < 8 := by omega
              go_wp2_with fail
              refine (HWB.out).mono ?_
              rintro e w6 ⟨rfl, hl6, hb6⟩
              have HL6 : Hid (LB w5.heap.size w5.heap.size (acc ++ outL L (i + 1)) w6) := Lib.hid (by rw [HOI.out, ← List.append_assoc]; exact hl6)
              have HB6 := Lib.hid (HBI.out.trans hb6)
              clear hl6 hb6
              go_wp2
              go_roundw
              case rel => exact ⟨i + 1, by go_num, by omega, HL6, HB6⟩
              case measure => simp [intOf]; omega
            · obtain rfl : i = 8 := by omega
              rw [← HOS.out] at HLI
              go_wp2
              go_roundw
              case rel => exact ⟨j + 1, by go_num, by omega, HLI, HBI⟩
              case measure => simp [intOf]; omega
        · obtain rfl : j = 4 := by omega
          rw [← HSU.out] at HLB
          have HSX := Lib.hid (HLB.out.string HRN.out)
          unfold str at HSX
          go_wp2_with fail
          refine (HSX.out).mono ?_
          rintro e w7 ⟨rfl, hb7⟩
          have HE7 := Lib.hid (HE5.out.trans ((HBE.out.trans hb7).mono (Nat.le_of_lt hbb)))
          clear hb7
          go_wp2
          go_ret
          exact ⟨rfl, HE7.out⟩




end Go.Proofs.YtefgajipakjpeaaDoor
