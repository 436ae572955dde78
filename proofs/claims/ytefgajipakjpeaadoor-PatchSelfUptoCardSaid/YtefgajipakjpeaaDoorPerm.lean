/-
  Contract of the permutation of package digest: the 25 lanes behind the call are permI of those ahead of it; the two tables are read, nothing else turns but the lanes and new blocks. Condition: the tables stand as the program lays them.
-/
import Derived.Test.YtefgajipakjpeaaDoorKec
import Derived.Deep.RegionHeld3
import Derived.LoopTactic
import Derived.StillTailTactics
import Derived.Deep.MidRow
namespace Go.Proofs.YtefgajipakjpeaaDoor
open Go.RowKit

/-- The two tables. -/
structure Tabs (w : World) : Prop where
  cons : ∀ i, i < 24 → w.cell? ⟨0, i, none⟩ = some (.int .u64 (constsL.getD i 0))
  turns : ∀ i, i < 25 → w.cell? ⟨1, i, none⟩ = some (.int .i64 ((turnsL.getD i 0 : Nat) : Int))
  size : 2 ≤ w.heap.size
theorem Tabs.keep {w w' : World} (h : Tabs w) (hk : ∀ p : Addr, p.block < 2 → w'.cell? p = w.cell? p) (hs : w.heap.size ≤ w'.heap.size) : Tabs w' :=
  ⟨fun i hi => (hk _ (by show 0 < 2; omega)).trans (h.cons i hi), fun i hi => (hk _ (by show 1 < 2; omega)).trans (h.turns i hi), Nat.le_trans h.size hs⟩
theorem Tabs.below {B : Nat} {w w' : World} (h : Tabs w) (hb : Below B w w') (hB : 2 ≤ B) : Tabs w' := h.keep (fun _ hp => hb.cell (by omega)) hb.size
theorem Tabs.grown {g : Nat} {w w' : World} (h : Tabs w) (hb : w.grownBy w' (some g)) (hB : 2 ≤ g) : Tabs w' :=
  h.keep (fun p hp => World.cell?_of_block (hb.block p.block (by have := h.size; omega) (fun e => by injection e with e; omega))) hb.size

def cellsU (l : List Int) : Array Value := (l.map (Value.int .u64)).toArray
theorem cellsU_at (l : List Int) (i : Nat) (h : i < l.length) : (cellsU l)[i]? = some (.int .u64 (l.getD i 0)) := by
  simp [cellsU, h, List.getD]
theorem cellsU_set (l : List Int) (i : Nat) (x : Int) : (cellsU l).setIfInBounds i (.int .u64 x) = cellsU (l.set i x) := by
  simp [cellsU, List.map_set]
theorem below_drewN {B : Nat} {a w : World} (h : Below B a w) (n : Nat) : Below B a (w.drewN n) := ⟨h.os, h.tape, h.output, h.size, h.block⟩
theorem turns_lt (i : Nat) (h : i < 25) : turnsL.getD i 0 < 64 := by
  have : ∀ j : Fin 25, turnsL.getD j.val 0 < 64 := by decide
  exact this ⟨i, h⟩

def constV : List Value := constsL.map (Value.int .u64)
theorem constInfo : (Tryd.prog.info? 208).map (·.size) = some constV.length := by kernel_rfl
theorem Tabs.range {w : World} (h : Tabs w) : w.rangeAt 0 0 constV := fun j v hv => by
  have hj : j < 24 := (List.getElem?_eq_some_iff.1 hv).1
  have h1 : constV[j]? = some (.int .u64 (constsL.getD j 0)) := by
    have hj' : j < constsL.length := hj
    simp [constV, List.getD, List.getElem?_eq_getElem hj']
  rw [h1] at hv
  injection hv with hv
  subst hv
  rw [Nat.zero_add]
  exact h.cons j hj
theorem const_at (w : World) : ∀ (i : Nat), i < 24 → (Instr.index 208 (.agg constV.toArray) (.int .i64 (i : Int))).run Tryd.prog w = .ok (.int .u64 (constsL.getD i 0)) w
  | 0, _ => by kernel_rfl
  | 1, _ => by kernel_rfl
  | 2, _ => by kernel_rfl
  | 3, _ => by kernel_rfl
  | 4, _ => by kernel_rfl
  | 5, _ => by kernel_rfl
  | 6, _ => by kernel_rfl
  | 7, _ => by kernel_rfl
  | 8, _ => by kernel_rfl
  | 9, _ => by kernel_rfl
  | 10, _ => by kernel_rfl
  | 11, _ => by kernel_rfl
  | 12, _ => by kernel_rfl
  | 13, _ => by kernel_rfl
  | 14, _ => by kernel_rfl
  | 15, _ => by kernel_rfl
  | 16, _ => by kernel_rfl
  | 17, _ => by kernel_rfl
  | 18, _ => by kernel_rfl
  | 19, _ => by kernel_rfl
  | 20, _ => by kernel_rfl
  | 21, _ => by kernel_rfl
  | 22, _ => by kernel_rfl
  | 23, _ => by kernel_rfl
  | n + 24, h => absurd h (by omega)

set_option maxHeartbeats 16000000 in
set_option maxRecDepth 100000 in
theorem permute_any (ga : Nat) (A0 : List Int) (w : World) (hA : Blk w ga 166 (cellsU A0)) (hl : A0.length = 25) (ht : Tabs w) (hg : 2 ≤ ga) :
    Calls Tryd.prog 89 #[.pointer (some ⟨ga, 0, none⟩)] w fun e w' => e = .returned (.tuple #[]) ∧ Blk w' ga 166 (cellsU (permI A0)) ∧ w.grownBy w' (some ga) := by
  have HA := Lib.hid hA
  have HT := Lib.hid ht
  have HP : Hid (permI A0 = permAt A0 24) := rfl
  have HL := Lib.hid hl
  clear hA hl
  generalize permI A0 = RES at HP
  have HCR := Lib.hid ht.range
  have HCI := Lib.hid constInfo
  have HCX : Hid (∀ (w : World) (i : Nat), i < 24 → (Instr.index 208 (.agg constV.toArray) (.int .i64 (i : Int))).run Tryd.prog w = .ok (.int .u64 (constsL.getD i 0)) w) := const_at
  generalize constV = CS at HCR HCI HCX
  clear ht
  go_enter Tryd.func89, Tryd.ntmps89
  go_wp2_with (refine wpList_load_mid rfl 208 _ rfl 0 0 rfl CS _ HCR.out Tryd.underlying208 rfl HCI.out ?_)
  go_loopw [16] (fun vc wr => ∃ c : Nat, vc = .int .i64 c ∧ c ≤ 24 ∧ Hid (Blk wr ga 166 (cellsU (permAt A0 c))) ∧ Hid (w.grownBy wr (some ga))) (fun vc _ => 24 - (intOf vc).toNat)
  case atStart => exact ⟨0, rfl, Nat.zero_le _, HA, World.grownBy.refl w _⟩
  case round =>
    obtain ⟨c, rfl, hc, HB, HG⟩ := hrel
    by_cases hc24 : c < 24
    · have HLc := Lib.hid ((permAt_length A0 c hc).trans HL.out)
      have HST := Lib.hid (permAt_step A0 c hc24)
      have hidx := HCX.out wr c hc24
      generalize permAt A0 c = A at HB HLc HST
      generalize constsL.getD c 0 = cc at HST hidx
      have hc0 : (0 : Int) ≤ (c : Int) := by omega
      have hcI : (c : Int) < 24 := by omega
      have HTr := Lib.hid (HT.out.grown HG.out hg)
      obtain ⟨wo, rfl⟩ : ∃ wo : World, wo = wr := ⟨_, rfl⟩
      have hgo : ga < wo.heap.size := HB.out.lt
      go_wp2_with fail
      go_loopw [20] (fun vi wr => ∃ i : Nat, vi = .int .i64 i ∧ i ≤ 25 ∧ Hid (Blk wr wo.heap.size 209 (cellsU (pAt A i))) ∧ Hid (Below wo.heap.size wo wr)) (fun vi _ => 25 - (intOf vi).toNat)
      case atStart => exact ⟨0, rfl, Nat.zero_le _, Blk.new _ _ _, (Below.refl _ _).alloc (Nat.le_refl _) _⟩
      case round =>
        obtain ⟨i, rfl, hi, HPB, HBE⟩ := hrel
        by_cases hi25 : i < 25
        · obtain ⟨m, hm⟩ : ∃ m, m = i % 5 := ⟨_, rfl⟩
          have hm5 : m < 5 := by omega
          have HPL := Lib.hid (pAt_length A i)
          have HPS : Hid (pAt A (i + 1) = (pAt A i).set m (xo ((pAt A i).getD m 0) (A.getD i 0))) := Lib.hid (by rw [pAt_step, hm]; rfl)
          have HAw := Lib.hid (HB.out.below HBE.out hgo)
          generalize pAt A i = P at HPB HPS HPL
          have ca : wr.cell? ⟨ga, i, none⟩ = some (.int .u64 (A.getD i 0)) := (HAw.out.cell i).trans (cellsU_at A i (by rw [HLc.out]; exact hi25))
          have cp : wr.cell? ⟨wo.heap.size, m, none⟩ = some (.int .u64 (P.getD m 0)) := (HPB.out.cell m).trans (cellsU_at P m (by rw [HPL.out]; exact hm5))
          have fp : wr.frozen? ⟨wo.heap.size, m, none⟩ = false := HPB.out.frozen m
          generalize A.getD i 0 = va at ca HPS
          generalize P.getD m 0 = pm at cp HPS
          have HPB2 : Hid (Blk (wr.setCell ⟨wo.heap.size, m, none⟩ (.int .u64 (bits .xor .u64 pm va))) wo.heap.size 209 (cellsU (pAt A (i + 1)))) := Lib.hid (by rw [HPS.out, ← cellsU_set]; exact HPB.out.set_ m _)
          have hi0 : (0 : Int) ≤ (i : Int) := by omega
          have hiI : (i : Int) < 25 := by omega
          have e1 : (i : Int) % 5 = (m : Int) := by omega
          have hm0 : (0 : Int) ≤ (m : Int) := by omega
          have hmI : (m : Int) < 5 := by omega
          have HM := Lib.hid hm
          clear hm
          go_wp2
          go_quiet (fail)
          go_wp2
          exact ⟨⟨i + 1, by go_num, by omega, HPB2, (below_drewN HBE.out _).setCell (Nat.le_refl _) _⟩, by simp [intOf]; omega⟩
        · obtain rfl : i = 25 := by omega
          have HPL := Lib.hid (pAt_length A 25)
          have HRO : Hid (roundI A cc = (aAt (bAt A (pAt A 25) 25) A 25).set 0 (xo ((aAt (bAt A (pAt A 25) 25) A 25).getD 0 0) cc)) := rfl
          generalize pAt A 25 = P at HPB HPL HRO
          obtain ⟨w2, rfl⟩ : ∃ w2 : World, w2 = wr := ⟨_, rfl⟩
          have hpl2 : wo.heap.size < w2.heap.size := HPB.out.lt
          have hga2 : ga < w2.heap.size := by omega
          go_wp2_with fail
          go_loopw [35] (fun vi wr => ∃ i : Nat, vi = .int .i64 i ∧ i ≤ 25 ∧ Hid (Blk wr w2.heap.size 166 (cellsU (bAt A P i))) ∧ Hid (Below w2.heap.size w2 wr)) (fun vi _ => 25 - (intOf vi).toNat)
          case atStart => exact ⟨0, rfl, Nat.zero_le _, Blk.new _ _ _, (Below.refl _ _).alloc (Nat.le_refl _) _⟩
          case round =>
            obtain ⟨i, rfl, hi, HBB, HBF⟩ := hrel
            by_cases hi25 : i < 25
            · obtain ⟨x, hx⟩ : ∃ x, x = i % 5 := ⟨_, rfl⟩
              obtain ⟨y, hy⟩ : ∃ y, y = i / 5 := ⟨_, rfl⟩
              obtain ⟨x4, hx4⟩ : ∃ x4, x4 = (x + 4) % 5 := ⟨_, rfl⟩
              obtain ⟨x1, hx1⟩ : ∃ x1, x1 = (x + 1) % 5 := ⟨_, rfl⟩
              obtain ⟨r, hr⟩ : ∃ r, r = (2 * x + 3 * y) % 5 := ⟨_, rfl⟩
              obtain ⟨q, hq⟩ : ∃ q, q = y + 5 * r := ⟨_, rfl⟩
              have HBL := Lib.hid (bAt_length A P i)
              have HBS : Hid (bAt A P (i + 1) = (bAt A P i).set q (ro (xo (A.getD i 0) (xo (P.getD x4 0) (ro (P.getD x1 0) 1))) (turnsL.getD i 0))) := Lib.hid (by rw [bAt_step, hq, hr, hx4, hx1, hy, hx]; rfl)
              generalize bAt A P i = Q at HBB HBS HBL
              have hq25 : q < 25 := by omega
              have hx45 : x4 < 5 := by omega
              have hx15 : x1 < 5 := by omega
              have ca : wr.cell? ⟨ga, i, none⟩ = some (.int .u64 (A.getD i 0)) := (((HB.out.below HBE.out hgo).below HBF.out hga2).cell i).trans (cellsU_at A i (by rw [HLc.out]; exact hi25))
              have HPw := Lib.hid (HPB.out.below HBF.out hpl2)
              have cp4 : wr.cell? ⟨wo.heap.size, x4, none⟩ = some (.int .u64 (P.getD x4 0)) := (HPw.out.cell x4).trans (cellsU_at P x4 (by rw [HPL.out]; exact hx45))
              have cp1 : wr.cell? ⟨wo.heap.size, x1, none⟩ = some (.int .u64 (P.getD x1 0)) := (HPw.out.cell x1).trans (cellsU_at P x1 (by rw [HPL.out]; exact hx15))
              have HTw := Lib.hid ((HTr.out.below HBE.out (by omega)).below HBF.out (by omega))
              have ct : wr.cell? ⟨1, i, none⟩ = some (.int .i64 ((turnsL.getD i 0 : Nat) : Int)) := HTw.out.turns i hi25
              have htl := turns_lt i hi25
              have cq : wr.cell? ⟨w2.heap.size, q, none⟩ = some (.int .u64 (Q.getD q 0)) := (HBB.out.cell q).trans (cellsU_at Q q (by rw [HBL.out]; exact hq25))
              have fq : wr.frozen? ⟨w2.heap.size, q, none⟩ = false := HBB.out.frozen q
              generalize A.getD i 0 = va at ca HBS
              generalize P.getD x4 0 = p4 at cp4 HBS
              generalize P.getD x1 0 = p1 at cp1 HBS
              generalize turnsL.getD i 0 = t at ct htl HBS
              generalize Q.getD q 0 = qv at cq
              have HBB2 : Hid (Blk (wr.setCell ⟨w2.heap.size, q, none⟩ (.int .u64 (ro (xo va (xo p4 (ro p1 1))) t))) w2.heap.size 166 (cellsU (bAt A P (i + 1)))) := Lib.hid (by rw [HBS.out, ← cellsU_set]; exact HBB.out.set_ q _)
              have hi0 : (0 : Int) ≤ (i : Int) := by omega
              have hiI : (i : Int) < 25 := by omega
              have e1 : (i : Int) % 5 = (x : Int) := by omega
              have e2 : (i : Int) / 5 = (y : Int) := by omega
              have e3 : ((x : Int) + 4) % 5 = (x4 : Int) := by omega
              have e4 : ((x : Int) + 1) % 5 = (x1 : Int) := by omega
              have e5 : (2 * (x : Int) + 3 * (y : Int)) % 5 = (r : Int) := by omega
              have e6 : (y : Int) + 5 * (r : Int) = (q : Int) := by omega
              have hx0 : (0 : Int) ≤ (x : Int) := by omega
              have hxI : (x : Int) < 5 := by omega
              have hy0 : (0 : Int) ≤ (y : Int) := by omega
              have hyI : (y : Int) < 5 := by omega
              have hx40 : (0 : Int) ≤ (x4 : Int) := by omega
              have hx4I : (x4 : Int) < 5 := by omega
              have hx10 : (0 : Int) ≤ (x1 : Int) := by omega
              have hx1I : (x1 : Int) < 5 := by omega
              have hr0 : (0 : Int) ≤ (r : Int) := by omega
              have hrI : (r : Int) < 5 := by omega
              have hq0 : (0 : Int) ≤ (q : Int) := by omega
              have hqI : (q : Int) < 25 := by omega
              have HH1 := Lib.hid hx
              have HH2 := Lib.hid hy
              have HH3 := Lib.hid hx4
              have HH4 := Lib.hid hx1
              have HH5 := Lib.hid hr
              have HH6 := Lib.hid hq
              clear hx hy hx4 hx1 hr hq
              go_wp2
              go_quiet (fail)
              have ca' : (wr.drewN nq).cell? ⟨ga, i, none⟩ = some (.int .u64 va) := ca
              have cp4' : (wr.drewN nq).cell? ⟨wo.heap.size, x4, none⟩ = some (.int .u64 p4) := cp4
              have cp1' : (wr.drewN nq).cell? ⟨wo.heap.size, x1, none⟩ = some (.int .u64 p1) := cp1
              have ct' : (wr.drewN nq).cell? ⟨1, i, none⟩ = some (.int .i64 (t : Int)) := ct
              have cq' : (wr.drewN nq).cell? ⟨w2.heap.size, q, none⟩ = some (.int .u64 qv) := cq
              have fq' : (wr.drewN nq).frozen? ⟨w2.heap.size, q, none⟩ = false := fq
              have HBB3 : Hid (∀ n, Blk (((wr.drewN nq).drewN n).setCell ⟨w2.heap.size, q, none⟩ (.int .u64 (ro (xo va (xo p4 (ro p1 1))) t))) w2.heap.size 166 (cellsU (bAt A P (i + 1)))) := fun n => HBB2.out
              have HBF2 : Hid (Below w2.heap.size w2 (wr.drewN nq)) := below_drewN HBF.out _
              clear ca cp4 cp1 ct cq fq HBB2 HPw HTw HBB HBF
              generalize wr.drewN nq = w4 at ca' cp4' cp1' ct' cq' fq' HBB3 HBF2 ⊢
              go_wp2_with fail
              go_quiet ((go_at_call 90; exact Calls.quiet_of_same ((Rot_any p1 1 (by omega) _).mono fun _ _ ⟨h1, h2⟩ => ⟨h1, h2.symm⟩)))
              go_wp2_with fail
              refine (Rot_any _ t htl _).mono ?_
              rintro e w' ⟨rfl, rfl⟩
              go_wp2
              refine ⟨?_, by simp [intOf]; omega⟩
              (repeat apply Exists.intro)
              exact ⟨⟨i + 1, by go_num, by omega, HBB3.out _, (below_drewN HBF2.out _).setCell (Nat.le_refl w2.heap.size) _⟩, rfl⟩
            · obtain rfl : i = 25 := by omega
              have HBL := Lib.hid (bAt_length A P 25)
              generalize bAt A P 25 = Bf at HBB HBL HRO
              obtain ⟨w3, rfl⟩ : ∃ w3 : World, w3 = wr := ⟨_, rfl⟩
              have HA3 := Lib.hid ((HB.out.below HBE.out hgo).below HBF.out hga2)
              have hbl3 : w2.heap.size < w3.heap.size := HBB.out.lt
              go_wp2_with fail
              go_loopw [75] (fun vi wr => ∃ i : Nat, vi = .int .i64 i ∧ i ≤ 25 ∧ Hid (Blk wr ga 166 (cellsU (aAt Bf A i))) ∧ Hid (w3.grownBy wr (some ga))) (fun vi _ => 25 - (intOf vi).toNat)
              case atStart => exact ⟨0, rfl, Nat.zero_le _, HA3, World.grownBy.refl w3 _⟩
              case round =>
                obtain ⟨i, rfl, hi, HAA, HGG⟩ := hrel
                by_cases hi25 : i < 25
                · obtain ⟨x, hx⟩ : ∃ x, x = i % 5 := ⟨_, rfl⟩
                  obtain ⟨y, hy⟩ : ∃ y, y = i - x := ⟨_, rfl⟩
                  obtain ⟨x1, hx1⟩ : ∃ x1, x1 = (x + 1) % 5 := ⟨_, rfl⟩
                  obtain ⟨x2, hx2⟩ : ∃ x2, x2 = (x + 2) % 5 := ⟨_, rfl⟩
                  obtain ⟨j1, hj1⟩ : ∃ j1, j1 = y + x1 := ⟨_, rfl⟩
                  obtain ⟨j2, hj2⟩ : ∃ j2, j2 = y + x2 := ⟨_, rfl⟩
                  have HAL := Lib.hid ((aAt_length Bf A i).trans HLc.out)
                  have HAS : Hid (aAt Bf A (i + 1) = (aAt Bf A i).set i (xo (Bf.getD i 0) (an (no (Bf.getD j1 0)) (Bf.getD j2 0)))) := Lib.hid (by rw [aAt_step, hj1, hj2, hx1, hx2, hy, hx]; rfl)
                  generalize aAt Bf A i = A4 at HAA HAL HAS
                  have hj125 : j1 < 25 := by omega
                  have hj225 : j2 < 25 := by omega
                  have HBBw := Lib.hid (HBB.out.grown HGG.out (fun e => by injection e with e; omega))
                  have cb0 : wr.cell? ⟨w2.heap.size, i, none⟩ = some (.int .u64 (Bf.getD i 0)) := (HBBw.out.cell i).trans (cellsU_at Bf i (by rw [HBL.out]; exact hi25))
                  have cb1 : wr.cell? ⟨w2.heap.size, j1, none⟩ = some (.int .u64 (Bf.getD j1 0)) := (HBBw.out.cell j1).trans (cellsU_at Bf j1 (by rw [HBL.out]; exact hj125))
                  have cb2 : wr.cell? ⟨w2.heap.size, j2, none⟩ = some (.int .u64 (Bf.getD j2 0)) := (HBBw.out.cell j2).trans (cellsU_at Bf j2 (by rw [HBL.out]; exact hj225))
                  have cg : wr.cell? ⟨ga, i, none⟩ = some (.int .u64 (A4.getD i 0)) := (HAA.out.cell i).trans (cellsU_at A4 i (by rw [HAL.out]; exact hi25))
                  have fg : wr.frozen? ⟨ga, i, none⟩ = false := HAA.out.frozen i
                  generalize Bf.getD i 0 = b0 at cb0 HAS
                  generalize Bf.getD j1 0 = b1 at cb1 HAS
                  generalize Bf.getD j2 0 = b2 at cb2 HAS
                  generalize A4.getD i 0 = av at cg
                  have HAA2 : Hid (Blk (wr.setCell ⟨ga, i, none⟩ (.int .u64 (xo b0 (an (no b1) b2)))) ga 166 (cellsU (aAt Bf A (i + 1)))) := Lib.hid (by rw [HAS.out, ← cellsU_set]; exact HAA.out.set_ i _)
                  have HGG2 : Hid (w3.grownBy (wr.setCell ⟨ga, i, none⟩ (.int .u64 (xo b0 (an (no b1) b2)))) (some ga)) := only_setCell (p := ⟨ga, i, none⟩) HGG.out (.inl rfl) _
                  have hne : ¬ (w2.heap.size = ga) := by omega
                  have hi0 : (0 : Int) ≤ (i : Int) := by omega
                  have hiI : (i : Int) < 25 := by omega
                  have e1 : (i : Int) % 5 = (x : Int) := by omega
                  have e2 : (i : Int) - (x : Int) = (y : Int) := by omega
                  have hx0 : (0 : Int) ≤ (x : Int) := by omega
                  have hxI : (x : Int) < 5 := by omega
                  have hy0 : (0 : Int) ≤ (y : Int) := by omega
                  have hyI : (y : Int) < 25 := by omega
                  have hx10 : (0 : Int) ≤ (x1 : Int) := by omega
                  have hx1I : (x1 : Int) < 5 := by omega
                  have hx20 : (0 : Int) ≤ (x2 : Int) := by omega
                  have hx2I : (x2 : Int) < 5 := by omega
                  have hj10 : (0 : Int) ≤ (j1 : Int) := by omega
                  have hj1I : (j1 : Int) < 25 := by omega
                  have hj20 : (0 : Int) ≤ (j2 : Int) := by omega
                  have hj2I : (j2 : Int) < 25 := by omega
                  have E3 : Hid (((x : Int) + 1) % 5 = (x1 : Int)) := Lib.hid (by omega)
                  have E4 : Hid (((x : Int) + 2) % 5 = (x2 : Int)) := Lib.hid (by omega)
                  have T3 : Hid (((x : Int) + 1).tmod 5 = (x1 : Int)) := Lib.hid (by rw [Int.tmod_eq_emod_of_nonneg (by omega)]; omega)
                  have T4 : Hid (((x : Int) + 2).tmod 5 = (x2 : Int)) := Lib.hid (by rw [Int.tmod_eq_emod_of_nonneg (by omega)]; omega)
                  have W1 : Hid (IntKind.i64.wrap ((x : Int) + 1) = (x : Int) + 1) := Lib.hid (IntWalk.i64_in _ ⟨by omega, by omega⟩)
                  have W2 : Hid (IntKind.i64.wrap ((x : Int) + 2) = (x : Int) + 2) := Lib.hid (IntWalk.i64_in _ ⟨by omega, by omega⟩)
                  have W3 : Hid (IntKind.i64.wrap ((y : Int) + (x1 : Int)) = (j1 : Int)) := Lib.hid (by rw [IntWalk.i64_in _ ⟨by omega, by omega⟩]; omega)
                  have W4 : Hid (IntKind.i64.wrap ((y : Int) + (x2 : Int)) = (j2 : Int)) := Lib.hid (by rw [IntWalk.i64_in _ ⟨by omega, by omega⟩]; omega)
                  have E5 : Hid ((y : Int) + (x1 : Int) = (j1 : Int)) := Lib.hid (by omega)
                  have E6 : Hid ((y : Int) + (x2 : Int) = (j2 : Int)) := Lib.hid (by omega)
                  have HH1 := Lib.hid hx
                  have HH2 := Lib.hid hy
                  have HH3 := Lib.hid hx1
                  have HH4 := Lib.hid hx2
                  have HH5 := Lib.hid hj1
                  have HH6 := Lib.hid hj2
                  clear hx hy hx1 hx2 hj1 hj2
                  go_wp2_with fail
                  have t3 := T3.out
                  have t4 := T4.out
                  have w1 := W1.out
                  have w2e := W2.out
                  have w3e := W3.out
                  have w4e := W4.out
                  go_still_tail 24, (by kernel_rfl)
                  clear t3 t4 w1 w2e w3e w4e e1 e2 hx0 hxI hy0 hyI hx10 hx1I hx20 hx2I hj10 hj1I hj20 hj2I cb0 cb1 cb2 hj125 hj225 hne
                  have hno : bits .xor .u64 (if IntKind.u64.signed = true then -1 else IntKind.u64.max) b1 = no b1 := rfl
                  rw [hno]
                  clear hno
                  change wpList _ _ _ _ _ wr.drew
                  have HAA3 : Hid (Blk (wr.drew.setCell ⟨ga, i, none⟩ (.int .u64 (xo b0 (an (no b1) b2)))) ga 166 (cellsU (aAt Bf A (i + 1)))) := HAA2.out
                  have HGG3 : Hid (w3.grownBy (wr.drew.setCell ⟨ga, i, none⟩ (.int .u64 (xo b0 (an (no b1) b2)))) (some ga)) := ⟨HGG2.out.os, HGG2.out.tape, HGG2.out.output, HGG2.out.size, HGG2.out.block⟩
                  go_wp2
                  refine ⟨?_, by simp [intOf]; omega⟩
                  (repeat apply Exists.intro)
                  exact ⟨⟨i + 1, by go_num, by omega, HAA3, HGG3⟩, rfl⟩
                · obtain rfl : i = 25 := by omega
                  have HR25 := Lib.hid ((aAt_length Bf A 25).trans HLc.out)
                  generalize aAt Bf A 25 = A5 at HAA HRO HR25
                  have cg : wr.cell? ⟨ga, 0, none⟩ = some (.int .u64 (A5.getD 0 0)) := (HAA.out.cell 0).trans (cellsU_at A5 0 (by rw [HR25.out]; omega))
                  have fg : wr.frozen? ⟨ga, 0, none⟩ = false := HAA.out.frozen 0
                  generalize A5.getD 0 0 = a0 at cg HRO
                  have HNEW : Hid (Blk (wr.drew.setCell ⟨ga, 0, none⟩ (.int .u64 (xo a0 cc))) ga 166 (cellsU (permAt A0 (c + 1)))) := Lib.hid (by rw [HST.out, HRO.out, ← cellsU_set]; exact HAA.out.set_ 0 _)
                  have HGN0 := only_trans (only_trans (only_trans HG.out (only_of_below HBE.out _)) (only_of_below HBF.out _)) HGG.out
                  have HGN : Hid (w.grownBy (wr.drew.setCell ⟨ga, 0, none⟩ (.int .u64 (xo a0 cc))) (some ga)) := only_setCell (p := ⟨ga, 0, none⟩) (show w.grownBy wr.drew (some ga) from ⟨HGN0.os, HGN0.tape, HGN0.output, HGN0.size, HGN0.block⟩) (.inl rfl) _
                  clear HGN0
                  go_wp2_with fail
                  go_still_tail 8, (by kernel_rfl)
                  change wpList _ _ _ _ _ wr.drew
                  go_wp2
                  refine ⟨?_, by simp [intOf]; omega⟩
                  exact ⟨c + 1, by go_num, by omega, HNEW, HGN⟩
    · obtain rfl : c = 24 := by omega
      go_wp2
      go_end0
      exact ⟨rfl, by rw [HP.out]; exact HB.out, HG.out⟩

end Go.Proofs.YtefgajipakjpeaaDoor
