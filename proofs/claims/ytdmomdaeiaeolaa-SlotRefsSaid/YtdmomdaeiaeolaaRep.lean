/-
  Contract of slices.Repeat for one int: n times that int. Condition: at most 2^20 of them.
-/
import Derived.Test.YtdmomdaeiaeolaaNeed
import Derived.Laws.MathBits
import Derived.Laws.CopyOwn
namespace Go.Proofs.Ytdmomdaeiaeolaa
open Go.RowKit

theorem mul_hi (m : Nat) (h : (m : Int) ≤ 1048576) :
    IntKind.u64.wrap (IntKind.u64.wrap (IntKind.u64.wrap (IntKind.u64.wrap (bits BinOp.and IntKind.u64 1 4294967295 * bits BinOp.and IntKind.u64 (↑m) 4294967295) / 4294967296) / 4294967296) +
      IntKind.u64.wrap (bits BinOp.and IntKind.u64 (IntKind.u64.wrap (IntKind.u64.wrap (bits BinOp.and IntKind.u64 1 4294967295 * bits BinOp.and IntKind.u64 (↑m) 4294967295) / 4294967296)) 4294967295 +
        IntKind.u64.wrap (bits BinOp.and IntKind.u64 1 4294967295 * ((m : Int) / 4294967296))) / 4294967296) = 0 := by
  have e1 : bits BinOp.and IntKind.u64 1 4294967295 = 1 := and_low32 1 (by decide) (by decide)
  have e2 : bits BinOp.and IntKind.u64 (m : Int) 4294967295 = m := (and_low32 m (by omega) (by omega)).trans (by omega)
  have e3 : bits BinOp.and IntKind.u64 0 4294967295 = 0 := and_low32 0 (by decide) (by decide)
  have w0 : IntKind.u64.wrap 0 = 0 := by decide
  have w1 : IntKind.u64.wrap (1 * (m : Int)) = m := by rw [IntKind.wrap_u64]; omega
  have d1 : (m : Int) / 4294967296 = 0 := by omega
  rw [e1, e2, w1, d1, w0, e3]
  decide

set_option maxHeartbeats 1000000 in
set_option maxRecDepth 100000 in
theorem Mul64_any (m : Nat) (h : m ≤ 1048576) (w : World) : Calls Try.prog 24 #[.int .u64 1, .int .u64 m] w fun e w' => e = .returned (.tuple #[.int .u64 0, .int .u64 m]) ∧ w = w' := by
  have h1 : (m : Int) ≤ 1048576 := by omega
  clear h
  go_enter Try.func24, Try.ntmps24
  go_wp2
  go_ret2
  exact ⟨congrArg (fun x => Ending.returned (.tuple #[.int .u64 x, .int .u64 (m : Int)])) (mul_hi m h1), rfl⟩

set_option maxHeartbeats 1000000 in
set_option maxRecDepth 100000 in
theorem Mul_any (m : Nat) (h : m ≤ 1048576) (w : World) : Calls Try.prog 22 #[.int .u64 1, .int .u64 m] w fun e w' => e = .returned (.tuple #[.int .u64 0, .int .u64 m]) ∧ w = w' := by
  have HM := Lib.hid (Mul64_any m h)
  clear h
  go_enter Try.func22, Try.ntmps22
  go_wp2_with fail
  refine (HM.out _).mono ?_
  rintro e w' ⟨rfl, rfl⟩
  go_wp2
  go_ret2
  exact ⟨rfl, rfl⟩

/-- The row when n of m have been laid. -/
def laid (x : Int) (m n : Nat) : List Value := List.replicate n (.int .i64 x) ++ List.replicate (m - n) (.int .i64 0)
theorem laid_length (x : Int) (m n : Nat) (h : n ≤ m) : (laid x m n).length = m := by simp [laid]; omega
theorem laid_zero (x : Int) (m : Nat) : laid x m 0 = List.replicate m (.int .i64 0) := by simp [laid]
theorem laid_full (x : Int) (m : Nat) : laid x m m = List.replicate m (.int .i64 x) := by simp [laid]
theorem laid_splice (x : Int) (m n k : Nat) (h : n + k ≤ m) : splice (laid x m n) n (List.replicate k (.int .i64 x)) = laid x m (n + k) := by
  have e : m - n = k + (m - (n + k)) := by omega
  unfold splice laid
  rw [List.take_left' (by simp), e, ← List.replicate_append_replicate (n := k), List.length_replicate, ← List.append_assoc (List.replicate n _) (List.replicate k _) (List.replicate (m - (n + k)) _), List.drop_left' (by simp), ← List.replicate_append_replicate (n := n) (m := k), List.append_assoc]
theorem laid_at (x : Int) (m n j : Nat) (h : j < n) : (laid x m n)[j]? = some (.int .i64 x) := by
  unfold laid
  rw [List.getElem?_append_left (by simpa using h)]
  simp [h]

theorem one_at {w : World} {b : Nat} {u : Value} (h : w.cell? ⟨b, 0, none⟩ = some u) : ∀ (j : Nat) (v : Value), [u][j]? = some v → w.cell? ((⟨b, 0, none⟩ : Addr).add j) = some v := by
  intro j v hj
  match j, hj with
  | 0, hj => simp at hj; subst hj; simpa [Addr.add] using h

set_option maxHeartbeats 1000000 in
set_option maxRecDepth 100000 in
theorem Repeat_any (x : Int) (m b : Nat) (w : World) (hm : m ≤ 1048576) (hb : Blk w b 3 #[.int .i64 x]) :
    Calls Try.prog 20 #[.slice (some ⟨b, 0, none⟩) 1 1, .int .i64 m] w fun e w' => ∃ g, e = .returned (.slice (some ⟨g, 0, none⟩) m m) ∧ w.heap.size ≤ g ∧ Blk w' g 3 (List.replicate m (Value.int .i64 x)).toArray ∧ Below w.heap.size w w' := by
  obtain ⟨k0, hk, hy0, hy1, hy2⟩ := info_parts intInfo
  have hsz : (Try.prog.info? 3).map (·.size) = some 1 := by kernel_rfl
  have HM := Lib.hid (Mul_any m hm)
  have HB := Lib.hid hb
  clear hb
  have h1 : (m : Int) ≤ 1048576 := by omega
  go_enter Try.func20, Try.ntmps20
  go_wp2_with fail
  refine (HM.out _).mono ?_
  rintro e w' ⟨rfl, rfl⟩
  go_wp2_with (at_make; refine wpList_make_full _ rfl _ _ 33 rfl w.heap.size 3 k0 (.int .i64 0) 1 Try.underlying33 hk hy0 hy1 .i64 .i64 _ _ m rfl rfl rfl rfl (by rw [hy2]; omega) (by unfold maxLen; omega) (Nat.le_refl _) ?_)
  intro w1 hown0 hgrow0
  rw [toList_madeCells_one, ← laid_zero x] at hown0
  have HR0 := Lib.hid (ownsRow_blk hown0)
  have HB1 := Lib.hid ((Below.refl w.heap.size w).grown hgrow0 (Nat.le_refl _) (fun k hk => by cases hk))
  have HX := Lib.hid (HB.out.grown hgrow0 (by simp))
  have hx0 : w1.cell? ⟨b, 0, none⟩ = some (.int .i64 x) := HX.out.cell 0
  clear hown0 hgrow0
  have hgN : w.heap.size ≤ w.heap.size := Nat.le_refl _
  have HN := Lib.hid hgN
  by_cases hm0 : m = 0
  · subst hm0
    go_wp2_with (refine wpList_copy_nothing rfl _ _ 33 33 rfl 3 Try.underlying33 hsz _ _ _ _ _ _ rfl rfl (by simp) ?_)
    go_loop [8] (fun vi => vi = .int .i64 0) (fun _ => 0)
    case atStart => rfl
    case round =>
      subst hrel
      go_wp2
      go_ret
      rw [laid_zero] at HR0
      exact ⟨w.heap.size, rfl, Nat.le_refl _, HR0.out, HB1.out⟩
  · have q1 : [Value.int .i64 x].length = Nat.min 1 m := by show 1 = min 1 m; omega
    have q2 : 0 + [Value.int .i64 x].length ≤ (laid x m 0).length := by rw [laid_length _ _ _ (Nat.zero_le _)]; simp; omega
    have q3 : ∀ v ∈ [Value.int .i64 x], v.oneCell' = true := by intro v hv; simp at hv; subst hv; rfl
    have q4 := one_at hx0
    have q5 : w1.heap[w.heap.size]? = some (.cells (laid x m 0).toArray 3 (0, 0)) := HR0.out
    have Q1 := Lib.hid q1
    have Q2 := Lib.hid q2
    have Q3 := Lib.hid q3
    have Q4 := Lib.hid q4
    have Q5 := Lib.hid q5
    clear q1 q2 q3 q4 q5 hx0
    go_wp2_with (refine wpList_copy_splice rfl _ _ 33 33 rfl 3 Try.underlying33 hsz _ _ _ _ _ _ rfl rfl w.heap.size 0 (laid x m 0) 3 Q5.out [Value.int .i64 x] Q1.out (fun _ => ⟨rfl, ⟨b, 0, none⟩, rfl, Q4.out⟩) Q2.out Q3.out w.heap.size w HB1.out (Nat.le_refl _) ?_)
    intro w2 hblk2 hb2
    have HR2 : Hid (Blk w2 w.heap.size 3 (laid x m 1).toArray) := by
      have e := laid_splice x m 0 1 (by omega)
      rw [List.replicate_one, Nat.zero_add] at e
      rw [← e]
      exact hblk2.out
    have HB2 := Lib.hid hb2
    have hN : w.heap.size ≤ w.heap.size := Nat.le_refl _
    clear hblk2 hb2 Q1 Q2 Q3 Q4 Q5 HB1 HR0 HX HB HM
    go_wp2_with fail
    go_loopw [8] (fun vn wr => ∃ n : Nat, vn = .int .i64 n ∧ 1 ≤ n ∧ n ≤ m ∧ Hid (Blk wr w.heap.size 3 (laid x m n).toArray) ∧ Hid (Below w.heap.size w wr)) (fun vn _ => m - (intOf vn).toNat)
    case atStart => exact ⟨1, rfl, Nat.le_refl _, by omega, HR2, HB2⟩
    case round =>
      obtain ⟨n, rfl, hn1, hnm, HR, HB⟩ := hrel
      by_cases hlt : n < m
      · have hi0 : (0 : Int) ≤ (n : Int) := by omega
        have hi1 : (n : Int) ≤ (m : Int) := by omega
        have hi2 : (n : Int) < (m : Int) := by omega
        have hk : n + min n (m - n) ≤ m := by omega
        have hne : ¬ m = n := by omega
        have Q1 : Hid ((List.replicate (min n (m - n)) (Value.int .i64 x)).length = Nat.min n (m - n)) := List.length_replicate
        have Q2 : Hid (n + (List.replicate (min n (m - n)) (Value.int .i64 x)).length ≤ (laid x m n).length) := by
          rw [List.length_replicate, laid_length _ _ _ hnm]
          exact hk
        have Q3 : Hid (∀ v ∈ List.replicate (min n (m - n)) (Value.int .i64 x), v.oneCell' = true) := fun v hv => by
          rw [(List.mem_replicate.1 hv).2]
          rfl
        have Q4 : Hid (∀ (j : Nat) (v : Value), (List.replicate (min n (m - n)) (Value.int .i64 x))[j]? = some v → wr.drew.cell? ((⟨w.heap.size, 0, none⟩ : Addr).add j) = some v) := fun j v hj => by
          have hj1 : j < n ∧ v = .int .i64 x := by
            have h2 := (List.getElem?_eq_some_iff.1 hj)
            obtain ⟨h3, h4⟩ := h2
            rw [List.length_replicate] at h3
            rw [List.getElem_replicate] at h4
            exact ⟨by omega, h4.symm⟩
          have e : (⟨w.heap.size, 0, none⟩ : Addr).add j = ⟨w.heap.size, j, none⟩ := by unfold Addr.add; split <;> simp_all
          rw [e, hj1.2]
          refine (HR.out.cell j).trans ?_
          rw [List.getElem?_toArray]
          exact laid_at x m n j hj1.1
        have Q5 : Hid ((if m = n then some (⟨w.heap.size, 0, none⟩ : Addr) else some ⟨w.heap.size, n, none⟩) = some ⟨w.heap.size, n, none⟩) := if_neg hne
        have Q6 : Hid (wr.drew.heap[w.heap.size]? = some (.cells (laid x m n).toArray 3 (0, 0))) := HR.out
        have HBd := Lib.hid HB.out.drew
        have HS := Lib.hid (laid_splice x m n (min n (m - n)) hk)
        have hk1 : 0 < min n (m - n) := by omega
        clear hne
        go_wp2_with fail
        go_region_held3 (fun _ => True) (trivial)
          (first
            | (refine step_copy_splice rfl _ _ 33 33 rfl 3 Try.underlying33 hsz _ _ _ _ _ _ rfl rfl w.heap.size n (laid x m n) 3 Q6.out (List.replicate (min n (m - n)) (Value.int .i64 x)) Q1.out (fun _ => ⟨Q5.out, ⟨w.heap.size, 0, none⟩, rfl, Q4.out⟩) Q2.out Q3.out w.heap.size w HBd.out (Nat.le_refl _) ?_; intro w3 hblk3 hb3))
        rw [HS.out] at hblk3
        have hw : IntKind.i64.wrap ((n : Int) + ((min n (m - n) : Nat) : Int)) = ((n + min n (m - n) : Nat) : Int) := by rw [IntWalk.i64_in _ ⟨by omega, by omega⟩]; omega
        have HB3 := Lib.hid hb3
        go_wp2
        go_roundw
        case rel => exact ⟨n + min n (m - n), congrArg (Value.int .i64) hw, by omega, hk, hblk3, HB3⟩
        case measure =>
          show m - (intOf (Value.int .i64 (IntKind.i64.wrap ((n : Int) + ((min n (m - n) : Nat) : Int))))).toNat < _
          rw [hw]
          simp [intOf]
          omega
      · obtain rfl : n = m := by omega
        rw [laid_full] at HR
        go_wp2
        go_ret
        exact ⟨_, rfl, Nat.le_refl _, HR.out, HB.out⟩

end Go.Proofs.Ytdmomdaeiaeolaa
