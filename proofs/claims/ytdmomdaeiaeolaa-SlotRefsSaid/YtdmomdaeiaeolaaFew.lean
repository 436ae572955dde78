/-
  Contracts: few, in, Same and different of the statements' package, at every input.
-/
import Derived.Test.YtdmomdaeiaeolaaOpen
namespace Go.Proofs.Ytdmomdaeiaeolaa
open Go.RowKit

def fewB (u : UnitD) : Bool := decide (u.imps.length ≤ 10) && decide (u.nodes.length ≤ 10) && u.nodes.all fun n => decide (n.refs.length ≤ 20)

theorem all_take_step {α : Type} (p : α → Bool) (l : List α) (i : Nat) (h : i < l.length) : (l.take (i + 1)).all p = ((l.take i).all p && p (l[i]'h)) := by
  rw [List.take_succ_eq_append_getElem h, List.all_append, List.all_cons, List.all_nil, Bool.and_true]
theorem all_take_false {α : Type} (p : α → Bool) (l : List α) (i : Nat) (h : i < l.length) (hp : p (l[i]'h) = false) : l.all p = false := by
  rw [← Bool.not_eq_true]
  intro ha
  have := List.all_eq_true.1 ha _ (List.getElem_mem h)
  rw [hp] at this
  cases this

set_option maxHeartbeats 4000000 in
set_option maxRecDepth 100000 in
theorem few_any (u : UnitD) (B : Nat) (w : World) (h : u.Ok w B) (hB : B ≤ w.heap.size) :
    Calls Try.prog 9 #[.agg u.parts.toArray] w fun e w' => e = .returned (.bool (fewB u)) ∧ Below w.heap.size w w' := by
  have HU := Lib.hid h
  have hnl := h.nlen
  have hil := h.ilen
  clear h
  have HBEL := Lib.hid ((Below.refl w.heap.size w).alloc (Nat.le_refl _) (.cells u.parts.toArray 32))
  have HF : Hid (fewB u = (decide (u.imps.length ≤ 10) && decide (u.nodes.length ≤ 10) && u.nodes.all fun n => decide (n.refs.length ≤ 20))) := rfl
  generalize fewB u = fb at HF
  have HC := Lib.hid (HU.out.ncells.alloc hB (.cells u.parts.toArray 32))
  simp only [UnitD.parts] at HBEL HC ⊢
  by_cases h1 : u.imps.length ≤ 10
  · by_cases h2 : u.nodes.length ≤ 10
    · have h1i : (u.imps.length : Int) ≤ 10 := by omega
      have h2i : (u.nodes.length : Int) ≤ 10 := by omega
      go_enter Try.func9, Try.ntmps9
      go_wp2_with fail
      go_loop [3] (fun vi => ∃ i : Nat, vi = .int .i64 i ∧ i ≤ u.nodes.length ∧ Hid ((u.nodes.take i).all (fun n => decide (n.refs.length ≤ 20)) = true)) (fun vi => u.nodes.length - (intOf vi).toNat)
      case atStart => exact ⟨0, rfl, Nat.zero_le _, Lib.hid rfl⟩
      case round =>
        obtain ⟨i, rfl, hi, HA⟩ := hrel
        by_cases hin : i < u.nodes.length
        · obtain ⟨b, off, hA, _, hc⟩ := HC.out.lit (by omega) (by decide)
          have c6 : _ = some (Value.slice (u.nodes[i]'hin).A (u.nodes[i]'hin).refs.length (u.nodes[i]'hin).c) := hc (i * 12 + 6) _ ((flat_at _ 12 NodeD.parts_length u.nodes i 6 hin (by decide)).trans rfl)
          rw [← Nat.add_assoc, hA] at c6
          have HS := Lib.hid (all_take_step (fun n : NodeD => decide (n.refs.length ≤ 20)) u.nodes i hin)
          have HX := Lib.hid (all_take_false (fun n : NodeD => decide (n.refs.length ≤ 20)) u.nodes i hin)
          clear hc
          rw [hA] at HBEL ⊢
          clear hA
          generalize u.nodes[i]'hin = n at c6 HS HX
          by_cases h20 : n.refs.length ≤ 20
          · have h20i : (n.refs.length : Int) ≤ 20 := by omega
            have HY := Lib.hid (show (u.nodes.take (i + 1)).all (fun n => decide (n.refs.length ≤ 20)) = true from HS.out.trans (by rw [HA.out]; simpa using h20))
            go_wp2
            go_round
            case rel => exact ⟨i + 1, by go_num, by omega, HY⟩
            case measure => simp [intOf]; omega
          · have h20i : 20 < (n.refs.length : Int) := by omega
            have HY := Lib.hid (HX.out (decide_eq_false h20))
            go_wp2
            go_ret
            exact ⟨by rw [HF.out, HY.out]; simp, HBEL.out⟩
        · obtain rfl : i = u.nodes.length := by omega
          rw [List.take_length] at HA
          go_wp2
          go_ret
          exact ⟨by rw [HF.out, HA.out]; simp [h1, h2], HBEL.out⟩
    · have h2i : 10 < (u.nodes.length : Int) := by omega
      go_enter Try.func9, Try.ntmps9
      go_wp2
      go_ret
      exact ⟨by rw [HF.out]; simp [h2], HBEL.out⟩
  · have h1i : 10 < (u.imps.length : Int) := by omega
    go_enter Try.func9, Try.ntmps9
    go_wp2
    go_ret
    exact ⟨by rw [HF.out]; simp [h1], HBEL.out⟩

set_option maxHeartbeats 4000000 in
set_option maxRecDepth 100000 in
/-- in. -/
theorem in_any (A : Option Addr) (c B : Nat) (zs : List Int) (n : Int) (w : World) (h : Reads w B 1 A zs.length (intCells zs)) (_ : zs.length ≤ 9223372036854775807) :
    Calls Try.prog 15 #[.slice A zs.length c, .int .i64 n] w fun e w' => e = .returned (.bool (decide (n ∈ zs))) ∧ w = w' := by
  have HR := Lib.hid h
  clear h
  go_enter Try.func15, Try.ntmps15
  go_wp2_with fail
  go_loop [5] (fun vi => ∃ i : Nat, vi = .int .i64 i ∧ i ≤ zs.length ∧ Hid (n ∉ zs.take i)) (fun vi => zs.length - (intOf vi).toNat)
  case atStart => exact ⟨0, rfl, Nat.zero_le _, Lib.hid (by simp)⟩
  case round =>
    obtain ⟨i, rfl, hi, HN⟩ := hrel
    by_cases hin : i < zs.length
    · obtain ⟨b, off, rfl, _, hc⟩ := HR.out.lit (by omega) (by decide)
      have c0 : w.cell? ⟨b, off + i, none⟩ = some (.int .i64 (zs[i]'hin)) := hc i _ (by simp [intCells, hin])
      have HM := Lib.hid (List.getElem_mem hin)
      have HT := Lib.hid (List.take_succ_eq_append_getElem hin)
      clear hc
      generalize zs[i]'hin = z at c0 HM HT
      by_cases hz : z = n
      · have HD := Lib.hid (show decide (n ∈ zs) = true from decide_eq_true (hz ▸ HM.out))
        have hz2 : (z == n) = true := by simpa using hz
        go_wp2
        go_ret
        exact ⟨by rw [HD.out]; rfl, rfl⟩
      · have HD := Lib.hid (show n ∉ zs.take (i + 1) by rw [HT.out]; simp only [List.mem_append, List.mem_singleton]; rintro (h | h); exact HN.out h; exact hz h.symm)
        have hz2 : (z == n) = false := by simpa using hz
        go_wp2
        go_round
        case rel => exact ⟨i + 1, by go_num, by omega, HD⟩
        case measure => simp [intOf]; omega
    · obtain rfl : i = zs.length := by omega
      rw [List.take_length] at HN
      have HD := Lib.hid (decide_eq_false HN.out)
      go_wp2
      go_ret
      exact ⟨by rw [HD.out]; rfl, rfl⟩

set_option maxHeartbeats 4000000 in
set_option maxRecDepth 100000 in
/-- Same. -/
theorem Same_any (A A' : Option Addr) (c c' B B' : Nat) (xs ys : List Int) (w : World) (h : Reads w B 1 A xs.length (intCells xs)) (h' : Reads w B' 1 A' ys.length (intCells ys)) (hl : xs.length ≤ 9223372036854775807)
    (hB : B ≤ w.heap.size) (hB' : B' ≤ w.heap.size) :
    Calls Try.prog 10 #[.slice A xs.length c, .slice A' ys.length c'] w fun e w' => e = .returned (.bool (decide (xs = ys))) ∧ Below w.heap.size w w' := by
  have HR := Lib.hid h
  have HR' := Lib.hid h'
  clear h h'
  by_cases hlen : xs.length = ys.length
  · have hleni : (xs.length : Int) = (ys.length : Int) := by omega
    have hle2 : xs.length ≤ ys.length := by omega
    have HE := Lib.hid hlen
    clear hlen
    go_enter Try.func10, Try.ntmps10
    go_wp2_with fail
    go_loopw [5] (fun vi wr => ∃ i : Nat, vi = .int .i64 i ∧ i ≤ xs.length ∧ Hid (xs.take i = ys.take i) ∧ Below w.heap.size w wr) (fun vi _ => xs.length - (intOf vi).toNat)
    case atStart => exact ⟨0, rfl, Nat.zero_le _, Lib.hid rfl, Below.refl _ _⟩
    case round =>
      obtain ⟨i, rfl, hi, HN, hbw⟩ := hrel
      by_cases hin : i < xs.length
      · have hin' : i < ys.length := by omega
        obtain ⟨b, off, rfl, _, hc⟩ := (HR.out.below (hbw.mono hB)).lit (by omega) (by decide)
        obtain ⟨b', off', rfl, _, hc'⟩ := (HR'.out.below (hbw.mono hB')).lit (by omega) (by decide)
        have c1 : wr.cell? ⟨b, off + i, none⟩ = some (.int .i64 (xs[i]'hin)) := hc i _ (by simp [intCells, hin])
        have c2 : wr.cell? ⟨b', off' + i, none⟩ = some (.int .i64 (ys[i]'hin')) := hc' i _ (by simp [intCells, hin'])
        have hix : (i : Int) < (xs.length : Int) := by omega
        have hix' : (i : Int) < (ys.length : Int) := by omega
        have hi0 : (0 : Int) ≤ (i : Int) := by omega
        have HT := Lib.hid (List.take_succ_eq_append_getElem hin)
        have HT' := Lib.hid (List.take_succ_eq_append_getElem hin')
        have HG : Hid (xs[i]? = some (xs[i]'hin)) := List.getElem?_eq_getElem hin
        have HG' : Hid (ys[i]? = some (ys[i]'hin')) := List.getElem?_eq_getElem hin'
        clear hc hc'
        generalize xs[i]'hin = z at c1 HT HG
        generalize ys[i]'hin' = z' at c2 HT' HG'
        have HBW := Lib.hid hbw
        clear hbw
        by_cases hz : z = z'
        · subst hz
          have HD := Lib.hid (show xs.take (i + 1) = ys.take (i + 1) by rw [HT.out, HT'.out, HN.out])
          go_wp2
          go_quiet (fail)
          go_wp2
          exact ⟨⟨i + 1, by go_num, by omega, HD, below_drewN HBW.out _⟩, by simp [intOf]; omega⟩
        · have hz2 : (z == z') = false := by simpa using hz
          have HD := Lib.hid (show decide (xs = ys) = false from decide_eq_false (by
            intro he
            have h1 := HG.out
            rw [he, HG'.out] at h1
            exact hz (Option.some.inj h1).symm))
          clear hz
          go_wp2
          go_quiet (fail)
          go_wp2
          go_ret
          exact ⟨by rw [HD.out]; rfl, below_drewN HBW.out _⟩
      · have HD := Lib.hid (show decide (xs = ys) = true from decide_eq_true (by
          have h1 := HN.out
          have h2 : i = xs.length := by omega
          have h3 := HE.out
          rw [h2, List.take_length, h3, List.take_length] at h1
          exact h1))
        go_wp2
        go_ret
        exact ⟨by rw [HD.out]; rfl, hbw⟩
  · have hleni : ((xs.length : Int) == (ys.length : Int)) = false := by simp; omega
    have HD := Lib.hid (show decide (xs = ys) = false from decide_eq_false (fun h => hlen (by rw [h])))
    clear hlen
    go_enter Try.func10, Try.ntmps10
    go_wp2
    go_ret
    exact ⟨by rw [HD.out]; rfl, Below.refl _ _⟩

end Go.Proofs.Ytdmomdaeiaeolaa
