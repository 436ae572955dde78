/-
  Contract of different: whether no two imports have the same name and version. Condition: at most 2^63 - 1 imports.
-/
import Derived.Test.YtdmomdaeiaeolaaRefKeep
namespace Go.Proofs.Ytdmomdaeiaeolaa
open Go.RowKit

def diffB (xs : List ImpD) : Bool := decide ((xs.map ImpD.key).Nodup)

theorem diffB_false (xs : List ImpD) (i k : Nat) (hi : i < xs.length) (hk : k < i) (he : (xs[i]'hi).key = (xs[k]'(by omega)).key) : diffB xs = false := by
  refine decide_eq_false fun h => ?_
  have hk' : k < xs.length := by omega
  have h1 := List.pairwise_iff_getElem.1 h k i (by simpa using hk') (by simpa using hi) hk
  rw [List.getElem_map, List.getElem_map] at h1
  exact h1 he.symm
theorem nodup_step (xs : List ImpD) (i : Nat) (hi : i < xs.length) (h : ((xs.take i).map ImpD.key).Nodup) (hn : ∀ k (hk : k < i), (xs[i]'hi).key ≠ (xs[k]'(by omega)).key) : ((xs.take (i + 1)).map ImpD.key).Nodup := by
  rw [List.take_succ_eq_append_getElem hi, List.map_append, List.nodup_append]
  refine ⟨h, by simp, fun a ha b hb => ?_⟩
  simp only [List.map_cons, List.map_nil, List.mem_singleton] at hb
  subst hb
  obtain ⟨y, hy, rfl⟩ := List.mem_map.1 ha
  obtain ⟨k, hk, rfl⟩ := List.getElem_of_mem hy
  have hk' : k < i := by rw [List.length_take] at hk; omega
  rw [List.getElem_take]
  exact fun e => hn k hk' e.symm

set_option maxHeartbeats 8000000 in
set_option maxRecDepth 100000 in
/-- different. -/
theorem different_any (xs : List ImpD) (A : Option Addr) (c B : Nat) (w : World) (h : Reads w B 5 A xs.length (xs.flatMap ImpD.parts)) (hB : B ≤ w.heap.size) (hl : xs.length ≤ 9223372036854775807) :
    Calls Try.prog 16 #[.slice A xs.length c] w fun e w' => e = .returned (.bool (diffB xs)) ∧ Below w.heap.size w w' := by
  have HR := Lib.hid h
  clear h
  have HF := Lib.hid (diffB_false xs)
  have HT : Hid (((xs.take xs.length).map ImpD.key).Nodup → diffB xs = true) := fun h => decide_eq_true (by rwa [List.take_length] at h)
  generalize diffB xs = db at HF HT
  go_enter Try.func16, Try.ntmps16
  go_wp2_with fail
  go_loopw [3] (fun vi wr => ∃ i : Nat, vi = .int .i64 i ∧ i ≤ xs.length ∧ Hid (((xs.take i).map ImpD.key).Nodup) ∧ Hid (Below w.heap.size w wr)) (fun vi _ => xs.length - (intOf vi).toNat)
  case atStart => exact ⟨0, rfl, Nat.zero_le _, Lib.hid (by simp), Below.refl _ _⟩
  case round =>
    obtain ⟨i, rfl, hi, HN, HB⟩ := hrel
    by_cases hil : i < xs.length
    · have HNS := Lib.hid (nodup_step xs i hil HN.out)
      have HCX : Hid (∀ wr, Below w.heap.size w wr → ∃ b off, A = some ⟨b, off, none⟩ ∧ wr.cell? ⟨b, off + i * 5, none⟩ = some (.string ⟨(xs[i]'hil).name.toArray⟩) ∧ wr.cell? ⟨b, off + i * 5 + 1, none⟩ = some (.string ⟨(xs[i]'hil).ver.toArray⟩)) := fun wr hb => by
        obtain ⟨b, off, h1, h2, h3, -⟩ := cells_of_row5 (HR.out.below (hb.mono hB)) hil
        exact ⟨b, off, h1, h2, h3⟩
      have HFI := Lib.hid (fun k hk => HF.out i k hil hk)
      generalize xs[i]'hil = x at HNS HCX HFI
      obtain ⟨wo, rfl⟩ : ∃ wo : World, wo = wr := ⟨_, rfl⟩
      have hi0 : (0 : Int) ≤ (i : Int) := by omega
      have hilI : (i : Int) < (xs.length : Int) := by omega
      go_wp2_with fail
      go_loopw [4] (fun vk wr => ∃ k : Nat, vk = .int .i64 k ∧ k ≤ i ∧ Hid (∀ j (hj : j < k) (hx : j < xs.length), x.key ≠ (xs[j]'hx).key) ∧ Hid (Below w.heap.size w wr)) (fun vk _ => i - (intOf vk).toNat)
      case atStart => exact ⟨0, rfl, Nat.zero_le _, Lib.hid (fun j hj => absurd hj (by omega)), HB⟩
      case round =>
        clear HB
        obtain ⟨k, rfl, hk, HJ, HB⟩ := hrel
        by_cases hki : k < i
        · have hkl : k < xs.length := by omega
          obtain ⟨b, off, hA, n0, n1⟩ := HCX.out wr HB.out
          obtain ⟨b', off', hA', m0, m1, -⟩ := cells_of_row5 (HR.out.below (HB.out.mono hB)) hkl
          obtain ⟨rfl, rfl⟩ : b = b' ∧ off = off' := by
            rw [hA] at hA'
            simpa using hA'
          clear hA'
          have HFK := Lib.hid (HFI.out k hki)
          have HJS : Hid (x.key ≠ (xs[k]'hkl).key → ∀ j (hj : j < k + 1) (hx : j < xs.length), x.key ≠ (xs[j]'hx).key) := fun hne j hj hx => by
            by_cases hjk : j = k
            · subst hjk; exact hne
            · exact HJ.out j (by omega) hx
          generalize xs[k]'hkl = y at m0 m1 HFK HJS
          have hk0 : (0 : Int) ≤ (k : Int) := by omega
          have hklI : (k : Int) < (xs.length : Int) := by omega
          rw [hA]
          clear hA HCX HJ
          by_cases h1 : x.name = y.name
          · have h1b : (x.name == y.name) = true := by simpa using h1
            by_cases h2 : x.ver = y.ver
            · have h2b : (x.ver == y.ver) = true := by simpa using h2
              have HD := Lib.hid (HFK.out (Prod.ext h1 h2))
              clear h1 h2
              go_wp2
              go_quiet (fail)
              go_wp2
              go_ret
              exact ⟨by rw [HD.out]; rfl, below_drewN HB.out _⟩
            · have HM := Lib.hid (HJS.out (fun c => h2 (congrArg Prod.snd c)))
              have h2b : (x.ver == y.ver) = false := by simpa using h2
              clear h1 h2
              go_wp2
              go_quiet (fail)
              go_wp2
              exact ⟨⟨k + 1, by go_num, by omega, HM, below_drewN HB.out _⟩, by simp [intOf]; omega⟩
          · have HM := Lib.hid (HJS.out (fun c => h1 (congrArg Prod.fst c)))
            have h1b : (x.name == y.name) = false := by simpa using h1
            clear h1
            go_wp2
            go_quiet (fail)
            go_wp2
            exact ⟨⟨k + 1, by go_num, by omega, HM, below_drewN HB.out _⟩, by simp [intOf]; omega⟩
        · obtain rfl : k = i := by omega
          have HN2 := Lib.hid (HNS.out (fun j hj => HJ.out j hj _))
          go_wp2
          go_roundw
          case rel => exact ⟨k + 1, by go_num, by omega, HN2, HB⟩
          case measure => simp [intOf]; omega
    · obtain rfl : i = xs.length := by omega
      have HD := Lib.hid (HT.out HN.out)
      go_wp2
      go_ret
      exact ⟨by rw [HD.out]; rfl, HB.out⟩

end Go.Proofs.Ytdmomdaeiaeolaa
