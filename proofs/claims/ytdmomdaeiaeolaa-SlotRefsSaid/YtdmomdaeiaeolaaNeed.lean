/-
  Contract of slot.Need: the list of the imports that a RkSlot or a RkCall names, in their order. Condition: at most 2^20 imports.
-/
import Derived.Test.YtdmomdaeiaeolaaFew
import Derived.Deep.Onto
namespace Go.Proofs.Ytdmomdaeiaeolaa
open Go.RowKit

def callB (r : RefD) : Bool := r.tk == 1 && (r.kind == 7 || r.kind == 6)
def usesB (r : RefD) (n : Nat) : Bool := callB r && r.tn == (n : Int)
def needB (rs : List RefD) (n : Nat) : Bool := rs.any fun r => usesB r n
def needL (m : Nat) (rs : List RefD) : List Int := ((List.range m).filter (needB rs)).map Int.ofNat
def UnitD.refs (u : UnitD) : List RefD := u.nodes.flatMap NodeD.refs
def UnitD.need (u : UnitD) : List Int := needL u.imps.length u.refs
/-- The cells of a row of bools. -/
def boolCells (f : Nat → Bool) (m : Nat) : List Value := (List.range m).map fun n => Value.bool (f n)

theorem boolCells_length (f : Nat → Bool) (m : Nat) : (boolCells f m).length = m := by simp [boolCells]
theorem boolCells_at (f : Nat → Bool) (m n : Nat) (h : n < m) : (boolCells f m)[n]? = some (.bool (f n)) := by simp [boolCells, h]
theorem boolCells_none (m : Nat) : boolCells (needB []) m = List.replicate m (.bool false) := by
  apply List.ext_getElem?
  intro j
  by_cases h : j < m
  · rw [boolCells_at _ _ _ h]
    simp [needB, h]
  · rw [List.getElem?_eq_none (by rw [boolCells_length]; omega), List.getElem?_eq_none (by simp; omega)]

theorem needB_snoc (rs : List RefD) (r : RefD) (n : Nat) : needB (rs ++ [r]) n = (needB rs n || usesB r n) := by simp [needB]
/-- The row behind a ref that counts. -/
theorem boolCells_hit (rs : List RefD) (r : RefD) (m n : Nat) (hc : callB r = true) (hn : r.tn = (n : Int)) : (boolCells (needB rs) m).toArray.setIfInBounds n (.bool true) = (boolCells (needB (rs ++ [r])) m).toArray := by
  rw [List.setIfInBounds_toArray]
  congr 1
  apply List.ext_getElem?
  intro j
  rw [List.getElem?_set]
  by_cases hj : j < m
  · rw [boolCells_at _ _ _ hj, boolCells_at _ _ _ hj, needB_snoc]
    by_cases hnj : n = j
    · subst hnj
      rw [if_pos rfl, if_pos (by rw [boolCells_length]; exact hj)]
      simp [usesB, hc, hn]
    · rw [if_neg hnj]
      have : (r.tn == (j : Int)) = false := by rw [hn]; simp; omega
      simp [usesB, this]
  · rw [List.getElem?_eq_none (by rw [boolCells_length]; omega)]
    by_cases hnj : n = j
    · subst hnj
      rw [if_pos rfl, if_neg (by rw [boolCells_length]; exact hj), List.getElem?_eq_none (by rw [boolCells_length]; omega)]
    · rw [if_neg hnj, List.getElem?_eq_none (by rw [boolCells_length]; omega)]
/-- The row behind a ref that does not count. -/
theorem boolCells_miss (rs : List RefD) (r : RefD) (m : Nat) (h : callB r = false ∨ r.tn < 0 ∨ (m : Int) ≤ r.tn) : boolCells (needB rs) m = boolCells (needB (rs ++ [r])) m := by
  apply List.map_congr_left
  intro j hj
  have hj' : j < m := List.mem_range.1 hj
  rw [needB_snoc]
  rcases h with h | h | h
  · simp [usesB, h]
  · have : (r.tn == (j : Int)) = false := by simp; omega
    simp [usesB, this]
  · have : (r.tn == (j : Int)) = false := by simp; omega
    simp [usesB, this]

theorem needL_step (rs : List RefD) (n : Nat) : needL (n + 1) rs = needL n rs ++ (if needB rs n then [(n : Int)] else []) := by
  unfold needL
  rw [List.range_succ, List.filter_append, List.map_append]
  congr 1
  cases h : needB rs n <;> simp [h]
theorem needL_length (rs : List RefD) (n : Nat) : (needL n rs).length ≤ n := by
  unfold needL
  rw [List.length_map]
  exact Nat.le_trans (List.length_filter_le _ _) (by simp)

theorem ownsRow_blk {w : World} {base g m : Nat} {e : TypeId} {xs : List Value} (h : w.ownsRow base e 1 (.slice (some ⟨g, 0, none⟩) m m) m xs) : Blk w g e xs.toArray := by
  rcases h.2 with ⟨hv, _⟩ | ⟨g', cap, cur, hv, _, hg, _, _, hcs, ht⟩
  · simp at hv
  · simp only [Value.slice.injEq, Option.some.injEq, Addr.mk.injEq, and_true, true_and] at hv
    obtain ⟨rfl, rfl⟩ := hv
    unfold Blk
    rw [hg, ← ht, List.take_of_length_le (by rw [Array.length_toList, hcs]; exact Nat.le_refl _), Array.toArray_toList]

set_option maxHeartbeats 1000000 in
set_option maxRecDepth 100000 in
/-- calls. -/
theorem calls_any (r : RefD) (w : World) : Calls Try.prog 18 #[.agg r.parts.toArray] w fun e w' => e = .returned (.bool (callB r)) ∧ Below w.heap.size w w' := by
  obtain ⟨a0, kind, tk, tn, a4, a5, a6⟩ := r
  have HB := Lib.hid ((Below.refl w.heap.size w).alloc (Nat.le_refl _) (.cells (RefD.parts ⟨a0, kind, tk, tn, a4, a5, a6⟩).toArray 53))
  unfold callB
  simp only [RefD.parts] at HB ⊢
  by_cases h1 : tk = 1
  · subst h1
    by_cases h7 : kind = 7
    · subst h7
      go_enter Try.func18, Try.ntmps18
      go_wp2
      go_ret
      exact ⟨rfl, HB.out⟩
    · have h7' : (kind == 7) = false := by simpa using h7
      rw [h7']
      clear h7
      go_enter Try.func18, Try.ntmps18
      go_wp2
      go_ret
      exact ⟨by simp, HB.out⟩
  · have h1' : (tk == 1) = false := by simpa using h1
    rw [h1']
    clear h1
    go_enter Try.func18, Try.ntmps18
    go_wp2
    go_ret
    exact ⟨rfl, HB.out⟩

theorem take_refs (ns : List NodeD) (i : Nat) (h : i < ns.length) : (ns.take (i + 1)).flatMap NodeD.refs = (ns.take i).flatMap NodeD.refs ++ (ns[i]'h).refs := by
  rw [List.take_succ_eq_append_getElem h, List.flatMap_append]
  simp

set_option maxHeartbeats 8000000 in
set_option maxRecDepth 100000 in
theorem Need_any (u : UnitD) (B : Nat) (w : World) (h : u.Ok w B) (hB : B ≤ w.heap.size) (hm : u.imps.length ≤ 1048576) :
    Calls Try.prog 11 #[.agg u.parts.toArray] w fun e w' => ∃ v, e = .returned v ∧ w'.ownsRow w.heap.size 3 1 v u.need.length (intCells u.need) ∧ Below w.heap.size w w' := by
  obtain ⟨i0, hi, hz0, hz1, hz2⟩ := info_parts boolInfo
  obtain ⟨k0, hk, hy0, hy1, hy2⟩ := info_parts intInfo
  have HU := Lib.hid h
  have hnl := h.nlen
  clear h
  have HB0 := Lib.hid ((Below.refl w.heap.size w).alloc (Nat.le_refl _) (.cells u.parts.toArray 32))
  have HBX := Lib.hid (Blk.new w 32 u.parts.toArray)
  have HND : Hid (u.need = needL u.imps.length u.refs) := rfl
  have HRF : Hid (u.refs = u.nodes.flatMap NodeD.refs) := rfl
  simp only [UnitD.parts] at HB0 HBX ⊢
  generalize u.need = L at HND
  generalize u.refs = RS at HND HRF
  generalize u.imps.length = m at hm HND HB0 HBX ⊢
  go_enter Try.func11, Try.ntmps11
  go_wp2_with (at_make; refine wpList_make_full _ rfl _ _ 43 rfl (w.heap.size + 1) 4 i0 (.bool false) 1 Try.underlying43 hi hz0 hz1 .i64 .i64 _ _ m rfl rfl rfl rfl (by rw [hz2]; omega) (by unfold maxLen; omega) (by simp) ?_)
  intro w1 hown0 hgrow0
  rw [toList_madeCells_one, ← boolCells_none] at hown0
  have HR0 := Lib.hid (ownsRow_blk hown0)
  have HB1 := Lib.hid (HB0.out.grown hgrow0 (by simp) (fun k hk => by cases hk))
  have hx := Blk.grown HBX.out hgrow0 (by simp)
  have c2 : w1.cell? ⟨w.heap.size, 2, none⟩ = some (.slice u.nA u.nodes.length u.nc) := hx.cell 2
  have hNlt := HR0.out.lt
  clear hown0 hgrow0 hx HBX HB0
  have hN : w.heap.size ≤ w.heap.size + 1 := Nat.le_succ _
  go_wp2_with fail
  clear c2
  generalize w.heap.size + 1 = N at HR0 hNlt hN ⊢
  go_loopw [19] (fun vi wr => ∃ i : Nat, vi = .int .i64 i ∧ i ≤ u.nodes.length ∧ Hid (Blk wr N 4 (boolCells (needB ((u.nodes.take i).flatMap NodeD.refs)) m).toArray) ∧ Hid (Below w.heap.size w wr)) (fun vi _ => u.nodes.length - (intOf vi).toNat)
  case atStart => exact ⟨0, rfl, Nat.zero_le _, HR0, HB1⟩
  case round =>
    obtain ⟨i, rfl, hin, HR, HB⟩ := hrel
    by_cases hil : i < u.nodes.length
    · obtain ⟨b, off, hA, _, hc⟩ := (HU.out.ncells.below (HB.out.mono hB)).lit (by omega) (by decide)
      have HN := Lib.hid (HU.out.nodes _ (List.getElem_mem hil))
      have HT := Lib.hid (take_refs u.nodes i hil)
      have hcc : ∀ (j : Nat) (x : Value), j < 12 → (u.nodes[i]'hil).parts[j]? = some x → wr.cell? ⟨b, off + i * 12 + j, none⟩ = some x := fun j x hj hx => by
        rw [Nat.add_assoc]
        exact hc (i * 12 + j) x ((flat_at _ 12 NodeD.parts_length u.nodes i j hil hj).trans hx)
      clear hc
      rw [hA]
      clear hA
      generalize u.nodes[i]'hil = n at hcc HN HT
      generalize (u.nodes.take i).flatMap NodeD.refs = RI at HR HT
      have c0 := hcc 0 _ (by decide) rfl
      have c1 := hcc 1 _ (by decide) rfl
      have c2 := hcc 2 _ (by decide) rfl
      have c3 := hcc 3 _ (by decide) rfl
      have c4 := hcc 4 _ (by decide) rfl
      have c5 := hcc 5 _ (by decide) rfl
      have c6 := hcc 6 _ (by decide) rfl
      have c7 := hcc 7 _ (by decide) rfl
      have c8 := hcc 8 _ (by decide) rfl
      have c9 := hcc 9 _ (by decide) rfl
      have c10 := hcc 10 _ (by decide) rfl
      have c11 := hcc 11 _ (by decide) rfl
      have hrl := HN.out.len
      clear hcc
      rw [Nat.add_zero] at c0
      obtain ⟨wo, rfl⟩ : ∃ wo : World, wo = wr := ⟨_, rfl⟩
      go_wp2_with fail
      clear c0 c1 c2 c3 c4 c5 c6 c7 c8 c9 c10 c11
      go_loopw [26] (fun vk wr => ∃ k : Nat, vk = .int .i64 k ∧ k ≤ n.refs.length ∧ Hid (Blk wr N 4 (boolCells (needB (RI ++ n.refs.take k)) m).toArray) ∧ Hid (Below w.heap.size w wr)) (fun vk _ => n.refs.length - (intOf vk).toNat)
      case atStart => exact ⟨0, rfl, Nat.zero_le _, Lib.hid (by rw [List.take_zero, List.append_nil]; exact HR.out.alloc _), Lib.hid (HB.out.alloc HB.out.size _)⟩
      case round =>
        obtain ⟨k, rfl, hkn, HR2, HB2⟩ := hrel
        by_cases hkl : k < n.refs.length
        · obtain ⟨b', off', hA', _, hc⟩ := (HN.out.cells.below (HB2.out.mono hB)).lit (by omega) (by decide)
          have hcc : ∀ (j : Nat) (x : Value), j < 7 → (n.refs[k]'hkl).parts[j]? = some x → wr.cell? ⟨b', off' + k * 7 + j, none⟩ = some x := fun j x hj hx => by
            rw [Nat.add_assoc]
            exact hc (k * 7 + j) x ((flat_at _ 7 RefD.parts_length n.refs k j hkl hj).trans hx)
          have HT2 := Lib.hid (List.take_succ_eq_append_getElem hkl)
          have hI := (HN.out.refs _ (List.getElem_mem hkl)).tn
          clear hc
          rw [hA']
          clear hA'
          generalize n.refs[k]'hkl = r at hcc HT2 hI
          have HC := Lib.hid (calls_any r)
          have HH := Lib.hid (boolCells_hit (RI ++ n.refs.take k) r m)
          have HM := Lib.hid (boolCells_miss (RI ++ n.refs.take k) r m)
          have HT3 := Lib.hid (show RI ++ n.refs.take (k + 1) = RI ++ n.refs.take k ++ [r] by rw [HT2.out, List.append_assoc])
          generalize RI ++ n.refs.take k = RK at HR2 HH HM HT3
          generalize callB r = cb at HC HH HM
          obtain ⟨a0, kind, tk, tn, a4, a5, a6⟩ := r
          simp only [RefD.parts] at HC hI HH HM
          have c0 := hcc 0 _ (by decide) rfl
          have c1 := hcc 1 _ (by decide) rfl
          have c2 := hcc 2 _ (by decide) rfl
          have c3 := hcc 3 _ (by decide) rfl
          have c4 := hcc 4 _ (by decide) rfl
          have c5 := hcc 5 _ (by decide) rfl
          have c6 := hcc 6 _ (by decide) rfl
          clear hcc
          rw [Nat.add_zero] at c0
          go_wp2_with fail
          refine (HC.out _).mono ?_
          rintro e w2 ⟨rfl, hb2⟩
          have HR3 := Lib.hid ((HR2.out.alloc _).below hb2 (HR2.out.alloc _).lt)
          have HB3 := Lib.hid ((HB2.out.alloc HB2.out.size _).trans (hb2.mono (by have := HB2.out.size; simp; omega)))
          clear hb2 c0 c1 c2 c3 c4 c5 c6
          cases cb with
          | false =>
            have HM1 := Lib.hid (HM.out (.inl rfl))
            go_wp2
            go_roundw
            case rel => exact ⟨k + 1, by go_num, by omega, Lib.hid (by rw [HT3.out, ← HM1.out]; exact HR3.out), HB3⟩
            case measure => simp [intOf]; omega
          | true =>
            by_cases h0 : tn < 0
            · have HM1 := Lib.hid (HM.out (.inr (.inl h0)))
              go_wp2
              go_roundw
              case rel => exact ⟨k + 1, by go_num, by omega, Lib.hid (by rw [HT3.out, ← HM1.out]; exact HR3.out), HB3⟩
              case measure => simp [intOf]; omega
            · by_cases h1 : (m : Int) ≤ tn
              · have HM1 := Lib.hid (HM.out (.inr (.inr h1)))
                go_wp2
                go_roundw
                case rel => exact ⟨k + 1, by go_num, by omega, Lib.hid (by rw [HT3.out, ← HM1.out]; exact HR3.out), HB3⟩
                case measure => simp [intOf]; omega
              · obtain ⟨t, rfl⟩ : ∃ t : Nat, tn = t := ⟨tn.toNat, by omega⟩
                have htm : t < m := by omega
                have HH1 := Lib.hid (HH.out t rfl rfl)
                have hce : w2.cell? ⟨N, t, none⟩ = some (.bool (needB RK t)) := (HR3.out.cell t).trans (by simp [boolCells, htm])
                have hfz : w2.frozen? ⟨N, t, none⟩ = false := HR3.out.frozen t
                go_wp2
                go_roundw
                case rel => exact ⟨k + 1, by go_num, by omega, Lib.hid (by rw [HT3.out, ← HH1.out]; exact HR3.out.set_ t _), Lib.hid (HB3.out.setCell (by show w.heap.size ≤ N; omega) _)⟩
                case measure => simp [intOf]; omega
        · obtain rfl : k = n.refs.length := by omega
          rw [List.take_length, ← HT.out] at HR2
          go_wp2
          go_roundw
          case rel => exact ⟨i + 1, by go_num, by omega, HR2, HB2⟩
          case measure => simp [intOf]; omega
    · obtain rfl : i = u.nodes.length := by omega
      rw [List.take_length, ← HRF.out] at HR
      obtain ⟨wz, rfl⟩ : ∃ wz : World, wz = wr := ⟨_, rfl⟩
      clear HB1 HRF HU
      go_wp2_with fail
      go_loopw [9, 52] (fun vo vn wq => ∃ j : Nat, vn = .int .i64 j ∧ j ≤ m ∧ wq.ownsRow wz.heap.size 3 1 vo (needL j RS).length (intCells (needL j RS)) ∧ Hid (Below wz.heap.size wz wq)) (fun _ vn _ => m - (intOf vn).toNat)
      case atStart => exact ⟨0, rfl, Nat.zero_le _, World.ownsRow_nil _ _ _ _, Below.refl _ _⟩
      case round =>
        obtain ⟨j, rfl, hjm, hown, HQ⟩ := hrel
        have hln := needL_length RS j
        have HS := Lib.hid (needL_step RS j)
        have hsz := HQ.out.size
        by_cases hj : j < m
        · have c0 : wr.cell? ⟨N, j, none⟩ = some (.bool (needB RS j)) := ((HR.out.below HQ.out HR.out.lt).cell j).trans (by simp [boolCells, hj])
          have HOW := Lib.hid hown
          clear hown
          cases hb : needB RS j with
          | false =>
            rw [hb] at c0 HS
            have HS2 := Lib.hid (show needL (j + 1) RS = needL j RS by rw [HS.out]; simp)
            clear hb
            go_wp2
            go_roundw
            case rel => exact ⟨j + 1, by go_num, by omega, by rw [HS2.out]; exact HOW.out, HQ⟩
            case measure => simp [intOf]; omega
          | true =>
            rw [hb] at c0 HS
            have HS2 := Lib.hid (show needL (j + 1) RS = needL j RS ++ [(j : Int)] from HS.out)
            have hown := HOW.out
            clear hb
            generalize needL j RS = acc at hown hln HS2
            go_wp2_with (at_builtin; refine wpList_append_own _ rfl _ _ 33 rfl wz.heap.size 3 k0 (.int .i64 0) 1 8 Try.underlying33 hk hy0 hy1 hy2 rfl (by decide) _ _ _ rfl (hown.alloc _) ⟨wr.heap.size, 0, none⟩ 1 1 [Value.int .i64 (j : Int)] rfl rfl ?c1 ?c2 ?c3 ?c4 ?c5 ?_)
            case c2 => rfl
            case c3 => unfold maxLen; omega
            case c4 => omega
            case c5 => omega
            intro v' w3 hown' hgrow _
            have HQ3 := Lib.hid ((HQ.out.alloc hsz (.cells #[Value.int .i64 (j : Int)] 3)).grown hgrow (by simp; omega) (fun kk hkk => (hown.lt kk hkk).1))
            have HOW3 := Lib.hid hown'
            clear hown' hown hgrow
            go_wp2
            go_roundw
            case rel => exact ⟨j + 1, by go_num, by omega, by rw [HS2.out, intCells, List.map_append, List.length_append]; exact HOW3.out, HQ3⟩
            case measure => simp [intOf]; omega
        · obtain rfl : j = m := by omega
          rw [← HND.out] at hown hln
          have HOW := Lib.hid hown
          have hsw := HB.out.size
          clear hown HS
          go_wp2
          go_ret
          exact ⟨_, rfl, HOW.out.mono hsw, HB.out.trans (HQ.out.mono hsw)⟩

end Go.Proofs.Ytdmomdaeiaeolaa
