/-
  Plain laws on what Keep gives, for old and new imports that are different and slots that are different. Conditions: none beyond the hypotheses.
-/
import Derived.Test.YtdmomdaeiaeolaaDiff
namespace Go.Proofs.Ytdmomdaeiaeolaa
open Go.RowKit

theorem diffB_nodup {xs : List ImpD} (h : diffB xs = true) : (xs.map ImpD.key).Nodup := of_decide_eq_true h

/-- No slot that is not negative stands twice. -/
def DistS (zs : List Int) : Prop := ∀ i (hi : i < zs.length), 0 ≤ zs[i] → zs[i] ∉ zs.take i

theorem firstS_has {ps : List (Key × Int)} {k : Key} {s : Int} (h : firstS ps k = some s) : 0 ≤ s ∧ ∃ i : Nat, ps[i]? = some (k, s) := by
  unfold firstS at h
  obtain ⟨p, hp, rfl⟩ := Option.map_eq_some_iff.1 h
  have h1 := List.find?_some hp
  simp only [Bool.and_eq_true, decide_eq_true_eq] at h1
  obtain ⟨i, hi⟩ := List.getElem?_of_mem (List.mem_of_find?_eq_some hp)
  exact ⟨h1.2, i, by rw [hi, ← h1.1]⟩

theorem pairs_at {old : UnitD} {l : LayD} {i : Nat} {k : Key} {s : Int} (h : (pairs old l)[i]? = some (k, s)) : ∃ (hi : i < old.imps.length) (hs : i < l.slots.length), (old.imps[i]'hi).key = k ∧ l.slots[i]'hs = s := by
  unfold pairs at h
  rw [List.getElem?_zip_eq_some] at h
  obtain ⟨h1, h2⟩ := h
  rw [List.getElem?_map] at h1
  obtain ⟨x, hx, rfl⟩ := Option.map_eq_some_iff.1 h1
  obtain ⟨hi, rfl⟩ := List.getElem?_eq_some_iff.1 hx
  obtain ⟨hs, rfl⟩ := List.getElem?_eq_some_iff.1 h2
  exact ⟨hi, hs, rfl, rfl⟩

theorem pairs_step (old : UnitD) (l : LayD) (k : Nat) (h1 : k < old.imps.length) (h2 : k < l.slots.length) : (pairs old l).take (k + 1) = (pairs old l).take k ++ [((old.imps[k]'h1).key, l.slots[k]'h2)] := by
  have h := zip_take_step (old.imps.map ImpD.key) l.slots k (by simpa using h1) h2
  rw [List.getElem_map] at h
  exact h

/-- The first one that is not negative, up to k. -/
def upTo (old : UnitD) (l : LayD) (key : Key) (k : Nat) : Int := (firstS ((pairs old l).take k) key).getD (-1)

theorem upTo_zero (old : UnitD) (l : LayD) (key : Key) : upTo old l key 0 = -1 := rfl
theorem upTo_hit (old : UnitD) (l : LayD) (key : Key) (k : Nat) (h1 : k < old.imps.length) (h2 : k < l.slots.length) (hd : (old.imps.map ImpD.key).Nodup) (hk : (old.imps[k]'h1).key = key) (hs : 0 ≤ l.slots[k]'h2) :
    upTo old l key (k + 1) = l.slots[k]'h2 := by
  unfold upTo
  rw [pairs_step old l k h1 h2, firstS_snoc, if_pos ⟨hk, hs⟩]
  cases hf : firstS ((pairs old l).take k) key with
  | none => rfl
  | some s =>
    obtain ⟨_, i, hi⟩ := firstS_has hf
    rw [List.getElem?_take] at hi
    split at hi
    next hik =>
      obtain ⟨hi1, _, hki, _⟩ := pairs_at hi
      have := List.pairwise_iff_getElem.1 hd i k (by simpa using hi1) (by simpa using h1) hik
      rw [List.getElem_map, List.getElem_map] at this
      exact absurd (hki.trans hk.symm) this
    next => cases hi
theorem upTo_miss (old : UnitD) (l : LayD) (key : Key) (k : Nat) (h1 : k < old.imps.length) (h2 : k < l.slots.length) (hn : ¬ ((old.imps[k]'h1).key = key ∧ 0 ≤ l.slots[k]'h2)) :
    upTo old l key (k + 1) = upTo old l key k := by
  unfold upTo
  rw [pairs_step old l k h1 h2, firstS_snoc, if_neg hn]
  cases firstS ((pairs old l).take k) key <;> rfl

theorem keepL_length (old : UnitD) (l : LayD) (u : UnitD) : (keepL old l u).length = u.imps.length := by simp [keepL]
theorem keepL_at (old : UnitD) (l : LayD) (u : UnitD) (n : Nat) (hn : n < u.imps.length) (hl : l.slots.length = old.imps.length) :
    (keepL old l u)[n]'(by rw [keepL_length]; exact hn) = if (n : Int) ∈ u.need then upTo old l (u.imps[n]'hn).key old.imps.length else -1 := by
  simp only [keepL, List.getElem_map, List.getElem_range]
  congr 1
  unfold slotAt upTo
  rw [List.getElem?_eq_getElem hn, List.take_of_length_le]
  unfold pairs
  rw [List.length_zip, List.length_map, hl]
  omega

theorem keepL_from (old : UnitD) (l : LayD) (u : UnitD) (n : Nat) (hn : n < (keepL old l u).length) (hp : 0 ≤ (keepL old l u)[n]'hn) :
    ∃ (hu : n < u.imps.length) (i : Nat) (hi : i < old.imps.length) (hs : i < l.slots.length), (old.imps[i]'hi).key = (u.imps[n]'hu).key ∧ l.slots[i]'hs = (keepL old l u)[n]'hn := by
  have hu : n < u.imps.length := by rwa [keepL_length] at hn
  have e : (keepL old l u)[n]'hn = if (n : Int) ∈ u.need then slotAt old l u n else -1 := by simp only [keepL, List.getElem_map, List.getElem_range]
  rw [e] at hp ⊢
  split at hp
  next hin =>
    rw [if_pos hin]
    unfold slotAt at hp ⊢
    rw [List.getElem?_eq_getElem hu] at hp ⊢
    simp only at hp ⊢
    cases hf : firstS (pairs old l) (u.imps[n]'hu).key with
    | none => rw [hf] at hp; simp at hp
    | some s =>
      obtain ⟨_, i, hi⟩ := firstS_has hf
      obtain ⟨h1, h2, h3, h4⟩ := pairs_at hi
      exact ⟨hu, i, h1, h2, h3, h4⟩
  next => omega

theorem keepL_dist (old : UnitD) (l : LayD) (u : UnitD) (hd : (u.imps.map ImpD.key).Nodup) (hs : DistS l.slots) (n : Nat) (hn : n < (keepL old l u).length) (hp : 0 ≤ (keepL old l u)[n]'hn) :
    (keepL old l u)[n]'hn ∉ (keepL old l u).take n := by
  intro hm
  obtain ⟨m, hm1, hm2⟩ := List.getElem_of_mem hm
  rw [List.getElem_take] at hm2
  have hmn : m < n := by rw [List.length_take] at hm1; omega
  obtain ⟨hu, i, hi, hsi, hk1, hv1⟩ := keepL_from old l u n hn hp
  obtain ⟨hu', j, hj, hsj, hk2, hv2⟩ := keepL_from old l u m (by omega) (by rw [hm2]; exact hp)
  have hvv : l.slots[i]'hsi = l.slots[j]'hsj := by rw [hv1, hv2, hm2]
  have hpi : 0 ≤ l.slots[i]'hsi := by rw [hv1]; exact hp
  have hpj : 0 ≤ l.slots[j]'hsj := by rw [← hvv]; exact hpi
  rcases Nat.lt_trichotomy i j with hij | hij | hij
  · refine hs j hsj hpj ?_
    rw [← hvv]
    exact List.mem_take_iff_getElem.2 ⟨i, by omega, rfl⟩
  · subst hij
    have := List.pairwise_iff_getElem.1 hd m n (by simpa using hu') (by simpa using hu) hmn
    rw [List.getElem_map, List.getElem_map] at this
    exact this (hk2.symm.trans hk1)
  · refine hs i hsi hpi ?_
    rw [hvv]
    exact List.mem_take_iff_getElem.2 ⟨j, by omega, rfl⟩

end Go.Proofs.Ytdmomdaeiaeolaa
