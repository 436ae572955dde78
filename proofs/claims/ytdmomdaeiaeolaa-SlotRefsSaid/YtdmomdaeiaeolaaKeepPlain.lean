/-
  What slot.Keep gives, in plain Lean; its map, told by that. Conditions: none.
-/
import Derived.Test.YtdmomdaeiaeolaaRep
import Derived.Maps.OwnOps
import Derived.Maps.OwnSet
import Derived.DeepKeys4
namespace Go.Proofs.Ytdmomdaeiaeolaa
open Go.RowKit Go.Maps Go.ChangeMaps

theorem laidOut : laidOutB Try.prog = true := by kernel_rfl
theorem row64 : (64 : TypeId) < Try.prog.types.size := of_decide_eq_true (by kernel_rfl)
theorem wide64 : (match Try.prog.underlying 64 with | some (.array _ _) | some (.struct _) => true | _ => false) = true := by kernel_rfl
theorem law64 : Keyed Try.prog 64 := Keyed.of_law (deep_law_laid laidOut (m := 2) (by omega) row64 (by kernel_rfl) wide64)
theorem zero3 (w : World) : (zeroValue 3).run Try.prog w = .ok (.int .i64 0) w := by kernel_rfl
theorem kt64 : Try.prog.keyType 64 = true := by kernel_rfl
theorem cells64 : Try.prog.cellsOf 64 = 2 := by kernel_rfl
theorem cells9 : Try.prog.cellsOf 9 = 1 := by kernel_rfl
theorem keyLits9 (d : Nat) (a : List UInt8) (ha : a.length ≤ maxLen) : Try.prog.keyLits (d + 1) 9 [.string ⟨a.toArray⟩] = some [.string a] := by
  have h : (ByteArray.mk a.toArray).size ≤ maxLen := by show a.toArray.size ≤ _; simpa using ha
  simp only [Program.keyLits, Try.underlying9, if_pos h]
theorem keyLits64 (d : Nat) (a b : List UInt8) (ha : a.length ≤ maxLen) (hb : b.length ≤ maxLen) : Try.prog.keyLits (d + 2) 64 [.string ⟨a.toArray⟩, .string ⟨b.toArray⟩] = some [.string a, .string b] := by
  have hr : List.range 2 = [0, 1] := rfl
  have h0 : (ByteArray.mk a.toArray).size ≤ maxLen := by show a.toArray.size ≤ _; simpa using ha
  have h1 : (ByteArray.mk b.toArray).size ≤ maxLen := by show b.toArray.size ≤ _; simpa using hb
  simp [Program.keyLits, Try.underlying64, Try.underlying9, cells64, cells9, hr, h0, h1]
theorem keyed (a b : List UInt8) (ha : a.length ≤ maxLen) (hb : b.length ≤ maxLen) : ∃ l, keyOf Try.prog 64 (.agg #[.string ⟨a.toArray⟩, .string ⟨b.toArray⟩]) = some l := by
  unfold keyOf
  simp only [Try.underlying64, kt64, Value.formed, cells64, Value.cells]
  have hp : (1 : Nat) ≤ Try.prog.types.size := of_decide_eq_true (by kernel_rfl)
  obtain ⟨d, hd⟩ : ∃ d, Try.prog.types.size + 1 = d + 2 := ⟨Try.prog.types.size - 1, by omega⟩
  have hk := keyLits64 d a b ha hb
  rw [hd]
  exact ⟨_, by simp [hk]; rfl⟩

abbrev Key := List UInt8 × List UInt8
def ImpD.key (x : ImpD) : Key := (x.name, x.ver)

/-- What the map's key reads as. -/
noncomputable def kl (k : Key) : Lit := (keyOf Try.prog 64 (.agg #[.string ⟨k.1.toArray⟩, .string ⟨k.2.toArray⟩])).getD (.bool false)
def KeyOk (k : Key) : Prop := k.1.length ≤ maxLen ∧ k.2.length ≤ maxLen
theorem kl_is {k : Key} (h : KeyOk k) : keyOf Try.prog 64 (.agg #[.string ⟨k.1.toArray⟩, .string ⟨k.2.toArray⟩]) = some (kl k) := by
  obtain ⟨l, hl⟩ := keyed k.1 k.2 h.1 h.2
  unfold kl
  rw [hl]
  rfl
theorem kl_key {k : Key} (h : KeyOk k) : WideAt.IsKeyLit (kl k) := law64.key (kl_is h)
theorem kl_inj {k k' : Key} (h : KeyOk k) (h' : KeyOk k') (e : kl k = kl k') : k = k' := by
  have h1 := kl_is h
  rw [e] at h1
  have h2 := law64.inj h1 (kl_is h')
  simp only [Value.agg.injEq, Array.mk.injEq, List.cons.injEq, Value.string.injEq, ByteArray.mk.injEq, and_true] at h2
  exact Prod.ext (by simpa using h2.1) (by simpa using h2.2)

/-- The slot that an import gets: the first one that is not negative, of those of its name and version. -/
def firstS (ps : List (Key × Int)) (k : Key) : Option Int := (ps.find? fun p => decide (p.1 = k) && decide (0 ≤ p.2)).map Prod.snd

theorem firstS_snoc (ps : List (Key × Int)) (k' k : Key) (s : Int) : firstS (ps ++ [(k', s)]) k = (firstS ps k).or (if k' = k ∧ 0 ≤ s then some s else none) := by
  unfold firstS
  rw [List.find?_append]
  cases h : ps.find? fun p => decide (p.1 = k) && decide (0 ≤ p.2) with
  | some p => rfl
  | none =>
    by_cases h1 : k' = k ∧ 0 ≤ s
    · rw [if_pos h1]
      simp [List.find?, h1.1, h1.2]
    · rw [if_neg h1]
      have : (decide (k' = k) && decide (0 ≤ s)) = false := by simpa using h1
      simp [List.find?, this]

/-- The map holds what these slots give. -/
structure MapIs (D : DataW Nat) (ps : List (Key × Int)) : Prop where
  isMap : Maps.IsMap D
  has : ∀ k, KeyOk k → Maps.has D (kl k) = (firstS ps k).isSome
  at_ : ∀ k, KeyOk k → ∀ z, D.atKey (kl k) z = match firstS ps k with | some s => .lit (.int .i64 s) | none => z

theorem MapIs.empty : MapIs (.map []) [] := ⟨Maps.isMap_empty, fun _ _ => rfl, fun _ _ _ => rfl⟩
theorem MapIs.skip {D : DataW Nat} {ps : List (Key × Int)} (h : MapIs D ps) {k' : Key} {s : Int} (hs : (firstS ps k').isSome = true ∨ s < 0) : MapIs D (ps ++ [(k', s)]) := by
  have e : ∀ k, firstS (ps ++ [(k', s)]) k = firstS ps k := fun k => by
    rw [firstS_snoc]
    by_cases h1 : k' = k ∧ 0 ≤ s
    · rcases hs with hs | hs
      · rw [← h1.1]
        obtain ⟨x, hx⟩ := Option.isSome_iff_exists.1 hs
        rw [hx]
        rfl
      · omega
    · rw [if_neg h1]
      cases firstS ps k <;> rfl
  exact ⟨h.isMap, fun k hk => by rw [e]; exact h.has k hk, fun k hk z => by rw [e]; exact h.at_ k hk z⟩
theorem MapIs.put {D : DataW Nat} {ps : List (Key × Int)} (h : MapIs D ps) {k' : Key} {s : Int} (hk' : KeyOk k') (hn : firstS ps k' = none) (hs : 0 ≤ s) : MapIs (D.put (kl k') (.lit (.int .i64 s))) (ps ++ [(k', s)]) := by
  refine ⟨h.isMap.put _ _, fun k hk => ?_, fun k hk z => ?_⟩
  · rw [firstS_snoc]
    by_cases he : k' = k
    · subst he
      rw [Maps.has_put_same h.isMap (kl_key hk'), hn, if_pos ⟨rfl, hs⟩]
      rfl
    · rw [Maps.has_put_other (fun e => he (kl_inj hk' hk e.symm)), h.has k hk, if_neg (fun c => he c.1)]
      cases firstS ps k <;> rfl
  · rw [firstS_snoc]
    by_cases he : k' = k
    · subst he
      rw [Maps.atKey_put_same h.isMap (kl_key hk'), hn, if_pos ⟨rfl, hs⟩]
      rfl
    · rw [Maps.atKey_put_other (fun e => he (kl_inj hk' hk e.symm)), h.at_ k hk, if_neg (fun c => he c.1)]
      cases firstS ps k <;> rfl

/-- The slots of the old layout, with the imports that they are of. -/
def pairs (old : UnitD) (l : LayD) : List (Key × Int) := (old.imps.map ImpD.key).zip l.slots
def slotAt (old : UnitD) (l : LayD) (u : UnitD) (n : Nat) : Int := match u.imps[n]? with
  | some x => (firstS (pairs old l) x.key).getD (-1)
  | none => -1
/-- Keep. -/
def keepL (old : UnitD) (l : LayD) (u : UnitD) : List Int := (List.range u.imps.length).map fun (n : Nat) => if (n : Int) ∈ u.need then slotAt old l u n else -1

end Go.Proofs.Ytdmomdaeiaeolaa
