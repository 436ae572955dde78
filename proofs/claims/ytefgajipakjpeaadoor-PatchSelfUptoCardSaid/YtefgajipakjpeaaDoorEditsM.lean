/-
  Contract of patch.edits (condition: both strings have at most 2^24 bytes), and the plain facts for it.
-/
import Derived.Test.YtefgajipakjpeaaDoorComp
import Derived.Test.YtefgajipakjpeaaDoorApply
import Derived.Maps.OwnSet
import Derived.Maps.OwnOps
namespace Go.Proofs.YtefgajipakjpeaaDoor
open Go.RowKit Go.Maps Go.ChangeMaps

theorem law9 : Keyed Tryd.prog 9 := Maps.string_keyed Tryd.underlying9
theorem zero3 (w : World) : (zeroValue 3).run Tryd.prog w = .ok (.int .i64 0) w := by kernel_rfl
theorem key9 (b : List UInt8) (h : b.length ≤ maxLen) : keyOf Tryd.prog 9 (.string ⟨b.toArray⟩) = some (.string b) := by
  have h1 : (ByteArray.mk b.toArray).size ≤ maxLen := by show b.toArray.size ≤ _; simpa using h
  exact Go.WideMaps.keyOf_string_mk Tryd.underlying9 h1
theorem key9_lit {b : List UInt8} (h : b.length ≤ maxLen) : WideAt.IsKeyLit (Lit.string b) := law9.key (key9 b h)

def blk (old : List UInt8) (j : Nat) : List UInt8 := (old.drop (32 * j)).take 32
def firstB (old : List UInt8) (k : Nat) (b : List UInt8) : Option Nat := (List.range k).find? fun j => decide (blk old j = b)
theorem firstB_succ (old : List UInt8) (k : Nat) (b : List UInt8) : firstB old (k + 1) b = (firstB old k b).or (if blk old k = b then some k else none) := by
  unfold firstB
  rw [List.range_succ, List.find?_append]
  congr 1
  by_cases h : blk old k = b
  · simp [List.find?, h]
  · simp [List.find?, h]
theorem firstB_some {old : List UInt8} {k j : Nat} {b : List UInt8} (h : firstB old k b = some j) : j < k ∧ blk old j = b := by
  unfold firstB at h
  have h1 := List.find?_some h
  have h2 := List.mem_of_find?_eq_some h
  exact ⟨List.mem_range.1 h2, by simpa using h1⟩
theorem firstB_zero {old : List UInt8} : ∀ {k : Nat}, 0 < k → firstB old k (blk old 0) = some 0
  | 0, h => absurd h (by omega)
  | 1, _ => by simp [firstB]
  | k + 2, _ => by
    rw [firstB_succ, firstB_zero (k := k + 1) (by omega)]
    rfl

/-- The map holds the first k blocks, each at its first offset. -/
structure MapB (D : DataW Nat) (old : List UInt8) (k : Nat) : Prop where
  isMap : Maps.IsMap D
  has : ∀ b : List UInt8, b.length ≤ maxLen → Maps.has D (.string b) = (firstB old k b).isSome
  at_ : ∀ b : List UInt8, b.length ≤ maxLen → ∀ z, D.atKey (.string b) z = match firstB old k b with | some j => .lit (.int .i64 ((32 * j : Nat) : Int)) | none => z
theorem MapB.empty (old : List UInt8) : MapB (.map []) old 0 := ⟨Maps.isMap_empty, fun _ _ => rfl, fun _ _ _ => rfl⟩
theorem MapB.skip {D : DataW Nat} {old : List UInt8} {k : Nat} (h : MapB D old k) (hs : (firstB old k (blk old k)).isSome = true) : MapB D old (k + 1) := by
  have e : ∀ b, firstB old (k + 1) b = firstB old k b := fun b => by
    rw [firstB_succ]
    by_cases h1 : blk old k = b
    · rw [← h1]
      obtain ⟨x, hx⟩ := Option.isSome_iff_exists.1 hs
      rw [hx]
      rfl
    · rw [if_neg h1]
      cases firstB old k b <;> rfl
  exact ⟨h.isMap, fun b hb => by rw [e]; exact h.has b hb, fun b hb z => by rw [e]; exact h.at_ b hb z⟩
theorem MapB.put {D : DataW Nat} {old : List UInt8} {k : Nat} (h : MapB D old k) (hn : firstB old k (blk old k) = none) (hl : (blk old k).length ≤ maxLen) : MapB (D.put (.string (blk old k)) (.lit (.int .i64 ((32 * k : Nat) : Int)))) old (k + 1) := by
  refine ⟨h.isMap.put _ _, fun b hb => ?_, fun b hb z => ?_⟩
  · rw [firstB_succ]
    by_cases he : blk old k = b
    · subst he
      rw [Maps.has_put_same h.isMap (key9_lit hl), hn, if_pos rfl]
      rfl
    · rw [Maps.has_put_other (fun e => he (by injection e with e; exact e.symm)), h.has b hb, if_neg he]
      cases firstB old k b <;> rfl
  · rw [firstB_succ]
    by_cases he : blk old k = b
    · subst he
      rw [Maps.atKey_put_same h.isMap (key9_lit hl), hn, if_pos rfl]
      rfl
    · rw [Maps.atKey_put_other (fun e => he (by injection e with e; exact e.symm)), h.at_ b hb, if_neg he]
      cases firstB old k b <;> rfl
theorem ownsMap_below {H : Type} {w w' : World} {P : Program} {k : TypeId} {R : Value → Option (DataW H × List MemPlace)} {b n B : Nat} {D : DataW H} (h : w.ownsMap P k R b n D) (hb : Below B w w') (hB : b < B) : w'.ownsMap P k R b n D := by
  obtain ⟨es, clock, h1, h2, h3, h4⟩ := h
  exact ⟨es, clock, (hb.block b hB).trans h1, h2, h3, h4⟩

/-- What an atom stands for in an old string. -/
def valA (old : List UInt8) : Atom → UInt8
  | .lit b => b
  | .off o => old.getD o.toNat 0
theorem val_offs (old : List UInt8) (f : Int) (n : Nat) (h0 : 0 ≤ f) (h : f + n ≤ old.length) : (offs f n).map (valA old) = (old.drop f.toNat).take n := by
  apply List.ext_getElem?
  intro i
  rw [List.getElem?_map, offs_get, List.getElem?_take, List.getElem?_drop]
  by_cases hi : i < n
  · rw [if_pos hi, if_pos hi]
    have e : (f + (i : Int)).toNat = f.toNat + i := by omega
    show some (old.getD (f + i).toNat 0) = _
    rw [e, List.getD_eq_getElem?_getD]
    rw [List.getElem?_eq_getElem (by omega)]
    rfl
  · rw [if_neg hi, if_neg hi]
    rfl
theorem val_lits (old l : List UInt8) : (l.map Atom.lit).map (valA old) = l := by
  rw [List.map_map]
  exact List.map_id'' (fun _ => rfl) l
theorem piece_val (old : List UInt8) (e : EditD) (he : EOk e) (hi : insideA old.length (atoms e)) : pieceL old e = (atoms e).map (valA old) := by
  unfold pieceL copiedB
  rcases he with ⟨a, b, c, d⟩ | ⟨a, b, c⟩
  · have hA : atoms e = offs e.from_ e.size.toNat := by unfold atoms; rw [if_pos (by simp [a])]
    have := hi (e.from_ + e.size - 1) (by rw [hA]; exact mem_offs.2 (by omega))
    rw [if_pos (by simp [a]), hA, val_offs _ _ _ b (by omega)]
  · have hA : atoms e = e.text.map Atom.lit := by unfold atoms; rw [if_neg (by simpa using a)]
    rw [if_neg (by simpa using a), hA, val_lits]
theorem res_val (old : List UInt8) : ∀ (es : List EditD), (∀ e ∈ es, EOk e) → insideA old.length (atomsL es) → resL old es = (atomsL es).map (valA old)
  | [], _, _ => rfl
  | e :: l, h, hi => by
    have h1 := piece_val old e (h e List.mem_cons_self) (fun o ho => hi o (List.mem_append_left _ ho))
    have h2 := res_val old l (fun x hx => h x (List.mem_cons_of_mem _ hx)) (fun o ho => hi o (List.mem_append_right _ ho))
    show pieceL old e ++ resL old l = _
    rw [h1, h2, atomsL_cons, List.map_append]
theorem res_make {old : List UInt8} {A : List Atom} (hi : insideA old.length A) (hn : old.length ≤ 16777216) : resL old (makeA A) = A.map (valA old) ∧ insideL old (makeA A) := by
  obtain ⟨h1, h2⟩ := make_eok (insideA_mono hi (by omega))
  refine ⟨by rw [res_val old _ h1 (by rw [make_atoms]; exact hi), make_atoms], fun e he hc => ?_⟩
  have h3 := make_in (by omega) (by omega) hi e he
  exact h3.from_
theorem val_sub {old : List UInt8} {A R : List Atom} (hR : insideA A.length R) : (R.map (subA A)).map (valA old) = R.map (valA (A.map (valA old))) := by
  rw [List.map_map]
  apply List.map_congr_left
  intro x hx
  cases x with
  | lit b => rfl
  | off k =>
    have hk := hR k hx
    show valA old (A.getD k.toNat (.lit 0)) = (A.map (valA old)).getD k.toNat 0
    rw [List.getD_eq_getElem?_getD, List.getD_eq_getElem?_getD, List.getElem?_map, List.getElem?_eq_getElem (by omega)]
    rfl

/-- What edits gives, in atoms. -/
structure EditsOf (old new : List UInt8) (A : List Atom) : Prop where
  val : A.map (valA old) = new
  inside : insideA old.length A
  self : old = new → 32 ≤ old.length → A = offs 0 old.length
  short : new.length < 32 → A = new.map Atom.lit

end Go.Proofs.YtefgajipakjpeaaDoor

namespace Go.Proofs.YtefgajipakjpeaaDoor
open Go.RowKit Go.Maps Go.ChangeMaps

theorem ext_blk (o : List UInt8) (k : Nat) : (ByteArray.mk o.toArray).extract (32 * k) (32 * k + 32) = ⟨(blk o k).toArray⟩ := by
  have e : 32 * k + 32 - 32 * k = 32 := by omega
  rw [Lib.extract_eq, e]
  rfl
theorem blk_len (o : List UInt8) (k : Nat) : (blk o k).length ≤ maxLen := by
  unfold blk maxLen
  rw [List.length_take]
  omega

theorem own_base {w : World} {B B' s n : Nat} {e : TypeId} {v : Value} {xs : List Value} (h : w.ownsRow B e s v n xs) (hB : B' ≤ B) : w.ownsRow B' e s v n xs := by
  refine ⟨h.1, ?_⟩
  rcases h.2 with h | ⟨g, c, cur, h1, h2, h3⟩
  · exact .inl h
  · exact .inr ⟨g, c, cur, h1, Nat.le_trans hB h2, h3⟩
theorem MKat.keepB {B b : Nat} {es : List EditD} {acc : List UInt8} {w1 w2 : World} (h : MKat B b es acc w1) (hb : Below w1.heap.size w1 w2) : MKat B b es acc w2 := by
  obtain ⟨cs, v, hm⟩ := h
  exact ⟨cs, v, hm.keep hb⟩
theorem take_more {o n : List UInt8} {q i t x1 x2 : Nat} (h : (o.drop q).take t = (n.drop i).take t) (c1 : x1 < o.length) (c2 : x2 < n.length) (h1 : x1 = q + t) (h2 : x2 = i + t) (c3 : o[x1]'c1 = n[x2]'c2) : (o.drop q).take (t + 1) = (n.drop i).take (t + 1) := by
  subst h1 h2
  rw [List.take_succ_eq_append_getElem (by rw [List.length_drop]; omega), List.take_succ_eq_append_getElem (by rw [List.length_drop]; omega), h, List.getElem_drop, List.getElem_drop, c3]
theorem byte_sz {o : List UInt8} {i : Nat} (h : i < o.length) : i < (ByteArray.mk o.toArray).size := by
  show i < o.toArray.size
  simpa using h
theorem byte_at (o : List UInt8) (i : Nat) (h : i < o.length) (h' : i < (ByteArray.mk o.toArray).size) : (ByteArray.mk o.toArray)[i]'h' = o[i]'h := by
  show o.toArray[i]'_ = _
  simp
theorem ext_new (n : List UInt8) (i : Nat) : (ByteArray.mk n.toArray).extract i (i + 32) = ⟨((n.drop i).take 32).toArray⟩ := by
  have e : i + 32 - i = 32 := by omega
  rw [Lib.extract_eq, e]
/-- What edits has done after the first i bytes of the new string. -/
structure EditsAt (old new : List UInt8) (i : Nat) (A : List Atom) : Prop where
  val : A.map (valA old) = new.take i
  inside : insideA old.length A
  self : old = new → 32 ≤ old.length → (i = 0 ∧ A = []) ∨ (i = old.length ∧ A = offs 0 old.length)
  short : new.length < 32 → A = (new.take i).map Atom.lit
theorem EditsAt.start (old new : List UInt8) : EditsAt old new 0 [] := ⟨by simp, (by intro o h; cases h), fun _ _ => .inl ⟨rfl, rfl⟩, fun _ => by simp⟩
theorem EditsAt.len {old new : List UInt8} {i : Nat} {A : List Atom} (h : EditsAt old new i A) (hi : i ≤ new.length) : A.length = i := by
  have := congrArg List.length h.val
  rw [List.length_map, List.length_take] at this
  omega
theorem EditsAt.mkOk {old new : List UInt8} {i : Nat} {A : List Atom} (h : EditsAt old new i A) (ho : old.length ≤ 16777216) (_hn : new.length ≤ 16777216) : MkOk A.length (runA ([], []) A).1 (runA ([], []) A).2 := by
  have h0 : MkOk 0 (([], []) : List EditD × List UInt8).1 (([], []) : List EditD × List UInt8).2 := ⟨(by intro e he; cases he), rfl⟩
  have h1 := run_mk A ([], []) 0 h0 (insideA_mono h.inside (by omega))
  rw [Int.zero_add] at h1
  exact h1
theorem EditsAt.lit {old new : List UInt8} {i : Nat} {A : List Atom} (h : EditsAt old new i A) (hi : i < new.length) (hns : old = new → 32 ≤ old.length → i ≠ 0) : EditsAt old new (i + 1) (A ++ [.lit (new[i]'hi)]) := by
  refine ⟨?_, fun o ho => ?_, fun e1 e2 => ?_, fun hs => ?_⟩
  · rw [List.map_append, h.val, List.take_succ_eq_append_getElem hi]
    rfl
  · rcases List.mem_append.1 ho with ho | ho
    · exact h.inside o ho
    · simp at ho
  · rcases h.self e1 e2 with ⟨a, _⟩ | ⟨a, _⟩
    · exact absurd a (hns e1 e2)
    · rw [e1] at a
      omega
  · rw [h.short hs, List.take_succ_eq_append_getElem hi, List.map_append]
    rfl
theorem EditsAt.copy {old new : List UInt8} {i q t : Nat} {A : List Atom} (h : EditsAt old new i A) (hi : i < new.length) (hb : i + 32 ≤ new.length) (h1 : q + t ≤ old.length) (he : (old.drop q).take t = (new.drop i).take t) (hm : old = new → q = i → q + t = old.length) (hz : old = new → 32 ≤ old.length → i = 0 → q = 0) : EditsAt old new (i + t) (A ++ offs (q : Int) t) := by
  have e0 : ((q : Int)).toNat = q := by omega
  refine ⟨?_, fun o ho => ?_, fun e1 e2 => ?_, fun hs => by omega⟩
  · rw [List.map_append, h.val, val_offs _ _ _ (by omega) (by omega), e0, he, List.take_add]
  · rcases List.mem_append.1 ho with ho | ho
    · exact h.inside o ho
    · have := mem_offs.1 ho
      omega
  · rcases h.self e1 e2 with ⟨a, b⟩ | ⟨a, _⟩
    · have hq := hz e1 e2 a
      have hl := hm e1 (by omega)
      refine .inr ⟨by omega, ?_⟩
      rw [b, List.nil_append, hq]
      have : t = old.length := by omega
      rw [this]
      rfl
    · rw [e1] at a
      omega

set_option maxHeartbeats 8000000 in
set_option maxRecDepth 100000 in
theorem edits_any (o n : List UInt8) (w : World) (ho : o.length ≤ 16777216) (hn : n.length ≤ 16777216) :
    Calls Tryd.prog 34 #[str o, str n] w (fun r w' => ∃ A, EditsOf o n A ∧ EditsPost (makeA A) w r w') := by
  unfold EditsPost str
  have hmm := @run_makeMap Tryd.prog
  have HB0 : Hid (Below w.heap.size w (w.alloc (.map #[] 0))) := (Below.refl _ _).alloc (Nat.le_refl _) _
  have HM0 : Hid ((w.alloc (.map #[] 0)).ownsMap Tryd.prog 9 (plainElem (H := Nat) Tryd.prog 3) w.heap.size 0 (.map [])) := World.ownsMap_made (H := Nat) w Tryd.prog 9 (plainElem Tryd.prog 3)
  go_enter Tryd.func34, Tryd.ntmps34
  go_wp2_with fail
  clear hmm
  go_loopw [6] (fun vo wr => ∃ (k q : Nat) (D : DataW Nat), vo = .int .i64 (q : Int) ∧ q ≤ o.length ∧ Hid (q = 32 * k) ∧ Hid (wr.ownsMap Tryd.prog 9 (plainElem (H := Nat) Tryd.prog 3) w.heap.size k D) ∧ Hid (MapB D o k) ∧ Hid (Below w.heap.size w wr)) (fun vo _ => o.length + 1 - (intOf vo).toNat)
  case atStart => exact ⟨0, 0, .map [], rfl, Nat.zero_le _, Lib.hid rfl, HM0, MapB.empty o, HB0⟩
  case round =>
    obtain ⟨k, q, D, rfl, hq, HQ, HM, HD, HB⟩ := hrel
    by_cases hlt : q + 32 ≤ o.length
    · have hkm : k < maxLen := by have := HQ.out; unfold maxLen; omega
      have hqb : decide ((q : Int) + 32 ≤ (o.length : Int)) = true := decide_eq_true (by omega)
      have HKEY : Hid (keyOf Tryd.prog 9 (.string ((ByteArray.mk o.toArray).extract q (q + 32))) = some (.string (blk o k))) := Lib.hid (by rw [HQ.out, ext_blk]; exact key9 _ (blk_len o k))
      have HHAS := Lib.hid (HD.out.has (blk o k) (blk_len o k))
      have HWF : Hid ((Lit.int .i64 (q : Int)).wf = true) := Lib.hid (by
        simp [Lit.wf, IntKind.min, IntKind.max, IntKind.bits, IntKind.signed]
        omega)
      cases hf : firstB o k (blk o k) with
      | some j =>
        have hhas : Maps.has D (.string (blk o k)) = true := by have h := HHAS.out; rw [hf] at h; exact h
        have HD1 : Hid (MapB D o (k + 1)) := HD.out.skip (by rw [hf]; rfl)
        clear hf
        go_wp2_with (at_lookup; refine wpList_lookup_own_ok_int _ rfl _ _ 100 rfl 9 3 .i64 law9 Tryd.underlying100 Tryd.underlying3 (zero3 _) w.heap.size k D rfl HM.out _ _ rfl HKEY.out ?_; intro c hat hwc)
        go_roundw
        case rel => exact ⟨k + 1, q + 32, D, by go_num, by omega, Lib.hid (by rw [HQ.out]; omega), HM.out.mono (Nat.le_succ _), HD1, HB⟩
        case measure => simp [intOf]; omega
      | none =>
        have hhas : Maps.has D (.string (blk o k)) = false := by have h := HHAS.out; rw [hf] at h; exact h
        have HD1 : Hid (MapB (D.put (.string (blk o k)) (.lit (.int .i64 (q : Int)))) o (k + 1)) := Lib.hid (by have h := HD.out.put hf (blk_len o k); rw [← HQ.out] at h; exact h)
        clear hf
        go_wp2_with (first
          | (at_lookup; refine wpList_lookup_own_ok_int _ rfl _ _ 100 rfl 9 3 .i64 law9 Tryd.underlying100 Tryd.underlying3 (zero3 _) w.heap.size k D rfl HM.out _ _ rfl HKEY.out ?_; intro c hat hwc)
          | (at_mapUpdate; refine wpList_mapUpdate_own _ rfl _ _ _ 100 rfl 9 3 law9 Tryd.underlying100 _ w.heap.size k D rfl HM.out hkm _ _ _ rfl rfl HKEY.out _ [] (plainElem_int Tryd.underlying3 HWF.out) ?_; intro w5 hown5 hgrow5))
        go_roundw
        case rel => exact ⟨k + 1, q + 32, _, by go_num, by omega, Lib.hid (by rw [HQ.out]; omega), hown5, HD1, HB.out.grown hgrow5 HB.out.size (fun g hg => by injection hg with hg; exact Nat.le_of_eq hg)⟩
        case measure => simp [intOf]; omega
    · have hqb : decide ((q : Int) + 32 ≤ (o.length : Int)) = false := decide_eq_false (by omega)
      have HK0 : Hid (32 ≤ o.length → 0 < k) := Lib.hid (by have := HQ.out; omega)
      have hmb := HB.out.size
      have hmbl : w.heap.size < wr.heap.size := by obtain ⟨es, ck, h1, _⟩ := HM.out; exact (Array.getElem?_eq_some_iff.1 h1).1
      have HMK0 := Lib.hid (MKat.new (B := w.heap.size + 1) wr hmbl)
      have HB1 := Lib.hid (HB.out.alloc HB.out.size (.cells #[.slice none 0 0, .pointer none, .slice none 0 0] 90))
      have HM1 := Lib.hid (HM.out.alloc (.cells #[.slice none 0 0, .pointer none, .slice none 0 0] 90))
      go_wp2_with fail
      clear HM0 HB0
      generalize (wr.alloc (.cells #[.slice none 0 0, .pointer none, .slice none 0 0] 90)) = w1 at HMK0 HB1 HM1 ⊢
      generalize wr.heap.size = mb at HMK0 hmbl hmb ⊢
      clear hqb HM HB
      go_loopw [10] (fun vi wr => ∃ (i : Nat) (A : List Atom), vi = .int .i64 i ∧ i ≤ n.length ∧ Hid (EditsAt o n i A) ∧ Hid (MKat (w.heap.size + 1) mb (runA ([], []) A).1 (runA ([], []) A).2 wr) ∧ Hid (wr.ownsMap Tryd.prog 9 (plainElem (H := Nat) Tryd.prog 3) w.heap.size k D) ∧ Hid (Below w.heap.size w wr)) (fun vi _ => n.length - (intOf vi).toNat)
      case atStart => exact ⟨0, [], rfl, Nat.zero_le _, EditsAt.start o n, HMK0, HM1, HB1⟩
      case round =>
        clear HMK0 HM1 HB1
        obtain ⟨i, A, rfl, hi, HA, HMK, HM, HB⟩ := hrel
        have HOK := Lib.hid (HA.out.mkOk ho hn)
        have HLA := Lib.hid (HA.out.len hi)
        have HSM := Lib.hid (HOK.out.small (by have := HLA.out; omega))
        have hBw : w.heap.size + 1 ≤ wr.heap.size := by obtain ⟨cs, v, hm⟩ := HMK.out; have := hm.bat.blk.lt; omega
        by_cases hil : i < n.length
        · by_cases hblk : i + 32 ≤ n.length
          · have hib : decide ((i : Int) + 32 ≤ (n.length : Int)) = true := decide_eq_true (by omega)
            have HKEY : Hid (keyOf Tryd.prog 9 (.string ((ByteArray.mk n.toArray).extract i (i + 32))) = some (.string ((n.drop i).take 32))) := Lib.hid (by rw [ext_new]; exact key9 _ (by rw [List.length_take]; unfold maxLen; omega))
            have HHAS := Lib.hid (HD.out.has ((n.drop i).take 32) (by rw [List.length_take]; unfold maxLen; omega))
            have HAT := Lib.hid (HD.out.at_ ((n.drop i).take 32) (by rw [List.length_take]; unfold maxLen; omega) (.lit (.int .i64 0)))
            cases hf : firstB o k ((n.drop i).take 32) with
            | none =>
              have hhas : Maps.has D (.string ((n.drop i).take 32)) = false := by have h := HHAS.out; rw [hf] at h; exact h
              have HNZ : Hid (o = n → 32 ≤ o.length → i = 0 → False) := Lib.hid (fun e1 e2 e3 => by
                have h := firstB_zero (old := o) (k := k) (HK0.out e2)
                unfold blk at h
                rw [Nat.mul_zero, e1] at h
                rw [e3, e1] at hf
                rw [hf] at h
                cases h)
              clear hf HAT HHAS
              have HW := Lib.hid (HMK.out.writeByte (n[i]'hil) (by have := HSM.out.2.2; omega) hBw)
              have HA1 := Lib.hid (HA.out.lit hil (fun e1 e2 h0 => HNZ.out e1 e2 h0))
              have HRN : Hid (runA ([], []) (A ++ [.lit (n[i]'hil)]) = ((runA ([], []) A).1, (runA ([], []) A).2 ++ [n[i]'hil])) := Lib.hid (by rw [runA_append]; rfl)
              go_wp2_with (at_lookup; refine wpList_lookup_own_ok_int _ rfl _ _ 100 rfl 9 3 .i64 law9 Tryd.underlying100 Tryd.underlying3 (zero3 _) w.heap.size k D rfl HM.out _ _ rfl HKEY.out ?_; intro c hat hwc)
              refine Calls.mono HW.out ?_
              rintro r w5 ⟨rfl, hm5, hb5⟩
              have HM5 := Lib.hid (ownsMap_below HM.out hb5 (Nat.lt_succ_self _))
              have HB5 := Lib.hid (HB.out.trans (hb5.mono (Nat.le_succ _)))
              have HMK5 : Hid (MKat (w.heap.size + 1) mb (runA ([], []) (A ++ [.lit (n[i]'hil)])).1 (runA ([], []) (A ++ [.lit (n[i]'hil)])).2 w5) := Lib.hid (by rw [HRN.out]; exact hm5)
              clear hm5 hb5 HW
              go_wp2
              go_roundw
              case rel => exact ⟨i + 1, A ++ [.lit (n[i]'hil)], by go_num, by omega, HA1, HMK5, HM5, HB5⟩
              case measure => simp [intOf]; omega
            | some j =>
              have hhas : Maps.has D (.string ((n.drop i).take 32)) = true := by have h := HHAS.out; rw [hf] at h; exact h
              obtain ⟨hjk, hjb⟩ := firstB_some hf
              obtain ⟨q, hq⟩ : ∃ q, q = 32 * j := ⟨_, rfl⟩
              have HATQ : Hid (D.atKey (.string ((n.drop i).take 32)) (.lit (.int .i64 0)) = .lit (.int .i64 (q : Int))) := Lib.hid (by have h := HAT.out; rw [hf] at h; rw [h, hq])
              have hq32 : q + 32 ≤ o.length := by have := HQ.out; omega
              have HEQ0 : Hid ((o.drop q).take 32 = (n.drop i).take 32) := Lib.hid (by rw [hq]; exact hjb)
              have HZ0 : Hid (o = n → 32 ≤ o.length → i = 0 → q = 0) := Lib.hid (fun e1 e2 e3 => by
                have h := firstB_zero (old := o) (k := k) (HK0.out e2)
                unfold blk at h
                rw [Nat.mul_zero, e1] at h
                rw [e3, e1] at hf
                rw [hf] at h
                injection h with h
                omega)
              clear hf HAT HHAS hjk hjb hq
              have hq0 : (0 : Int) ≤ (q : Int) := by omega
              go_wp2_with (at_lookup; refine wpList_lookup_own_ok_int _ rfl _ _ 100 rfl 9 3 .i64 law9 Tryd.underlying100 Tryd.underlying3 (zero3 _) w.heap.size k D rfl HM.out _ _ rfl HKEY.out ?_; intro c hat hwc; have hcq : c = (q : Int) := (by have h := hat.symm.trans HATQ.out; injection h with h; injection h); subst hcq; clear hat hwc)
              obtain ⟨wo, rfl⟩ : ∃ wo : World, wo = wr := ⟨_, rfl⟩
              have HBi0 : Hid (Below wo.heap.size wo wo) := Lib.hid (Below.refl _ _)
              go_loopw [13] (fun vt wi => ∃ t : Nat, vt = .int .i64 t ∧ 32 ≤ t ∧ q + t ≤ o.length ∧ i + t ≤ n.length ∧ Hid ((o.drop q).take t = (n.drop i).take t) ∧ Hid (Below wo.heap.size wo wi)) (fun vt _ => o.length - (intOf vt).toNat)
              case atStart => exact ⟨32, rfl, Nat.le_refl _, hq32, hblk, HEQ0, HBi0⟩
              case round =>
                clear HEQ0 HBi0
                obtain ⟨t, rfl, ht32, hqt, hit, HEQ, HBi⟩ := hrel
                obtain ⟨x1, hx1⟩ : ∃ x, x = q + t := ⟨_, rfl⟩
                obtain ⟨x2, hx2⟩ : ∃ x, x = i + t := ⟨_, rfl⟩
                have w1 : IntKind.i64.wrap ((q : Int) + (t : Int)) = (x1 : Int) := by rw [hx1]; push_cast; exact IntWalk.i64_in _ (by omega)
                have w2 : IntKind.i64.wrap ((i : Int) + (t : Int)) = (x2 : Int) := by rw [hx2]; push_cast; exact IntWalk.i64_in _ (by omega)
                have HX1 := Lib.hid hx1; have HX2 := Lib.hid hx2
                by_cases c1 : x1 < o.length
                · have d1 : decide ((x1 : Int) < (o.length : Int)) = true := decide_eq_true (by omega)
                  by_cases c2 : x2 < n.length
                  · have d2 : decide ((x2 : Int) < (n.length : Int)) = true := decide_eq_true (by omega)
                    clear hx1 hx2
                    by_cases c3 : o[x1]'c1 = n[x2]'c2
                    · have HEQ1 : Hid ((o.drop q).take (t + 1) = (n.drop i).take (t + 1)) := Lib.hid (take_more HEQ.out c1 c2 HX1.out HX2.out c3)
                      have e3 : ((((ByteArray.mk o.toArray)[x1]'(byte_sz c1)).toNat : Int) == (((ByteArray.mk n.toArray)[x2]'(byte_sz c2)).toNat : Int)) = true := by rw [byte_at o x1 c1 _, byte_at n x2 c2 _, c3]; simp
                      go_wp2_with fail
                      go_quiet (fail)
                      rename_i nq
                      have HBq : Hid (Below wo.heap.size wo (wr.drewN nq)) := below_drewN HBi.out nq
                      clear w1 w2 d1 d2 e3
                      go_wp2
                      go_roundw
                      case rel => exact ⟨t + 1, by go_num, by omega, by have := HX1.out; omega, by have := HX2.out; omega, HEQ1, HBq⟩
                      case measure => have := HX1.out; simp [intOf]; omega
                    · have e3 : ((((ByteArray.mk o.toArray)[x1]'(byte_sz c1)).toNat : Int) == (((ByteArray.mk n.toArray)[x2]'(byte_sz c2)).toNat : Int)) = false := by rw [byte_at o x1 c1 _, byte_at n x2 c2 _]; exact beq_eq_false_iff_ne.2 (fun h => c3 (UInt8.toNat_inj.1 (Int.ofNat.inj h)))
                      have HWHY : Hid (o = n → q = i → q + t = o.length) := Lib.hid (fun e1 e2 => by subst e1; have a := HX1.out; have b := HX2.out; rw [e2] at a; rw [← b] at a; subst a; exact absurd rfl c3)
                      clear c3
                      go_wp2_with fail
                      go_quiet (fail)
                      rename_i nq
                      clear w1 w2 d1 d2 e3
                      have HBi2 : Hid (Below wo.heap.size wo (wr.drewN nq)) := below_drewN HBi.out nq
                      generalize wr.drewN nq = wi at HBi2 ⊢

                      have HMX : Hid (o = n → q = i → q + t = o.length) := HWHY
                      have HMKi := Lib.hid (MKat.keepB HMK.out HBi2.out)
                      have HMi := Lib.hid (ownsMap_below HM.out (HBi2.out.mono hBw) (Nat.lt_succ_self _))
                      have hBwi : w.heap.size + 1 ≤ wi.heap.size := Nat.le_trans hBw HBi2.out.size
                      have HBBi := Lib.hid (HB.out.trans (HBi2.out.mono HB.out.size))
                      have HCP := Lib.hid (copy_any (q : Int) (t : Int) HMKi.out hBwi (by have := HSM.out.2.1; omega) (by have := HSM.out.2.2; omega) HSM.out.1 (by omega) (by omega) (by omega) (by omega))
                      have HRN : Hid (runA ([], []) (A ++ offs (q : Int) t) = (copyL (runA ([], []) A).1 (runA ([], []) A).2 q t, [])) := Lib.hid (by
                        rw [runA_append]
                        have e := runA_copy (runA ([], []) A).1 (runA ([], []) A).2 (q : Int) (t : Int) (by omega)
                        have et : ((t : Int)).toNat = t := by omega
                        rw [et] at e
                        exact e)
                      have HA1 := Lib.hid (HA.out.copy hil hblk hqt HEQ.out HMX.out HZ0.out)
                      go_wp2_with fail
                      refine Calls.mono HCP.out ?_
                      rintro r w5 ⟨rfl, hm5, hb5⟩
                      have HM5 := Lib.hid (ownsMap_below HMi.out (hb5) (Nat.lt_succ_self _))
                      have HB5 := Lib.hid (HBBi.out.trans (hb5.mono (Nat.le_succ _)))
                      have HMK5 : Hid (MKat (w.heap.size + 1) mb (runA ([], []) (A ++ offs (q : Int) t)).1 (runA ([], []) (A ++ offs (q : Int) t)).2 w5) := Lib.hid (by rw [HRN.out]; exact hm5)
                      clear hm5 hb5 HCP
                      go_wp2
                      go_roundw
                      case rel => exact ⟨i + t, A ++ offs (q : Int) t, by go_num, by omega, HA1, HMK5, HM5, HB5⟩
                      case measure => simp [intOf]; omega
                  · have d2 : decide ((x2 : Int) < (n.length : Int)) = false := decide_eq_false (by omega)
                    have HWHY : Hid (o = n → q = i → q + t = o.length) := Lib.hid (fun e1 e2 => by rw [e1] at hqt ⊢; omega)
                    clear hx1 hx2
                    go_wp2_with fail
                    go_quiet (fail)
                    rename_i nq
                    clear w1 w2 d1 d2
                    have HBi2 : Hid (Below wo.heap.size wo (wr.drewN nq)) := below_drewN HBi.out nq
                    generalize wr.drewN nq = wi at HBi2 ⊢

                    have HMX : Hid (o = n → q = i → q + t = o.length) := HWHY
                    have HMKi := Lib.hid (MKat.keepB HMK.out HBi2.out)
                    have HMi := Lib.hid (ownsMap_below HM.out (HBi2.out.mono hBw) (Nat.lt_succ_self _))
                    have hBwi : w.heap.size + 1 ≤ wi.heap.size := Nat.le_trans hBw HBi2.out.size
                    have HBBi := Lib.hid (HB.out.trans (HBi2.out.mono HB.out.size))
                    have HCP := Lib.hid (copy_any (q : Int) (t : Int) HMKi.out hBwi (by have := HSM.out.2.1; omega) (by have := HSM.out.2.2; omega) HSM.out.1 (by omega) (by omega) (by omega) (by omega))
                    have HRN : Hid (runA ([], []) (A ++ offs (q : Int) t) = (copyL (runA ([], []) A).1 (runA ([], []) A).2 q t, [])) := Lib.hid (by
                      rw [runA_append]
                      have e := runA_copy (runA ([], []) A).1 (runA ([], []) A).2 (q : Int) (t : Int) (by omega)
                      have et : ((t : Int)).toNat = t := by omega
                      rw [et] at e
                      exact e)
                    have HA1 := Lib.hid (HA.out.copy hil hblk hqt HEQ.out HMX.out HZ0.out)
                    go_wp2_with fail
                    refine Calls.mono HCP.out ?_
                    rintro r w5 ⟨rfl, hm5, hb5⟩
                    have HM5 := Lib.hid (ownsMap_below HMi.out (hb5) (Nat.lt_succ_self _))
                    have HB5 := Lib.hid (HBBi.out.trans (hb5.mono (Nat.le_succ _)))
                    have HMK5 : Hid (MKat (w.heap.size + 1) mb (runA ([], []) (A ++ offs (q : Int) t)).1 (runA ([], []) (A ++ offs (q : Int) t)).2 w5) := Lib.hid (by rw [HRN.out]; exact hm5)
                    clear hm5 hb5 HCP
                    go_wp2
                    go_roundw
                    case rel => exact ⟨i + t, A ++ offs (q : Int) t, by go_num, by omega, HA1, HMK5, HM5, HB5⟩
                    case measure => simp [intOf]; omega
                · have d1 : decide ((x1 : Int) < (o.length : Int)) = false := decide_eq_false (by omega)
                  have HWHY : Hid (o = n → q = i → q + t = o.length) := Lib.hid (fun _ _ => by omega)
                  clear hx1 hx2
                  go_wp2_with fail
                  go_quiet (fail)
                  rename_i nq
                  clear w1 w2 d1
                  have HBi2 : Hid (Below wo.heap.size wo (wr.drewN nq)) := below_drewN HBi.out nq
                  generalize wr.drewN nq = wi at HBi2 ⊢

                  have HMX : Hid (o = n → q = i → q + t = o.length) := HWHY
                  have HMKi := Lib.hid (MKat.keepB HMK.out HBi2.out)
                  have HMi := Lib.hid (ownsMap_below HM.out (HBi2.out.mono hBw) (Nat.lt_succ_self _))
                  have hBwi : w.heap.size + 1 ≤ wi.heap.size := Nat.le_trans hBw HBi2.out.size
                  have HBBi := Lib.hid (HB.out.trans (HBi2.out.mono HB.out.size))
                  have HCP := Lib.hid (copy_any (q : Int) (t : Int) HMKi.out hBwi (by have := HSM.out.2.1; omega) (by have := HSM.out.2.2; omega) HSM.out.1 (by omega) (by omega) (by omega) (by omega))
                  have HRN : Hid (runA ([], []) (A ++ offs (q : Int) t) = (copyL (runA ([], []) A).1 (runA ([], []) A).2 q t, [])) := Lib.hid (by
                    rw [runA_append]
                    have e := runA_copy (runA ([], []) A).1 (runA ([], []) A).2 (q : Int) (t : Int) (by omega)
                    have et : ((t : Int)).toNat = t := by omega
                    rw [et] at e
                    exact e)
                  have HA1 := Lib.hid (HA.out.copy hil hblk hqt HEQ.out HMX.out HZ0.out)
                  go_wp2_with fail
                  refine Calls.mono HCP.out ?_
                  rintro r w5 ⟨rfl, hm5, hb5⟩
                  have HM5 := Lib.hid (ownsMap_below HMi.out (hb5) (Nat.lt_succ_self _))
                  have HB5 := Lib.hid (HBBi.out.trans (hb5.mono (Nat.le_succ _)))
                  have HMK5 : Hid (MKat (w.heap.size + 1) mb (runA ([], []) (A ++ offs (q : Int) t)).1 (runA ([], []) (A ++ offs (q : Int) t)).2 w5) := Lib.hid (by rw [HRN.out]; exact hm5)
                  clear hm5 hb5 HCP
                  go_wp2
                  go_roundw
                  case rel => exact ⟨i + t, A ++ offs (q : Int) t, by go_num, by omega, HA1, HMK5, HM5, HB5⟩
                  case measure => simp [intOf]; omega
          · have hib : decide ((i : Int) + 32 ≤ (n.length : Int)) = false := decide_eq_false (by omega)
            have HW := Lib.hid (HMK.out.writeByte (n[i]'hil) (by have := HSM.out.2.2; omega) hBw)
            have HA1 := Lib.hid (HA.out.lit hil (fun e1 e2 => by rw [e1] at e2; omega))
            have HRN : Hid (runA ([], []) (A ++ [.lit (n[i]'hil)]) = ((runA ([], []) A).1, (runA ([], []) A).2 ++ [n[i]'hil])) := Lib.hid (by rw [runA_append]; rfl)
            go_wp2_with fail
            refine Calls.mono HW.out ?_
            rintro r w5 ⟨rfl, hm5, hb5⟩
            have HM5 := Lib.hid (ownsMap_below HM.out hb5 (Nat.lt_succ_self _))
            have HB5 := Lib.hid (HB.out.trans (hb5.mono (Nat.le_succ _)))
            have HMK5 : Hid (MKat (w.heap.size + 1) mb (runA ([], []) (A ++ [.lit (n[i]'hil)])).1 (runA ([], []) (A ++ [.lit (n[i]'hil)])).2 w5) := Lib.hid (by rw [HRN.out]; exact hm5)
            clear hm5 hb5 HW
            go_wp2
            go_roundw
            case rel => exact ⟨i + 1, A ++ [.lit (n[i]'hil)], by go_num, by omega, HA1, HMK5, HM5, HB5⟩
            case measure => simp [intOf]; omega
        · obtain rfl : i = n.length := by omega
          have HEO : Hid (EditsOf o n A) := Lib.hid (by
            have h := HA.out
            refine ⟨by rw [h.val, List.take_length], h.inside, fun e1 e2 => ?_, fun hs => by have := h.short hs; rw [List.take_length] at this; exact this⟩
            rcases h.self e1 e2 with ⟨a, _⟩ | ⟨_, b⟩
            · rw [e1] at e2
              omega
            · exact b)
          obtain ⟨FL, hFL⟩ : ∃ F, makeA A = F := ⟨_, rfl⟩
          have HF := Lib.hid (flush_any HMK.out hBw (by have := HSM.out.2.1; omega) (by have := HSM.out.2.2; omega))
          have hFL' : flushL (runA ([], []) A).1 (runA ([], []) A).2 = FL := hFL
          rw [hFL'] at HF
          have HFL := Lib.hid hFL
          clear hFL hFL'
          go_wp2_with fail
          refine (HF.out).mono ?_
          rintro r w5 ⟨rfl, hm5, hb5⟩
          have HB5 := Lib.hid (HB.out.trans (hb5.mono (Nat.le_succ _)))
          obtain ⟨cs, v, hm⟩ := hm5
          obtain ⟨A', c, rfl⟩ := own_shape hm.own
          have c0 : w5.cell? ⟨mb, 0, none⟩ = some (.slice A' FL.length c) := (hm.bat.blk.cell 0).trans hm.head
          have HO5 := Lib.hid (own_base hm.own (Nat.le_succ w.heap.size))
          clear hm hb5 HF
          go_wp2
          go_ret
          exact ⟨A, HEO.out, A', c, by rw [HFL.out]; rfl, by rw [HFL.out]; exact HO5.out, HB5.out⟩

end Go.Proofs.YtefgajipakjpeaaDoor
