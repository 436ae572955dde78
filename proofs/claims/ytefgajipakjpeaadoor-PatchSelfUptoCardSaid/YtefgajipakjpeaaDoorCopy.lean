/-
  Contract of patch.maker.copy. Conditions: those in its own statement.
-/
import Derived.Test.YtefgajipakjpeaaDoorMaker
namespace Go.Proofs.YtefgajipakjpeaaDoor
open Go.RowKit

theorem own_blk {w : World} {B s : Nat} {e : TypeId} {v : Value} {n g : Nat} {xs : List Value} (h : w.ownsRow B e s v n xs) (hv : v.ownBlock = some g) : ∃ cs, Blk w g e cs := by
  rcases h.2 with ⟨rfl, _⟩ | ⟨g', cap, cur, rfl, _, hg, _⟩
  · simp [Value.ownBlock] at hv
  · simp only [Value.ownBlock, Option.some.injEq] at hv
    subst hv
    exact ⟨cur, hg⟩
/-- Two rows of different types: one stays while the other one grows. -/
theorem own_kept2 {w w' : World} {B B' s s' : Nat} {e e' : TypeId} {v v' : Value} {n n' : Nat} {xs xs' : List Value} (h : w.ownsRow B e s v n xs) (h' : w.ownsRow B' e' s' v' n' xs') (hne : e' ≠ e) (hg : w.grownBy w' v'.ownBlock) : w'.ownsRow B e s v n xs := by
  refine h.kept hg ?_
  cases hv : v'.ownBlock with
  | none => cases h2 : v.ownBlock <;> simp
  | some g =>
    obtain ⟨cs, hb⟩ := own_blk h' hv
    exact .inr (own_ne h hb hne)

/-- copy, behind flush, in plain Lean. -/
def addCopy (es : List EditD) (f s : Int) : List EditD :=
  match es.getLast? with
  | some x => if x.text.isEmpty && decide (x.from_ + x.size = f) then es.dropLast ++ [⟨x.from_, x.size + s, x.text⟩] else es ++ [⟨f, s, []⟩]
  | none => [⟨f, s, []⟩]
theorem addCopy_nil (f s : Int) : addCopy [] f s = [⟨f, s, []⟩] := rfl
theorem addCopy_snoc (l : List EditD) (x : EditD) (f s : Int) : addCopy (l ++ [x]) f s = if x.text.isEmpty && decide (x.from_ + x.size = f) then l ++ [⟨x.from_, x.size + s, x.text⟩] else l ++ [x] ++ [⟨f, s, []⟩] := by
  unfold addCopy
  simp
def copyL (es : List EditD) (acc : List UInt8) (f s : Int) : List EditD := addCopy (flushL es acc) f s

structure EditD.Small (e : EditD) : Prop where
  f0 : 0 ≤ e.from_
  f1 : e.from_ ≤ 1099511627776
  s0 : 0 ≤ e.size
  s1 : e.size ≤ 1099511627776

theorem flushL_small {es : List EditD} {acc : List UInt8} (h : ∀ e ∈ es, e.Small) : ∀ e ∈ flushL es acc, e.Small := by
  unfold flushL
  split
  · exact h
  · intro e he
    rcases List.mem_append.1 he with he | he
    · exact h e he
    · simp at he
      subst he
      exact ⟨Int.le_refl _, by show (0 : Int) ≤ _; decide, Int.le_refl _, by show (0 : Int) ≤ _; decide⟩
theorem flushL_length (es : List EditD) (acc : List UInt8) : (flushL es acc).length ≤ es.length + 1 := by
  unfold flushL
  split
  · omega
  · simp

section
variable {B b : Nat} {l : List EditD} {x : EditD} {acc : List UInt8} {w w1 w2 : World} {cs : Array Value} {g c : Nat}
/-- The cells of the last edit. -/
theorem last_cells (h : w.ownsRow B 56 3 (.slice (some ⟨g, 0, none⟩) (l ++ [x]).length c) (l ++ [x]).length ((l ++ [x]).flatMap EditD.parts)) :
    w.cell? ⟨g, l.length * 3, none⟩ = some (.int .i64 x.from_) ∧ w.cell? ⟨g, l.length * 3 + 1, none⟩ = some (.int .i64 x.size) ∧ w.cell? ⟨g, l.length * 3 + 2, none⟩ = some (.string ⟨x.text.toArray⟩) := by
  have hl : (l ++ [x]).length = l.length + 1 := by simp
  have hx : (l ++ [x])[l.length]'(by rw [hl]; omega) = x := by simp
  have hc : ∀ j, j < 3 → w.cell? ⟨g, l.length * 3 + j, none⟩ = x.parts[j]? := fun j hj => by
    have h1 := h.cellAt (l.length * 3 + j) (by rw [hl]; omega)
    rw [h1, flat_at EditD.parts 3 EditD.parts_length (l ++ [x]) l.length j (by rw [hl]; omega) hj, hx]
  exact ⟨hc 0 (by decide), hc 1 (by decide), hc 2 (by decide)⟩
theorem last_set (s : Int) : ((l ++ [x]).flatMap EditD.parts).set (l.length * 3 + 1) (.int .i64 s) = (l ++ [(⟨x.from_, s, x.text⟩ : EditD)]).flatMap EditD.parts := by
  rw [List.flatMap_append, List.flatMap_append, List.set_append_right _ _ (by rw [flat_length EditD.parts 3 EditD.parts_length]; omega), flat_length EditD.parts 3 EditD.parts_length]
  have e : l.length * 3 + 1 - l.length * 3 = 1 := by omega
  rw [e]
  simp [EditD.parts]
theorem MK.keep {es : List EditD} {acc : List UInt8} {v : Value} (h : MK B b es acc w1 cs v) (hb : Below w1.heap.size w1 w2) : MK B b es acc w2 cs v := ⟨h.size, h.head, h.bat.keep hb (Nat.le_refl _), own_below h.own hb (Nat.le_refl _)⟩
theorem MK.app {es : List EditD} {acc : List UInt8} {v v' : Value} {e : EditD} {o : Obj} (h : MK B b es acc w1 cs v) (hbw : B ≤ w1.heap.size) (hg : (w1.alloc o).grownBy w2 v.ownBlock) (hown : w2.ownsRow B 56 3 v' (es.length + 1) (es.flatMap EditD.parts ++ e.parts)) :
    Blk w2 b 90 cs ∧ MKat B b (es ++ [e]) acc (w2.setCell ⟨b, 0, none⟩ v') ∧ Below B w1 (w2.setCell ⟨b, 0, none⟩ v') := by
  have hb0 : Blk w2 b 90 cs := (h.bat.blk.alloc o).grown hg (fun e => own_ne h.own h.bat.blk (by decide) e.symm)
  have hown' : w2.ownsRow B 56 3 v' (es ++ [e]).length ((es ++ [e]).flatMap EditD.parts) := by
    rw [List.length_append, List.flatMap_append]
    simpa using hown
  obtain ⟨u, hu, hbuf⟩ := h.bat.buf
  obtain ⟨p, hp, hp2⟩ := h.bat.ptr
  have hbuf2 : w2.ownsRow B 5 1 u (Lib.byteCells acc).length (Lib.byteCells acc) := own_kept2 (hbuf.alloc o) (h.own.alloc o) (by decide) hg
  have hbuf3 := ownsRow_setCell_other (a := ⟨b, 0, none⟩) hbuf2 (own_ne hbuf2 hb0 (by decide)) v'
  refine ⟨hb0, ⟨cs.setIfInBounds 0 v', v', by simpa using h.size, by simp [h.size], ⟨h.bat.hB, hb0.set_ 0 v', ⟨p, ?_, hp2⟩, u, ?_, hbuf3⟩, ?_⟩, ?_⟩
  · rw [Array.getElem?_setIfInBounds_ne (by decide)]
    exact hp
  · rw [Array.getElem?_setIfInBounds_ne (by decide)]
    exact hu
  · exact ownsRow_setCell_other (a := ⟨b, 0, none⟩) hown' (own_ne hown' hb0 (by decide)) _
  · exact (((Below.refl B w1).alloc hbw o).grown hg (by simp; omega) (fun x hx => (h.own.lt x hx).1)).setCell (p := ⟨b, 0, none⟩) h.bat.hB _
/-- The last edit's size turns. -/
theorem MK.size_ (s : Int) (h : MK B b (l ++ [x]) acc w cs (.slice (some ⟨g, 0, none⟩) (l ++ [x]).length c)) :
    MKat B b (l ++ [⟨x.from_, s, x.text⟩]) acc (w.setCell ⟨g, l.length * 3 + 1, none⟩ (.int .i64 s)) ∧ Below B w (w.setCell ⟨g, l.length * 3 + 1, none⟩ (.int .i64 s)) := by
  have hst := (h.own.stored (l.length * 3 + 1) (.int .i64 s)).1
  have hgr := (h.own.stored (l.length * 3 + 1) (.int .i64 s)).2
  rw [last_set] at hst
  have hB := (h.own.lt g rfl).1
  have hgb : g ≠ b := fun e => own_ne h.own h.bat.blk (by decide) (by rw [e]; rfl)
  obtain ⟨u, hu, hbuf⟩ := h.bat.buf
  refine ⟨⟨cs, _, h.size, h.head, ⟨h.bat.hB, h.bat.blk.far (p := ⟨g, l.length * 3 + 1, none⟩) (fun e => hgb e.symm) _, h.bat.ptr, u, hu, own_kept2 hbuf h.own (by decide) hgr⟩, ?_⟩, (Below.refl B w).setCell (p := ⟨g, l.length * 3 + 1, none⟩) hB _⟩
  simpa using hst
end

set_option maxHeartbeats 4000000 in
set_option maxRecDepth 100000 in
theorem copy_nil {B b : Nat} {w : World} (f s : Int) 
    (HFL : Hid (Calls Tryd.prog 39 #[.pointer (some ⟨b, 0, none⟩)] w fun e w' => e = .returned (.tuple #[]) ∧ MKat B b (([] : List EditD)) [] w' ∧ Below B w w')) (hBw : B ≤ w.heap.size)
    (_hf0 : 0 ≤ f) (_hf1 : f ≤ 1099511627776) (_hs0 : 0 ≤ s) (_hs1 : s ≤ 1099511627776)  :
    Calls Tryd.prog 49 #[.pointer (some ⟨b, 0, none⟩), .int .i64 f, .int .i64 s] w fun e w' => e = .returned (.tuple #[]) ∧ MKat B b ([(⟨f, s, []⟩ : EditD)]) [] w' ∧ Below B w w' := by
  obtain ⟨i0, hi, hz0, hz1, hz2⟩ := info_parts editInfo
  go_enter Tryd.func49, Tryd.ntmps49
  go_wp2_with fail
  refine (HFL.out).mono ?_
  rintro r w0 ⟨rfl, hm1, hb1⟩
  have HMK := Lib.hid hm1
  have HB0 := Lib.hid hb1
  obtain ⟨cs, v, hm⟩ := hm1
  obtain ⟨A, c, rfl⟩ := own_shape hm.own
  have c0 : w0.cell? ⟨b, 0, none⟩ = some (.slice A ([] : List EditD).length c) := (hm.bat.blk.cell 0).trans hm.head
  rw [List.length_nil] at c0
  clear hm hb1
  go_wp2_with fail
  go_quiet (fail)
  rename_i nq
  have HB1 : Hid (Below B w (w0.drewN nq)) := below_drewN HB0.out nq
  have hm1 := HMK.out.drewN nq
  generalize w0.drewN nq = w1 at HB1 hm1 ⊢
  clear c0
  obtain ⟨cs1, v1, hm⟩ := hm1
  have HM := Lib.hid hm
  obtain ⟨A1, c1, rfl⟩ := own_shape hm.own
  have c0 : w1.cell? ⟨b, 0, none⟩ = some (.slice A1 ([] : List EditD).length c1) := (hm.bat.blk.cell 0).trans hm.head
  rw [List.length_nil] at c0
  clear hm

  have QC : Hid (0 + 1 ≤ maxLen) := by show _ ≤ _; unfold maxLen; omega
  have QD : Hid ((0 + 1) * 32 ≤ 140737488355328) := by show _ ≤ _; omega
  have QB := Lib.hid (edit_one ⟨f, s, []⟩)
  have QE : Hid (B ≤ (w1.alloc (.cells #[.int .i64 f, .int .i64 s, .string ⟨#[]⟩] 56)).heap.size) := Lib.hid (Nat.le_trans (Nat.le_trans hBw HB1.out.size) (by simp))
  have QN : Hid (∀ (j : Nat) (v : Value), [Value.int .i64 f, .int .i64 s, .string ⟨#[]⟩][j]? = some v → (w1.alloc (.cells #[.int .i64 f, .int .i64 s, .string ⟨#[]⟩] 56)).cell? ((⟨w1.heap.size, 0, none⟩ : Addr).add j) = some v) := World.news_of_block (heap_alloc_new w1 _)
  have hown := HM.out.own.alloc (.cells #[.int .i64 f, .int .i64 s, .string ⟨#[]⟩] 56)
  rw [List.length_nil] at hown
  go_wp2_with (at_builtin; refine wpList_append_own _ rfl _ _ 22 rfl B 56 i0 (.agg #[.int .i64 0, .int .i64 0, .string ByteArray.empty]) 3 32 Tryd.underlying22 hi hz0 hz1 hz2 rfl (by decide) _ _ _ rfl hown ⟨w1.heap.size, 0, none⟩ 1 1 [.int .i64 f, .int .i64 s, .string ⟨#[]⟩] rfl rfl QN.out QB.out QC.out QD.out QE.out ?_)
  intro v' w5 hown' hgrow _
  obtain ⟨A5, c5, rfl⟩ := own_shape hown'
  have hap := HM.out.app (e := ⟨f, s, []⟩) (Nat.le_trans hBw HB1.out.size) hgrow (by first | exact hown' | simpa using hown')
  have HB5 := Lib.hid hap.1
  have HP5 := Lib.hid hap.2
  have f5 := HB5.out.frozen 0
  have c5' := (HB5.out.cell 0).trans HM.out.head
  clear hown hown' hgrow hap
  go_wp2
  go_end0
  exact ⟨rfl, by first | exact HP5.out.1 | simpa using HP5.out.1, HB1.out.trans HP5.out.2⟩

set_option maxHeartbeats 4000000 in
set_option maxRecDepth 100000 in
theorem copy_eq {B b : Nat} {w : World} (f s : Int) (l : List EditD) (xf xs : Int)
    (HFL : Hid (Calls Tryd.prog 39 #[.pointer (some ⟨b, 0, none⟩)] w fun e w' => e = .returned (.tuple #[]) ∧ MKat B b (l ++ [(⟨xf, xs, []⟩ : EditD)]) [] w' ∧ Below B w w')) (hBw : B ≤ w.heap.size)
    (_hf0 : 0 ≤ f) (_hf1 : f ≤ 1099511627776) (_hs0 : 0 ≤ s) (_hs1 : s ≤ 1099511627776) (_hxf0 : 0 ≤ xf) (_hxf1 : xf ≤ 1099511627776) (_hxs0 : 0 ≤ xs) (_hxs1 : xs ≤ 1099511627776) (hel2 : l.length ≤ 1000000000) (hsb : (xf + xs == f) = true) :
    Calls Tryd.prog 49 #[.pointer (some ⟨b, 0, none⟩), .int .i64 f, .int .i64 s] w fun e w' => e = .returned (.tuple #[]) ∧ MKat B b (l ++ [(⟨xf, xs + s, []⟩ : EditD)]) [] w' ∧ Below B w w' := by
  obtain ⟨i0, hi, hz0, hz1, hz2⟩ := info_parts editInfo
  go_enter Tryd.func49, Tryd.ntmps49
  go_wp2_with fail
  refine (HFL.out).mono ?_
  rintro r w1 ⟨rfl, hm1, hb1⟩
  have HB0 := Lib.hid hb1
  obtain ⟨cs, v, hm⟩ := hm1
  obtain ⟨g, c, rfl, _, _⟩ := hm.own.form (by simp)
  have c0 : w1.cell? ⟨b, 0, none⟩ = some (.slice (some ⟨g, 0, none⟩) (l ++ [(⟨xf, xs, []⟩ : EditD)]).length c) := (hm.bat.blk.cell 0).trans hm.head
  obtain ⟨d0, d1, d2⟩ := last_cells hm.own
  have HM0 := Lib.hid hm
  obtain ⟨n, hll⟩ : ∃ n, n = (l ++ [(⟨xf, xs, []⟩ : EditD)]).length := ⟨_, rfl⟩
  have hln : n = l.length + 1 := by rw [hll]; simp
  rw [← hll] at c0
  have HLL := Lib.hid hll
  clear hm hb1 HFL hll
  have hk0 : (0 : Int) ≤ (l.length : Int) := by omega
  have hkn : (l.length : Int) < (n : Int) := by omega
  have hk1 : (n : Int) - 1 = (l.length : Int) := by omega
  have hn2 : (n : Int) ≤ 1000000001 := by omega
  have hn1 : n ≤ 1000000001 := by omega
  clear hln
  simp only at d0 d1 d2
  have HC := Lib.hid (copied_any ⟨xf, xs, []⟩)
  have hcb : copiedB ⟨xf, xs, []⟩ = true := rfl
  rw [hcb] at HC
  clear hcb
  simp only [EditD.parts] at HC

  have HS : Hid (∀ w', Below w1.heap.size w1 w' → w'.cell? ⟨b, 0, none⟩ = some (.slice (some ⟨g, 0, none⟩) n c) ∧ w'.cell? ⟨g, l.length * 3, none⟩ = some (.int .i64 xf) ∧ w'.cell? ⟨g, l.length * 3 + 1, none⟩ = some (.int .i64 xs) ∧ w'.cell? ⟨g, l.length * 3 + 2, none⟩ = some (.string ⟨#[]⟩)) := fun w' hb => ⟨(hb.cell (p := ⟨b, 0, none⟩) HM0.out.bat.blk.lt).trans c0, (hb.cell (p := ⟨g, l.length * 3, none⟩) (cell_lt d0)).trans d0, (hb.cell (p := ⟨g, l.length * 3 + 1, none⟩) (cell_lt d1)).trans d1, (hb.cell (p := ⟨g, l.length * 3 + 2, none⟩) (cell_lt d2)).trans d2⟩
  go_wp2_with fail
  have HBd : Hid (Below w1.heap.size w1 w1.drew) := (Below.refl _ _).drew
  have hwr : IntKind.i64.wrap (xf + xs) = xf + xs := IntWalk.i64_in _ (by omega)
  go_region_held3 (fun w' => w'.cell? ⟨b, 0, none⟩ = some (.slice (some ⟨g, 0, none⟩) n c) ∧ w'.cell? ⟨g, l.length * 3, none⟩ = some (.int .i64 xf) ∧ w'.cell? ⟨g, l.length * 3 + 1, none⟩ = some (.int .i64 xs) ∧ w'.cell? ⟨g, l.length * 3 + 2, none⟩ = some (.string ⟨#[]⟩))
    (first | exact HS.out _ HB2.out | exact HS.out _ HBd.out)
    (first
      | (go_at_call 36; refine Calls.mono (HC.out _) ?_; rintro e w2 ⟨rfl, hb2⟩; have HB2 := Lib.hid (HBd.out.trans hb2); clear hb2))
  clear hwr

  have HM := Lib.hid (HM0.out.keep HB2.out)
  have HB1 := Lib.hid (HB0.out.trans (HB2.out.mono (Nat.le_trans hBw HB0.out.size)))
  clear c0 d0 d1 d2 HC
  have c0 : w2.cell? ⟨b, 0, none⟩ = some (.slice (some ⟨g, 0, none⟩) (l ++ [(⟨xf, xs, []⟩ : EditD)]).length c) := (HM.out.bat.blk.cell 0).trans HM.out.head
  rw [← HLL.out] at c0

  obtain ⟨d0, d1, d2⟩ := last_cells HM.out.own
  simp only at d0 d1 d2
  have f1 := HM.out.own.frozenAt (l.length * 3 + 1)
  have HP5 := Lib.hid (HM.out.size_ (xs + s))
  go_wp2
  exact bodyPost_ret (v := .tuple #[]) (by simp [results, Tryd.results49, go_sem]) rfl ⟨rfl, HP5.out.1, HB1.out.trans HP5.out.2⟩

set_option maxHeartbeats 4000000 in
set_option maxRecDepth 100000 in
theorem copy_ne {B b : Nat} {w : World} (f s : Int) (l : List EditD) (xf xs : Int)
    (HFL : Hid (Calls Tryd.prog 39 #[.pointer (some ⟨b, 0, none⟩)] w fun e w' => e = .returned (.tuple #[]) ∧ MKat B b (l ++ [(⟨xf, xs, []⟩ : EditD)]) [] w' ∧ Below B w w')) (hBw : B ≤ w.heap.size)
    (_hf0 : 0 ≤ f) (_hf1 : f ≤ 1099511627776) (_hs0 : 0 ≤ s) (_hs1 : s ≤ 1099511627776) (_hxf0 : 0 ≤ xf) (_hxf1 : xf ≤ 1099511627776) (_hxs0 : 0 ≤ xs) (_hxs1 : xs ≤ 1099511627776) (hel2 : l.length ≤ 1000000000) (hsb : (xf + xs == f) = false) :
    Calls Tryd.prog 49 #[.pointer (some ⟨b, 0, none⟩), .int .i64 f, .int .i64 s] w fun e w' => e = .returned (.tuple #[]) ∧ MKat B b (l ++ [(⟨xf, xs, []⟩ : EditD)] ++ [(⟨f, s, []⟩ : EditD)]) [] w' ∧ Below B w w' := by
  obtain ⟨i0, hi, hz0, hz1, hz2⟩ := info_parts editInfo
  go_enter Tryd.func49, Tryd.ntmps49
  go_wp2_with fail
  refine (HFL.out).mono ?_
  rintro r w1 ⟨rfl, hm1, hb1⟩
  have HB0 := Lib.hid hb1
  obtain ⟨cs, v, hm⟩ := hm1
  obtain ⟨g, c, rfl, _, _⟩ := hm.own.form (by simp)
  have c0 : w1.cell? ⟨b, 0, none⟩ = some (.slice (some ⟨g, 0, none⟩) (l ++ [(⟨xf, xs, []⟩ : EditD)]).length c) := (hm.bat.blk.cell 0).trans hm.head
  obtain ⟨d0, d1, d2⟩ := last_cells hm.own
  have HM0 := Lib.hid hm
  obtain ⟨n, hll⟩ : ∃ n, n = (l ++ [(⟨xf, xs, []⟩ : EditD)]).length := ⟨_, rfl⟩
  have hln : n = l.length + 1 := by rw [hll]; simp
  rw [← hll] at c0
  have HLL := Lib.hid hll
  clear hm hb1 HFL hll
  have hk0 : (0 : Int) ≤ (l.length : Int) := by omega
  have hkn : (l.length : Int) < (n : Int) := by omega
  have hk1 : (n : Int) - 1 = (l.length : Int) := by omega
  have hn2 : (n : Int) ≤ 1000000001 := by omega
  have hn1 : n ≤ 1000000001 := by omega
  clear hln
  simp only at d0 d1 d2
  have HC := Lib.hid (copied_any ⟨xf, xs, []⟩)
  have hcb : copiedB ⟨xf, xs, []⟩ = true := rfl
  rw [hcb] at HC
  clear hcb
  simp only [EditD.parts] at HC

  have HS : Hid (∀ w', Below w1.heap.size w1 w' → w'.cell? ⟨b, 0, none⟩ = some (.slice (some ⟨g, 0, none⟩) n c) ∧ w'.cell? ⟨g, l.length * 3, none⟩ = some (.int .i64 xf) ∧ w'.cell? ⟨g, l.length * 3 + 1, none⟩ = some (.int .i64 xs) ∧ w'.cell? ⟨g, l.length * 3 + 2, none⟩ = some (.string ⟨#[]⟩)) := fun w' hb => ⟨(hb.cell (p := ⟨b, 0, none⟩) HM0.out.bat.blk.lt).trans c0, (hb.cell (p := ⟨g, l.length * 3, none⟩) (cell_lt d0)).trans d0, (hb.cell (p := ⟨g, l.length * 3 + 1, none⟩) (cell_lt d1)).trans d1, (hb.cell (p := ⟨g, l.length * 3 + 2, none⟩) (cell_lt d2)).trans d2⟩
  go_wp2_with fail
  have HBd : Hid (Below w1.heap.size w1 w1.drew) := (Below.refl _ _).drew
  have hwr : IntKind.i64.wrap (xf + xs) = xf + xs := IntWalk.i64_in _ (by omega)
  go_region_held3 (fun w' => w'.cell? ⟨b, 0, none⟩ = some (.slice (some ⟨g, 0, none⟩) n c) ∧ w'.cell? ⟨g, l.length * 3, none⟩ = some (.int .i64 xf) ∧ w'.cell? ⟨g, l.length * 3 + 1, none⟩ = some (.int .i64 xs) ∧ w'.cell? ⟨g, l.length * 3 + 2, none⟩ = some (.string ⟨#[]⟩))
    (first | exact HS.out _ HB2.out | exact HS.out _ HBd.out)
    (first
      | (go_at_call 36; refine Calls.mono (HC.out _) ?_; rintro e w2 ⟨rfl, hb2⟩; have HB2 := Lib.hid (HBd.out.trans hb2); clear hb2))
  clear hwr

  have HM := Lib.hid (HM0.out.keep HB2.out)
  have HB1 := Lib.hid (HB0.out.trans (HB2.out.mono (Nat.le_trans hBw HB0.out.size)))
  clear c0 d0 d1 d2 HC
  have c0 : w2.cell? ⟨b, 0, none⟩ = some (.slice (some ⟨g, 0, none⟩) (l ++ [(⟨xf, xs, []⟩ : EditD)]).length c) := (HM.out.bat.blk.cell 0).trans HM.out.head
  rw [← HLL.out] at c0

  have QC : Hid (n + 1 ≤ maxLen) := by show _ ≤ _; unfold maxLen; omega
  have QD : Hid ((n + 1) * 32 ≤ 140737488355328) := by show _ ≤ _; omega
  have QB := Lib.hid (edit_one ⟨f, s, []⟩)
  have QE : Hid (B ≤ (w2.alloc (.cells #[.int .i64 f, .int .i64 s, .string ⟨#[]⟩] 56)).heap.size) := Lib.hid (Nat.le_trans (Nat.le_trans hBw HB1.out.size) (by simp))
  have QN : Hid (∀ (j : Nat) (v : Value), [Value.int .i64 f, .int .i64 s, .string ⟨#[]⟩][j]? = some v → (w2.alloc (.cells #[.int .i64 f, .int .i64 s, .string ⟨#[]⟩] 56)).cell? ((⟨w2.heap.size, 0, none⟩ : Addr).add j) = some v) := World.news_of_block (heap_alloc_new w2 _)
  have hown := HM.out.own.alloc (.cells #[.int .i64 f, .int .i64 s, .string ⟨#[]⟩] 56)
  rw [← HLL.out] at hown
  go_wp2_with (at_builtin; refine wpList_append_own _ rfl _ _ 22 rfl B 56 i0 (.agg #[.int .i64 0, .int .i64 0, .string ByteArray.empty]) 3 32 Tryd.underlying22 hi hz0 hz1 hz2 rfl (by decide) _ _ _ rfl hown ⟨w2.heap.size, 0, none⟩ 1 1 [.int .i64 f, .int .i64 s, .string ⟨#[]⟩] rfl rfl QN.out QB.out QC.out QD.out QE.out ?_)
  intro v' w5 hown' hgrow _
  obtain ⟨A5, c5, rfl⟩ := own_shape hown'
  have hap := HM.out.app (e := ⟨f, s, []⟩) (Nat.le_trans hBw HB1.out.size) hgrow (by rw [← HLL.out]; first | exact hown' | simpa [List.flatMap_append, EditD.parts] using hown')
  have HB5 := Lib.hid hap.1
  have HP5 := Lib.hid hap.2
  have f5 := HB5.out.frozen 0
  have c5' := (HB5.out.cell 0).trans HM.out.head
  clear hown hown' hgrow hap
  go_wp2
  go_end0
  exact ⟨rfl, by first | exact HP5.out.1 | simpa using HP5.out.1, HB1.out.trans HP5.out.2⟩

set_option maxHeartbeats 4000000 in
set_option maxRecDepth 100000 in
theorem copy_txt {B b : Nat} {w : World} (f s : Int) (l : List EditD) (xf xs : Int) (y : UInt8) (yt : List UInt8)
    (HFL : Hid (Calls Tryd.prog 39 #[.pointer (some ⟨b, 0, none⟩)] w fun e w' => e = .returned (.tuple #[]) ∧ MKat B b (l ++ [(⟨xf, xs, (y :: yt)⟩ : EditD)]) [] w' ∧ Below B w w')) (hBw : B ≤ w.heap.size)
    (_hf0 : 0 ≤ f) (_hf1 : f ≤ 1099511627776) (_hs0 : 0 ≤ s) (_hs1 : s ≤ 1099511627776) (_hxf0 : 0 ≤ xf) (_hxf1 : xf ≤ 1099511627776) (_hxs0 : 0 ≤ xs) (_hxs1 : xs ≤ 1099511627776) (hel2 : l.length ≤ 1000000000) :
    Calls Tryd.prog 49 #[.pointer (some ⟨b, 0, none⟩), .int .i64 f, .int .i64 s] w fun e w' => e = .returned (.tuple #[]) ∧ MKat B b (l ++ [(⟨xf, xs, (y :: yt)⟩ : EditD)] ++ [(⟨f, s, []⟩ : EditD)]) [] w' ∧ Below B w w' := by
  obtain ⟨i0, hi, hz0, hz1, hz2⟩ := info_parts editInfo
  go_enter Tryd.func49, Tryd.ntmps49
  go_wp2_with fail
  refine (HFL.out).mono ?_
  rintro r w1 ⟨rfl, hm1, hb1⟩
  have HB0 := Lib.hid hb1
  obtain ⟨cs, v, hm⟩ := hm1
  obtain ⟨g, c, rfl, _, _⟩ := hm.own.form (by simp)
  have c0 : w1.cell? ⟨b, 0, none⟩ = some (.slice (some ⟨g, 0, none⟩) (l ++ [(⟨xf, xs, (y :: yt)⟩ : EditD)]).length c) := (hm.bat.blk.cell 0).trans hm.head
  obtain ⟨d0, d1, d2⟩ := last_cells hm.own
  have HM0 := Lib.hid hm
  obtain ⟨n, hll⟩ : ∃ n, n = (l ++ [(⟨xf, xs, (y :: yt)⟩ : EditD)]).length := ⟨_, rfl⟩
  have hln : n = l.length + 1 := by rw [hll]; simp
  rw [← hll] at c0
  have HLL := Lib.hid hll
  clear hm hb1 HFL hll
  have hk0 : (0 : Int) ≤ (l.length : Int) := by omega
  have hkn : (l.length : Int) < (n : Int) := by omega
  have hk1 : (n : Int) - 1 = (l.length : Int) := by omega
  have hn2 : (n : Int) ≤ 1000000001 := by omega
  have hn1 : n ≤ 1000000001 := by omega
  clear hln
  simp only at d0 d1 d2
  have HC := Lib.hid (copied_any ⟨xf, xs, (y :: yt)⟩)
  have hcb : copiedB ⟨xf, xs, (y :: yt)⟩ = false := rfl
  rw [hcb] at HC
  clear hcb
  simp only [EditD.parts] at HC

  go_wp2_with fail
  have HBd : Hid (Below w1.heap.size w1 w1.drew) := (Below.refl _ _).drew
  first | go_region_with ((go_at_call 36; refine Calls.mono (HC.out _) ?_; rintro e w2 ⟨rfl, hb2⟩; have HB2 := Lib.hid (HBd.out.trans hb2); clear hb2; rename_i K0 hK0; refine hK0 _ _ ?_; clear hK0 K0; refine wpAny_take (i := 11) (v := .bool false) rfl (by kernel_rfl) (by kernel_rfl) (by kernel_rfl) (fun _ _ _ h => h) (Or.inl ⟨by rfl, by intro w; go_simp⟩) ?_; simp only [List.getElem_toArray, List.getElem_cons_succ, List.getElem_cons_zero, Act.put, List.setIfInBounds_toArray, List.set_cons_zero, List.set_cons_succ]; refine wpAny_take (i := 12) (v := .bool false) rfl (by kernel_rfl) (by kernel_rfl) (by kernel_rfl) (fun _ _ _ h => h) (Or.inl ⟨by rfl, by intro w; go_simp⟩) ?_; simp only [List.getElem_toArray, List.getElem_cons_succ, List.getElem_cons_zero, Act.put, List.setIfInBounds_toArray, List.set_cons_zero, List.set_cons_succ]; refine wpAny_take (i := 13) (v := undef) rfl (by kernel_rfl) (by kernel_rfl) (by kernel_rfl) (fun _ _ _ h => h) (Or.inr ⟨by kernel_rfl, rfl⟩) ?_; simp only [List.getElem_toArray, List.getElem_cons_succ, List.getElem_cons_zero, Act.put, List.setIfInBounds_toArray, List.set_cons_zero, List.set_cons_succ]; refine wpAny_take (i := 14) (v := undef) rfl (by kernel_rfl) (by kernel_rfl) (by kernel_rfl) (fun _ _ _ h => h) (Or.inr ⟨by kernel_rfl, rfl⟩) ?_; simp only [List.getElem_toArray, List.getElem_cons_succ, List.getElem_cons_zero, Act.put, List.setIfInBounds_toArray, List.set_cons_zero, List.set_cons_succ]; refine wpAny_take (i := 15) (v := undef) rfl (by kernel_rfl) (by kernel_rfl) (by kernel_rfl) (fun _ _ _ h => h) (Or.inr ⟨by kernel_rfl, rfl⟩) ?_; simp only [List.getElem_toArray, List.getElem_cons_succ, List.getElem_cons_zero, Act.put, List.setIfInBounds_toArray, List.set_cons_zero, List.set_cons_succ]; refine wpAny_take (i := 16) (v := undef) rfl (by kernel_rfl) (by kernel_rfl) (by kernel_rfl) (fun _ _ _ h => h) (Or.inr ⟨by kernel_rfl, rfl⟩) ?_; simp only [List.getElem_toArray, List.getElem_cons_succ, List.getElem_cons_zero, Act.put, List.setIfInBounds_toArray, List.set_cons_zero, List.set_cons_succ]; refine wpAny_take (i := 17) (v := undef) rfl (by kernel_rfl) (by kernel_rfl) (by kernel_rfl) (fun _ _ _ h => h) (Or.inr ⟨by kernel_rfl, rfl⟩) ?_; simp only [List.getElem_toArray, List.getElem_cons_succ, List.getElem_cons_zero, Act.put, List.setIfInBounds_toArray, List.set_cons_zero, List.set_cons_succ]; refine wpAny_take (i := 18) (v := undef) rfl (by kernel_rfl) (by kernel_rfl) (by kernel_rfl) (fun _ _ _ h => h) (Or.inr ⟨by kernel_rfl, rfl⟩) ?_; simp only [List.getElem_toArray, List.getElem_cons_succ, List.getElem_cons_zero, Act.put, List.setIfInBounds_toArray, List.set_cons_zero, List.set_cons_succ]; refine wpAny_take (i := 19) (v := undef) rfl (by kernel_rfl) (by kernel_rfl) (by kernel_rfl) (fun _ _ _ h => h) (Or.inr ⟨by kernel_rfl, rfl⟩) ?_; simp only [List.getElem_toArray, List.getElem_cons_succ, List.getElem_cons_zero, Act.put, List.setIfInBounds_toArray, List.set_cons_zero, List.set_cons_succ]; refine wpAny_take (i := 20) (v := undef) rfl (by kernel_rfl) (by kernel_rfl) (by kernel_rfl) (fun _ _ _ h => h) (Or.inr ⟨by kernel_rfl, rfl⟩) ?_; simp only [List.getElem_toArray, List.getElem_cons_succ, List.getElem_cons_zero, Act.put, List.setIfInBounds_toArray, List.set_cons_zero, List.set_cons_succ]; refine wpAny_take (i := 21) (v := undef) rfl (by kernel_rfl) (by kernel_rfl) (by kernel_rfl) (fun _ _ _ h => h) (Or.inr ⟨by kernel_rfl, rfl⟩) ?_; simp only [List.getElem_toArray, List.getElem_cons_succ, List.getElem_cons_zero, Act.put, List.setIfInBounds_toArray, List.set_cons_zero, List.set_cons_succ]; refine wpAny_take (i := 22) (v := undef) rfl (by kernel_rfl) (by kernel_rfl) (by kernel_rfl) (fun _ _ _ h => h) (Or.inr ⟨by kernel_rfl, rfl⟩) ?_; simp only [List.getElem_toArray, List.getElem_cons_succ, List.getElem_cons_zero, Act.put, List.setIfInBounds_toArray, List.set_cons_zero, List.set_cons_succ]; refine wpAny_take (i := 23) (v := undef) rfl (by kernel_rfl) (by kernel_rfl) (by kernel_rfl) (fun _ _ _ h => h) (Or.inr ⟨by kernel_rfl, rfl⟩) ?_; simp only [List.getElem_toArray, List.getElem_cons_succ, List.getElem_cons_zero, Act.put, List.setIfInBounds_toArray, List.set_cons_zero, List.set_cons_succ]; refine wpAny_take (i := 24) (v := undef) rfl (by kernel_rfl) (by kernel_rfl) (by kernel_rfl) (fun _ _ _ h => h) (Or.inr ⟨by kernel_rfl, rfl⟩) ?_; simp only [List.getElem_toArray, List.getElem_cons_succ, List.getElem_cons_zero, Act.put, List.setIfInBounds_toArray, List.set_cons_zero, List.set_cons_succ]; refine wpAny_take (i := 25) (v := undef) rfl (by kernel_rfl) (by kernel_rfl) (by kernel_rfl) (fun _ _ _ h => h) (Or.inr ⟨by kernel_rfl, rfl⟩) ?_; simp only [List.getElem_toArray, List.getElem_cons_succ, List.getElem_cons_zero, Act.put, List.setIfInBounds_toArray, List.set_cons_zero, List.set_cons_succ]; refine wpAny_take (i := 26) (v := undef) rfl (by kernel_rfl) (by kernel_rfl) (by kernel_rfl) (fun _ _ _ h => h) (Or.inr ⟨by kernel_rfl, rfl⟩) ?_; simp only [List.getElem_toArray, List.getElem_cons_succ, List.getElem_cons_zero, Act.put, List.setIfInBounds_toArray, List.set_cons_zero, List.set_cons_succ]; refine wpAny_take (i := 27) (v := undef) rfl (by kernel_rfl) (by kernel_rfl) (by kernel_rfl) (fun _ _ _ h => h) (Or.inr ⟨by kernel_rfl, rfl⟩) ?_; simp only [List.getElem_toArray, List.getElem_cons_succ, List.getElem_cons_zero, Act.put, List.setIfInBounds_toArray, List.set_cons_zero, List.set_cons_succ]; refine wpAny_take (i := 28) (v := undef) rfl (by kernel_rfl) (by kernel_rfl) (by kernel_rfl) (fun _ _ _ h => h) (Or.inr ⟨by kernel_rfl, rfl⟩) ?_; simp only [List.getElem_toArray, List.getElem_cons_succ, List.getElem_cons_zero, Act.put, List.setIfInBounds_toArray, List.set_cons_zero, List.set_cons_succ]; refine wpAny_take (i := 29) (v := undef) rfl (by kernel_rfl) (by kernel_rfl) (by kernel_rfl) (fun _ _ _ h => h) (Or.inr ⟨by kernel_rfl, rfl⟩) ?_; simp only [List.getElem_toArray, List.getElem_cons_succ, List.getElem_cons_zero, Act.put, List.setIfInBounds_toArray, List.set_cons_zero, List.set_cons_succ]; refine wpAny_take (i := 30) (v := undef) rfl (by kernel_rfl) (by kernel_rfl) (by kernel_rfl) (fun _ _ _ h => h) (Or.inr ⟨by kernel_rfl, rfl⟩) ?_; simp only [List.getElem_toArray, List.getElem_cons_succ, List.getElem_cons_zero, Act.put, List.setIfInBounds_toArray, List.set_cons_zero, List.set_cons_succ]; refine wpAny_take (i := 31) (v := undef) rfl (by kernel_rfl) (by kernel_rfl) (by kernel_rfl) (fun _ _ _ h => h) (Or.inr ⟨by kernel_rfl, rfl⟩) ?_; simp only [List.getElem_toArray, List.getElem_cons_succ, List.getElem_cons_zero, Act.put, List.setIfInBounds_toArray, List.set_cons_zero, List.set_cons_succ]))
        | fail

  all_goals
    have HM := Lib.hid (HM0.out.keep HB2.out)
    have HB1 := Lib.hid (HB0.out.trans (HB2.out.mono (Nat.le_trans hBw HB0.out.size)))
    clear c0 d0 d1 d2 HC
    have c0 : w2.cell? ⟨b, 0, none⟩ = some (.slice (some ⟨g, 0, none⟩) (l ++ [(⟨xf, xs, (y :: yt)⟩ : EditD)]).length c) := (HM.out.bat.blk.cell 0).trans HM.out.head
    rw [← HLL.out] at c0

    have QC : Hid (n + 1 ≤ maxLen) := by show _ ≤ _; unfold maxLen; omega
    have QD : Hid ((n + 1) * 32 ≤ 140737488355328) := by show _ ≤ _; omega
    have QB := Lib.hid (edit_one ⟨f, s, []⟩)
    have QE : Hid (B ≤ (w2.alloc (.cells #[.int .i64 f, .int .i64 s, .string ⟨#[]⟩] 56)).heap.size) := Lib.hid (Nat.le_trans (Nat.le_trans hBw HB1.out.size) (by simp))
    have QN : Hid (∀ (j : Nat) (v : Value), [Value.int .i64 f, .int .i64 s, .string ⟨#[]⟩][j]? = some v → (w2.alloc (.cells #[.int .i64 f, .int .i64 s, .string ⟨#[]⟩] 56)).cell? ((⟨w2.heap.size, 0, none⟩ : Addr).add j) = some v) := World.news_of_block (heap_alloc_new w2 _)
    have hown := HM.out.own.alloc (.cells #[.int .i64 f, .int .i64 s, .string ⟨#[]⟩] 56)
    rw [← HLL.out] at hown
    go_wp2_with (at_builtin; refine wpList_append_own _ rfl _ _ 22 rfl B 56 i0 (.agg #[.int .i64 0, .int .i64 0, .string ByteArray.empty]) 3 32 Tryd.underlying22 hi hz0 hz1 hz2 rfl (by decide) _ _ _ rfl hown ⟨w2.heap.size, 0, none⟩ 1 1 [.int .i64 f, .int .i64 s, .string ⟨#[]⟩] rfl rfl QN.out QB.out QC.out QD.out QE.out ?_)
    intro v' w5 hown' hgrow _
    obtain ⟨A5, c5, rfl⟩ := own_shape hown'
    have hap := HM.out.app (e := ⟨f, s, []⟩) (Nat.le_trans hBw HB1.out.size) hgrow (by rw [← HLL.out]; first | exact hown' | simpa [List.flatMap_append, EditD.parts] using hown')
    have HB5 := Lib.hid hap.1
    have HP5 := Lib.hid hap.2
    have f5 := HB5.out.frozen 0
    have c5' := (HB5.out.cell 0).trans HM.out.head
    clear hown hown' hgrow hap
    go_wp2
    go_end0
    exact ⟨rfl, by first | exact HP5.out.1 | simpa using HP5.out.1, HB1.out.trans HP5.out.2⟩

set_option maxRecDepth 100000 in
theorem copy_any {B b : Nat} {es : List EditD} {acc : List UInt8} {w : World} (f s : Int) (h : MKat B b es acc w) (hBw : B ≤ w.heap.size) (hel : es.length ≤ 1000000000) (hal : acc.length ≤ 70368744177664) (hsm : ∀ e ∈ es, e.Small)
    (hf0 : 0 ≤ f) (hf1 : f ≤ 1099511627776) (hs0 : 0 ≤ s) (hs1 : s ≤ 1099511627776) :
    Calls Tryd.prog 49 #[.pointer (some ⟨b, 0, none⟩), .int .i64 f, .int .i64 s] w fun e w' => e = .returned (.tuple #[]) ∧ MKat B b (copyL es acc f s) [] w' ∧ Below B w w' := by
  have HFL := Lib.hid (flush_any h hBw (by omega) hal)
  have hfl := flushL_length es acc
  have hfs := flushL_small (acc := acc) hsm
  unfold copyL
  generalize flushL es acc = e1 at HFL hfl hfs ⊢
  rcases List.eq_nil_or_concat e1 with rfl | ⟨l, x, he⟩
  · exact copy_nil f s HFL hBw hf0 hf1 hs0 hs1
  · rw [List.concat_eq_append] at he
    subst he
    rw [addCopy_snoc]
    have hxs := hfs x (by simp)
    have hel2 : l.length ≤ 1000000000 := by simp at hfl; omega
    obtain ⟨h1, h2, h3, h4⟩ := hxs
    obtain ⟨xf, xs, xt⟩ := x
    cases xt with
    | nil =>
      by_cases hsum : xf + xs = f
      · rw [if_pos (by simp [hsum])]
        exact copy_eq f s l xf xs HFL hBw hf0 hf1 hs0 hs1 h1 h2 h3 h4 hel2 (by simp [hsum])
      · rw [if_neg (by simp [hsum])]
        exact copy_ne f s l xf xs HFL hBw hf0 hf1 hs0 hs1 h1 h2 h3 h4 hel2 (by simpa using hsum)
    | cons y yt =>
      rw [if_neg (by simp)]
      exact copy_txt f s l xf xs y yt HFL hBw hf0 hf1 hs0 hs1 h1 h2 h3 h4 hel2

end Go.Proofs.YtefgajipakjpeaaDoor
