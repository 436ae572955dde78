/-
  Contract of image.Read. Condition: the string is at most 2^20 bytes long.
-/
import Derived.Test.YtefgajipakjpeaaDoorRoundP
import Derived.BigFrame
namespace Go.Proofs.YtefgajipakjpeaaDoor
open Go.RowKit

theorem wpList_load_midG {P : Program} {ops : Array Oper} {rest : List Oper} {op : Oper} {a : Act} {w : World} {Q : Exit → Act → World → Prop} (hw : Region.wanted op (yielded ops a.tmps) = true) (ty : TypeId) (x : Operand) (ho : op.op = .load ty x)
    (b o : Nat) (hx : a.eval x = .pointer (some ⟨b, o, none⟩)) (cs : List Value) (d : TypeDesc) (hc : w.rangeAt b o cs)
    (hu : P.underlying ty = some d) (hd : d.isRow = true) (hi : (P.info? ty).map (·.size) = some cs.length)
    (h : wpList P ops Q rest (a.put op.dst (.agg cs.toArray)) w) : wpList P ops Q (op :: rest) a w :=
  wpList_step fun K hK => by rw [if_pos hw]; exact wp_load_mid ty x ho b o hx cs d hc hu hd hi (hK _ _ h)

theorem Blk.there {w : World} {g : Nat} {t : TypeId} {cs : Array Value} (h : Blk w g t cs) {n : Nat} (hn : n ≤ cs.size) : w.there g 0 n := fun j hj => by
  rw [Nat.zero_add]
  refine ⟨?_, h.frozen j⟩
  rw [h.cell j, Array.getElem?_eq_getElem (by omega)]
  rfl
theorem size_setCells (b : Nat) : ∀ (vs : List Value) (o : Nat) (w : World), (w.setCells b o vs).heap.size = w.heap.size
  | [], _, _ => rfl
  | v :: vs, o, w => by
    show ((w.setCell ⟨b, o, none⟩ v).setCells b (o + 1) vs).heap.size = _
    rw [size_setCells b vs]
    simp [World.setCell]
theorem Below.setCells {B b : Nat} {a : World} : ∀ (vs : List Value) (o : Nat) (w : World), Below B a w → B ≤ b → Below B a (w.setCells b o vs)
  | [], _, _, h, _ => h
  | v :: vs, o, w, h, hb => Below.setCells vs (o + 1) (w.setCell ⟨b, o, none⟩ v) (h.setCell (p := ⟨b, o, none⟩) hb v) hb
theorem Blk.setCells_far {g b : Nat} {t : TypeId} {cs : Array Value} : ∀ (vs : List Value) (o : Nat) (w : World), Blk w g t cs → g ≠ b → Blk (w.setCells b o vs) g t cs
  | [], _, _, h, _ => h
  | v :: vs, o, w, h, hb => Blk.setCells_far vs (o + 1) (w.setCell ⟨b, o, none⟩ v) (h.far (p := ⟨b, o, none⟩) hb v) hb
theorem own_setCells {B s n b : Nat} {e t : TypeId} {v : Value} {xs : List Value} : ∀ (vs : List Value) (o : Nat) (w : World) (cs : Array Value), w.ownsRow B e s v n xs → Blk w b t cs → t ≠ e → (w.setCells b o vs).ownsRow B e s v n xs
  | [], _, _, _, h, _, _ => h
  | u :: vs, o, w, cs, h, hb, ht => own_setCells vs (o + 1) (w.setCell ⟨b, o, none⟩ u) _ (ownsRow_setCell_other (a := ⟨b, o, none⟩) h (own_ne h hb ht) u) (hb.set_ o u) ht
theorem Blk.setCells_at {b : Nat} {t : TypeId} : ∀ (vs : List Value) (o : Nat) (w : World) (cs : Array Value), Blk w b t cs → o + vs.length ≤ cs.size →
    ∃ cs', Blk (w.setCells b o vs) b t cs' ∧ cs'.size = cs.size ∧ (∀ j, j < o → cs'[j]? = cs[j]?) ∧ ∀ j, j < vs.length → cs'[o + j]? = vs[j]?
  | [], o, w, cs, h, _ => ⟨cs, h, rfl, fun _ _ => rfl, fun j hj => by simp at hj⟩
  | v :: vs, o, w, cs, h, hl => by
    rw [List.length_cons] at hl
    obtain ⟨cs', h1, h2, h3, h4⟩ := Blk.setCells_at vs (o + 1) (w.setCell ⟨b, o, none⟩ v) _ (h.set_ o v) (by simp; omega)
    refine ⟨cs', h1, by rw [h2]; simp, fun j hj => ?_, fun j hj => ?_⟩
    · rw [h3 j (by omega), Array.getElem?_setIfInBounds_ne (by omega)]
    · cases j with
      | zero =>
        rw [Nat.add_zero, h3 o (by omega), Array.getElem?_setIfInBounds, if_pos rfl, if_pos (by omega)]
        rfl
      | succ j =>
        have := h4 j (by simpa using hj)
        rw [show o + (j + 1) = o + 1 + j by omega, this]
        simp
theorem Blk.setCells {w : World} {b : Nat} {t : TypeId} {cs : Array Value} {vs : List Value} (h : Blk w b t cs) (hl : vs.length = cs.size) : Blk (w.setCells b 0 vs) b t vs.toArray := by
  obtain ⟨cs', h1, h2, _, h4⟩ := Blk.setCells_at vs 0 w cs h (by omega)
  have e : cs' = vs.toArray := by
    apply Array.ext_getElem?
    intro j
    by_cases hj : j < vs.length
    · have := h4 j hj
      rw [Nat.zero_add] at this
      rw [this]
      simp
    · rw [Array.getElem?_eq_none (by omega), Array.getElem?_eq_none (by simp; omega)]
  rw [← e]
  exact h1

def ImageD.nil : ImageD := ⟨[], false, 0, 0, 0, [], [], 0, SlD.nil, SlD.nil, SlD.nil, SlD.nil, SlD.nil, SlD.nil, SlD.nil, SlD.nil, 0, SlD.nil, SlD.nil, SlD.nil, SlD.nil, SlD.nil, SlD.nil, SlD.nil, SlD.nil, SlD.nil⟩
theorem ImageD.nil_in (w : World) (B : Nat) : ImageD.nil.In w B := by
  refine ⟨?_, ?_, ?_, ?_, ?_, ?_, ?_, ?_, ?_, ?_, ?_, ?_, ?_, ?_, ?_, ?_, ?_, ?_, ?_⟩
  all_goals first | exact SlD.In.nil_ _ _ | (intro y hy; cases hy)
theorem I64.zero : I64 0 := by unfold I64; decide
theorem ImageD.nil_ok : ImageD.nil.Ok := by
  refine ⟨?_, ?_, ?_, ?_, ?_, ?_, ?_, ?_, ?_, ?_, ?_, ?_, ?_, ?_, ?_, ?_, ?_, ?_, ?_, ?_, ?_, ?_, ?_, ?_, ?_⟩
  all_goals first | exact I64.zero | (intro y hy; cases hy) | (show ([] : List UInt8).length ≤ maxLen; simp)

theorem all_one {l : List Value} (h : ∀ v ∈ l, v.oneCell' = true) : l.toArray.all (·.oneCell') = true := by
  rw [Array.all_eq_true_iff_forall_mem]
  intro v hv
  exact h v (by simpa using hv)
theorem ImageD.one (x : ImageD) : ∀ v ∈ x.parts, v.oneCell' = true := by
  intro v hv
  simp only [ImageD.parts, List.mem_cons, List.not_mem_nil, or_false] at hv
  rcases hv with rfl | rfl | rfl | rfl | rfl | rfl | rfl | rfl | rfl | rfl | rfl | rfl | rfl | rfl | rfl | rfl | rfl | rfl | rfl | rfl | rfl | rfl | rfl | rfl | rfl | rfl <;> rfl
theorem SlD.In.of_row {α : Type} {s : SlD α} {size : Nat} {parts : α → List Value} {w : World} {B : Nat} {e : TypeId} (h : w.ownsRow B e size (.slice s.A s.xs.length s.c) s.xs.length (s.xs.flatMap parts)) : s.In size parts w w.heap.size := by
  refine ⟨Reads.of_own h, ?_⟩
  rcases h.2 with ⟨_, hn⟩ | ⟨g, cap, cur, _, _, _, hnc, hcm, _⟩
  · omega
  · omega
theorem ImageD.Rows.in_ {x : ImageD} {w : World} (h : x.Rows w) : x.In w w.heap.size :=
  ⟨.of_row h.i8, .of_row h.i9, .of_row h.i10, .of_row h.i11, .of_row h.i12, .of_row h.i13, .of_row h.i14, .of_row h.i15, .of_row h.i17, .of_row h.i18, .of_row h.i19, .of_row h.i20, .of_row h.i21, .of_row h.i22, .of_row h.i23, .of_row h.i24, .of_row h.i25,
    fun y hy => .of_row (h.n18 y hy), fun y hy => .of_row (h.n25 y hy)⟩
/-- The rows stand while other blocks turn. -/
theorem ImageD.Rows.map {x : ImageD} {w w' : World} (h : x.Rows w) (hk : ∀ (e : TypeId) (s n : Nat) (v : Value) (xs : List Value), e ≠ 50 → w.ownsRow 0 e s v n xs → w'.ownsRow 0 e s v n xs) : x.Rows w' :=
  ⟨hk _ _ _ _ _ (by decide) h.i8, hk _ _ _ _ _ (by decide) h.i9, hk _ _ _ _ _ (by decide) h.i10, hk _ _ _ _ _ (by decide) h.i11, hk _ _ _ _ _ (by decide) h.i12, hk _ _ _ _ _ (by decide) h.i13, hk _ _ _ _ _ (by decide) h.i14, hk _ _ _ _ _ (by decide) h.i15, hk _ _ _ _ _ (by decide) h.i17, hk _ _ _ _ _ (by decide) h.i18, hk _ _ _ _ _ (by decide) h.i19, hk _ _ _ _ _ (by decide) h.i20, hk _ _ _ _ _ (by decide) h.i21, hk _ _ _ _ _ (by decide) h.i22, hk _ _ _ _ _ (by decide) h.i23, hk _ _ _ _ _ (by decide) h.i24, hk _ _ _ _ _ (by decide) h.i25,
    fun y hy => hk _ _ _ _ _ (by decide) (h.n18 y hy), fun y hy => hk _ _ _ _ _ (by decide) (h.n25 y hy)⟩

/-- What image.Read reads, and whether it accepts it. -/
def readDone (l : List UInt8) : Bool := !(rImage ⟨l, false⟩).2.bad && (rImage ⟨l, false⟩).2.rest.isEmpty
def readOk (l : List UInt8) : Bool := readDone l && (wImageP (rImage ⟨l, false⟩).1 == l)
def ImgReadPost (l : List UInt8) (w : World) (r : Ending) (w' : World) : Prop :=
  ∃ x : ImageD, r = .returned (.tuple #[.agg x.parts.toArray, .bool (readOk l)]) ∧ (readOk l = true → x.pl = (rImage ⟨l, false⟩).1 ∧ x.Rows w') ∧ x.In w' w'.heap.size ∧ x.Ok ∧ Below w.heap.size w w'

set_option maxHeartbeats 8000000 in
set_option maxRecDepth 100000 in
/-- Read of an image. -/
theorem ImgRead_any (l : List UInt8) (w : World) (hl : l.length ≤ 1048576) : Calls Tryd.prog 37 #[str l] w (ImgReadPost l w) := by
  have HOP := Lib.hid (Open_any l)
  have HN0 : Hid (Blk ((w.alloc (.cells #[.string ⟨#[]⟩, .bool false, .int .i64 0, .int .i64 0, .int .i64 0, .string ⟨#[]⟩, .string ⟨#[]⟩, .int .i64 0, .slice none 0 0, .slice none 0 0, .slice none 0 0, .slice none 0 0, .slice none 0 0, .slice none 0 0, .slice none 0 0, .slice none 0 0, .int .i64 0, .slice none 0 0, .slice none 0 0, .slice none 0 0, .slice none 0 0, .slice none 0 0, .slice none 0 0, .slice none 0 0, .slice none 0 0, .slice none 0 0] 50)).alloc (.cells #[.string ⟨#[]⟩, .bool false, .int .i64 0, .int .i64 0, .int .i64 0, .string ⟨#[]⟩, .string ⟨#[]⟩, .int .i64 0, .slice none 0 0, .slice none 0 0, .slice none 0 0, .slice none 0 0, .slice none 0 0, .slice none 0 0, .slice none 0 0, .slice none 0 0, .int .i64 0, .slice none 0 0, .slice none 0 0, .slice none 0 0, .slice none 0 0, .slice none 0 0, .slice none 0 0, .slice none 0 0, .slice none 0 0, .slice none 0 0] 50)) w.heap.size 50 #[.string ⟨#[]⟩, .bool false, .int .i64 0, .int .i64 0, .int .i64 0, .string ⟨#[]⟩, .string ⟨#[]⟩, .int .i64 0, .slice none 0 0, .slice none 0 0, .slice none 0 0, .slice none 0 0, .slice none 0 0, .slice none 0 0, .slice none 0 0, .slice none 0 0, .int .i64 0, .slice none 0 0, .slice none 0 0, .slice none 0 0, .slice none 0 0, .slice none 0 0, .slice none 0 0, .slice none 0 0, .slice none 0 0, .slice none 0 0]) := (Blk.new w 50 _).alloc _
  have HM0 : Hid (Blk ((w.alloc (.cells #[.string ⟨#[]⟩, .bool false, .int .i64 0, .int .i64 0, .int .i64 0, .string ⟨#[]⟩, .string ⟨#[]⟩, .int .i64 0, .slice none 0 0, .slice none 0 0, .slice none 0 0, .slice none 0 0, .slice none 0 0, .slice none 0 0, .slice none 0 0, .slice none 0 0, .int .i64 0, .slice none 0 0, .slice none 0 0, .slice none 0 0, .slice none 0 0, .slice none 0 0, .slice none 0 0, .slice none 0 0, .slice none 0 0, .slice none 0 0] 50)).alloc (.cells #[.string ⟨#[]⟩, .bool false, .int .i64 0, .int .i64 0, .int .i64 0, .string ⟨#[]⟩, .string ⟨#[]⟩, .int .i64 0, .slice none 0 0, .slice none 0 0, .slice none 0 0, .slice none 0 0, .slice none 0 0, .slice none 0 0, .slice none 0 0, .slice none 0 0, .int .i64 0, .slice none 0 0, .slice none 0 0, .slice none 0 0, .slice none 0 0, .slice none 0 0, .slice none 0 0, .slice none 0 0, .slice none 0 0, .slice none 0 0] 50)) (w.heap.size + 1) 50 #[.string ⟨#[]⟩, .bool false, .int .i64 0, .int .i64 0, .int .i64 0, .string ⟨#[]⟩, .string ⟨#[]⟩, .int .i64 0, .slice none 0 0, .slice none 0 0, .slice none 0 0, .slice none 0 0, .slice none 0 0, .slice none 0 0, .slice none 0 0, .slice none 0 0, .int .i64 0, .slice none 0 0, .slice none 0 0, .slice none 0 0, .slice none 0 0, .slice none 0 0, .slice none 0 0, .slice none 0 0, .slice none 0 0, .slice none 0 0]) := Blk.newAt (by simp)
  have HB0 : Hid (Below w.heap.size w ((w.alloc (.cells #[.string ⟨#[]⟩, .bool false, .int .i64 0, .int .i64 0, .int .i64 0, .string ⟨#[]⟩, .string ⟨#[]⟩, .int .i64 0, .slice none 0 0, .slice none 0 0, .slice none 0 0, .slice none 0 0, .slice none 0 0, .slice none 0 0, .slice none 0 0, .slice none 0 0, .int .i64 0, .slice none 0 0, .slice none 0 0, .slice none 0 0, .slice none 0 0, .slice none 0 0, .slice none 0 0, .slice none 0 0, .slice none 0 0, .slice none 0 0] 50)).alloc (.cells #[.string ⟨#[]⟩, .bool false, .int .i64 0, .int .i64 0, .int .i64 0, .string ⟨#[]⟩, .string ⟨#[]⟩, .int .i64 0, .slice none 0 0, .slice none 0 0, .slice none 0 0, .slice none 0 0, .slice none 0 0, .slice none 0 0, .slice none 0 0, .slice none 0 0, .int .i64 0, .slice none 0 0, .slice none 0 0, .slice none 0 0, .slice none 0 0, .slice none 0 0, .slice none 0 0, .slice none 0 0, .slice none 0 0, .slice none 0 0] 50))) := ((Below.refl _ _).alloc (Nat.le_refl _) _).alloc (by simp) _
  have HSZ0 : Hid (((w.alloc (.cells #[.string ⟨#[]⟩, .bool false, .int .i64 0, .int .i64 0, .int .i64 0, .string ⟨#[]⟩, .string ⟨#[]⟩, .int .i64 0, .slice none 0 0, .slice none 0 0, .slice none 0 0, .slice none 0 0, .slice none 0 0, .slice none 0 0, .slice none 0 0, .slice none 0 0, .int .i64 0, .slice none 0 0, .slice none 0 0, .slice none 0 0, .slice none 0 0, .slice none 0 0, .slice none 0 0, .slice none 0 0, .slice none 0 0, .slice none 0 0] 50)).alloc (.cells #[.string ⟨#[]⟩, .bool false, .int .i64 0, .int .i64 0, .int .i64 0, .string ⟨#[]⟩, .string ⟨#[]⟩, .int .i64 0, .slice none 0 0, .slice none 0 0, .slice none 0 0, .slice none 0 0, .slice none 0 0, .slice none 0 0, .slice none 0 0, .slice none 0 0, .int .i64 0, .slice none 0 0, .slice none 0 0, .slice none 0 0, .slice none 0 0, .slice none 0 0, .slice none 0 0, .slice none 0 0, .slice none 0 0, .slice none 0 0] 50)).heap.size = w.heap.size + 2) := Lib.hid (by simp)
  obtain ⟨ZZ, hZZ⟩ : ∃ ZZ : List Value, ZZ = [.string ⟨#[]⟩, .bool false, .int .i64 0, .int .i64 0, .int .i64 0, .string ⟨#[]⟩, .string ⟨#[]⟩, .int .i64 0, .slice none 0 0, .slice none 0 0, .slice none 0 0, .slice none 0 0, .slice none 0 0, .slice none 0 0, .slice none 0 0, .slice none 0 0, .int .i64 0, .slice none 0 0, .slice none 0 0, .slice none 0 0, .slice none 0 0, .slice none 0 0, .slice none 0 0, .slice none 0 0, .slice none 0 0, .slice none 0 0] := ⟨_, rfl⟩
  have HZZ := Lib.hid hZZ
  have HIIZ : Hid ((Tryd.prog.info? 50).map (·.size) = some ZZ.length) := Lib.hid (by rw [imgInfo, hZZ]; rfl)
  have HIZS : Hid ((Tryd.prog.info? 50).map (·.size) = some ZZ.toArray.size) := Lib.hid (by rw [imgInfo, hZZ]; rfl)
  have HZ1 : Hid (ZZ.toArray.all (·.oneCell') = true) := Lib.hid (by rw [hZZ]; exact all_one (ImageD.nil.one))
  clear hZZ
  have HRD : Hid (readDone l = (!(rImage ⟨l, false⟩).2.bad && (rImage ⟨l, false⟩).2.rest.isEmpty)) := rfl
  have HRO : Hid (readOk l = (readDone l && (wImageP (rImage ⟨l, false⟩).1 == l))) := rfl
  have HLE := Lib.hid (rImage_len ⟨l, false⟩)
  have HOV := Lib.hid (rImage_okv ⟨l, false⟩ hl)
  have hgood : (⟨l, false⟩ : St).Good := fun h => by cases h
  unfold ImgReadPost
  obtain ⟨dn, hdn⟩ : ∃ d, readDone l = d := ⟨_, rfl⟩
  obtain ⟨okv, hokv⟩ : ∃ d, readOk l = d := ⟨_, rfl⟩
  obtain ⟨RI, hRI⟩ : ∃ R, rImage ⟨l, false⟩ = R := ⟨_, rfl⟩
  rw [hdn, hRI] at HRD
  rw [hokv, hdn, hRI] at HRO
  rw [hokv, hRI]
  rw [hRI] at HLE HOV
  have HRI := Lib.hid hRI
  clear hdn hokv hRI
  obtain ⟨ip, s1⟩ := RI
  simp only at HRD HRO HLE HOV ⊢
  unfold str at HOP ⊢
  go_enter Tryd.func37, Tryd.ntmps37
  go_wp2_with fail
  generalize ((w.alloc (.cells #[.string ⟨#[]⟩, .bool false, .int .i64 0, .int .i64 0, .int .i64 0, .string ⟨#[]⟩, .string ⟨#[]⟩, .int .i64 0, .slice none 0 0, .slice none 0 0, .slice none 0 0, .slice none 0 0, .slice none 0 0, .slice none 0 0, .slice none 0 0, .slice none 0 0, .int .i64 0, .slice none 0 0, .slice none 0 0, .slice none 0 0, .slice none 0 0, .slice none 0 0, .slice none 0 0, .slice none 0 0, .slice none 0 0, .slice none 0 0] 50)).alloc (.cells #[.string ⟨#[]⟩, .bool false, .int .i64 0, .int .i64 0, .int .i64 0, .string ⟨#[]⟩, .string ⟨#[]⟩, .int .i64 0, .slice none 0 0, .slice none 0 0, .slice none 0 0, .slice none 0 0, .slice none 0 0, .slice none 0 0, .slice none 0 0, .slice none 0 0, .int .i64 0, .slice none 0 0, .slice none 0 0, .slice none 0 0, .slice none 0 0, .slice none 0 0, .slice none 0 0, .slice none 0 0, .slice none 0 0, .slice none 0 0] 50)) = w0 at HN0 HM0 HB0 HSZ0 ⊢
  refine (HOP.out w0).mono ?_
  rintro r w1 ⟨rfl, hr1, hb1⟩
  have hsz0 := HSZ0.out
  have HB1 := Lib.hid (HB0.out.trans (hb1.mono (by omega)))
  have HN1 := Lib.hid (HN0.out.below hb1 (by omega))
  have HM1 := Lib.hid (HM0.out.below hb1 (by omega))
  have hglt := hr1.lt
  have hgz : w.heap.size + 2 = w0.heap.size := hsz0.symm
  generalize w0.heap.size = g at hr1 hgz hglt ⊢
  have HCR : Hid (CR w1.heap.size g ⟨l, false⟩ (w1.alloc (.cells #[.pointer none, .slice none 0 0, .pointer (some ⟨g, 0, none⟩)] 83))) := Lib.hid ⟨Blk.new w1 83 _, Blk.alloc hr1 _⟩
  have HIR := Lib.hid (image_r (cb := w1.heap.size) (g := g) (ib := w.heap.size + 1) HCR.out hgood hl (HM1.out.alloc _) (by omega) (by omega))
  have HN2 := Lib.hid (HN1.out.alloc (.cells #[.pointer none, .slice none 0 0, .pointer (some ⟨g, 0, none⟩)] 83))
  have HB2 := Lib.hid (HB1.out.alloc HB1.out.size (.cells #[.pointer none, .slice none 0 0, .pointer (some ⟨g, 0, none⟩)] 83))
  have hw1 := HB1.out.size
  unfold ImageGot at HIR
  rw [HRI.out] at HIR
  simp only at HIR
  clear hr1 hb1 HB0 HN0 HM0 HM1 HN1 HB1 HSZ0 hsz0 hgood HCR HOP
  go_wp2_with fail
  generalize hcbe : w1.heap.size = cb at HIR ⊢
  refine (HIR.out).mono ?_
  rintro r w3 ⟨rfl, x, hpl, hc3, hx3, ht3, hrows⟩
  have HPL := Lib.hid hpl
  have HC3 := Lib.hid hc3
  have HX3 := Lib.hid hx3
  have HRW := Lib.hid hrows
  have HN := Lib.hid (HN2.out.tw ht3 (by omega) (by omega))
  have HB : Hid (Below w.heap.size w w3) := Lib.hid (HB2.out.trans (ht3.below (by omega) (by omega) HB2.out.size))
  have HXOK : Hid x.Ok := Lib.hid (ImageD.ok_of_pl (by rw [hpl]; exact HOV.out))
  clear hpl hc3 hx3 ht3 hrows HN2 HB2 HIR HOV
  have cin : w3.cell? ⟨cb, 2, none⟩ = some (.pointer (some ⟨g, 0, none⟩)) := HC3.out.in_
  have HDN := Lib.hid (Done_any g s1 w3 HC3.out.rd)
  have HLN : Hid (dn = true → (wImage x).length ≤ 1048576) := fun hd => by
    rw [HRD.out] at hd
    simp only [Bool.and_eq_true, Bool.not_eq_true', List.isEmpty_iff] at hd
    have h := HLE.out hd.1
    rw [wImage_pl, HPL.out]
    (try simp only at h)
    omega
  rw [← HRD.out] at HDN
  cases dn with
  | false =>
    have HOKV : Hid (okv = false) := HRO.out
    go_wp2_with fail
    refine (HDN.out).mono ?_
    rintro r w4 ⟨rfl, rfl⟩
    have y0 := HIIZ.out
    go_wp2_with (refine wpList_store_mid rfl 50 _ _ rfl w.heap.size 0 ZZ.toArray rfl (by rw [HZZ.out]; rfl) (HN.out.there (by rw [HZZ.out]; decide)) HIZS.out HZ1.out ?_)
    have hbz := HN.out.setCells (vs := ZZ.toArray.toList) (by rw [HZZ.out]; rfl)
    have HBZ : Hid (Blk (w3.setCells w.heap.size 0 ZZ.toArray.toList) w.heap.size 50 ZZ.toArray) := Lib.hid (by simpa using hbz)
    have HBE := Lib.hid (Below.setCells (B := w.heap.size) (b := w.heap.size) (a := w) ZZ.toArray.toList 0 w3 HB.out (Nat.le_refl _))
    clear hbz
    generalize w3.setCells w.heap.size 0 ZZ.toArray.toList = wz at HBZ HBE ⊢
    have hld := run_loadVar_mid (P := Tryd.prog) wz w.heap.size 0 50 ZZ _ HBZ.out.range Tryd.underlying50 rfl HIIZ.out
    go_wp2
    refine bodyPost_ret (v := .tuple #[.agg ZZ.toArray, .bool false]) (by simp [results, Tryd.results37, asAddr, hld]) rfl ?_
    refine ⟨ImageD.nil, by rw [HOKV.out, HZZ.out]; rfl, fun h => (by rw [HOKV.out] at h; cases h), ImageD.nil_in _ _, ImageD.nil_ok, HBE.out⟩
  | true =>
    have hlx := HLN.out rfl
    have hok1 := HRO.out
    rw [Bool.true_and, ← HPL.out, ← wImage_pl] at hok1
    have HII : Hid ((Tryd.prog.info? 50).map (·.size) = some x.parts.length) := Lib.hid (by rw [imgInfo]; rfl)
    have HIS : Hid ((Tryd.prog.info? 50).map (·.size) = some x.parts.toArray.size) := Lib.hid (by rw [imgInfo]; rfl)
    have H1C : Hid (x.parts.toArray.all (·.oneCell') = true) := Lib.hid (all_one x.one)
    have HPS := Lib.hid (show x.parts.length = 26 from rfl)
    have HBY := Lib.hid (ImgBytes_any x x.parts rfl w3.heap.size w3 HRW.out.in_ HXOK.out (Nat.le_refl _) (by omega))
    unfold str at HBY
    have HOK1 := Lib.hid hok1
    obtain ⟨PS, hPS⟩ : ∃ PS : List Value, PS = x.parts := ⟨_, rfl⟩
    rw [← hPS] at HII HIS H1C HPS HBY HX3
    have HPSE := Lib.hid hPS
    clear hPS hok1 hlx HLN HLE
    generalize wImage x = WI at HBY HOK1
    go_wp2_with fail
    refine (HDN.out).mono ?_
    rintro r w4 ⟨rfl, rfl⟩
    go_wp2_with (refine wpList_load_midG (by rfl) 50 _ rfl (w.heap.size + 1) 0 rfl PS _ HX3.out.range Tryd.underlying50 rfl HII.out ?_)
    refine (HBY.out).mono ?_
    rintro r w4 ⟨rfl, hb4⟩
    have HB4 := Lib.hid (HB.out.trans (hb4.mono HB.out.size))
    have HN4 := Lib.hid (HN.out.below hb4 HN.out.lt)
    have HX4 := Lib.hid (HX3.out.below hb4 HX3.out.lt)
    have HRW4 := Lib.hid (HRW.out.map (fun e s n v xs _ h => own_below h hb4 (Nat.le_refl _)))
    clear hb4 HB HN HX3 HRW HBY cin
    cases hq : (WI == l) with
    | false =>
      rw [hq] at HOK1
      have HOKV : Hid (okv = false) := HOK1
      have HB := HB4
      have HN := HN4
      have y0 := HIIZ.out
      go_wp2_with (refine wpList_store_mid rfl 50 _ _ rfl w.heap.size 0 ZZ.toArray rfl (by rw [HZZ.out]; rfl) (HN.out.there (by rw [HZZ.out]; decide)) HIZS.out HZ1.out ?_)
      have hbz := HN.out.setCells (vs := ZZ.toArray.toList) (by rw [HZZ.out]; rfl)
      have HBZ : Hid (Blk (w4.setCells w.heap.size 0 ZZ.toArray.toList) w.heap.size 50 ZZ.toArray) := Lib.hid (by simpa using hbz)
      have HBE := Lib.hid (Below.setCells (B := w.heap.size) (b := w.heap.size) (a := w) ZZ.toArray.toList 0 w4 HB.out (Nat.le_refl _))
      clear hbz
      generalize w4.setCells w.heap.size 0 ZZ.toArray.toList = wz at HBZ HBE ⊢
      have hld := run_loadVar_mid (P := Tryd.prog) wz w.heap.size 0 50 ZZ _ HBZ.out.range Tryd.underlying50 rfl HIIZ.out
      go_wp2
      refine bodyPost_ret (v := .tuple #[.agg ZZ.toArray, .bool false]) (by simp [results, Tryd.results37, asAddr, hld]) rfl ?_
      refine ⟨ImageD.nil, by rw [HOKV.out, HZZ.out]; rfl, fun h => (by rw [HOKV.out] at h; cases h), ImageD.nil_in _ _, ImageD.nil_ok, HBE.out⟩
    | true =>
      rw [hq] at HOK1
      have HOKV : Hid (okv = true) := HOK1
      go_wp2_with (first
        | (refine wpList_load_mid rfl 50 _ rfl (w.heap.size + 1) 0 rfl PS _ HX4.out.range Tryd.underlying50 rfl HII.out ?_)
        | (refine wpList_store_mid rfl 50 _ _ rfl w.heap.size 0 PS.toArray rfl rfl (HN4.out.there (by rw [List.size_toArray, HPS.out]; decide)) HIS.out H1C.out ?_))
      have hbz := HN4.out.setCells (vs := PS.toArray.toList) (by simp [HPS.out])
      have HBZ : Hid (Blk (w4.setCells w.heap.size 0 PS.toArray.toList) w.heap.size 50 PS.toArray) := Lib.hid (by simpa using hbz)
      have HBE := Lib.hid (Below.setCells (B := w.heap.size) (b := w.heap.size) (a := w) PS.toArray.toList 0 w4 HB4.out (Nat.le_refl _))
      have HRWZ : Hid (x.Rows (w4.setCells w.heap.size 0 PS.toArray.toList)) := Lib.hid (HRW4.out.map (fun e s n v xs he h => own_setCells _ 0 w4 _ h HN4.out (Ne.symm he)))
      clear hbz hq
      generalize w4.setCells w.heap.size 0 PS.toArray.toList = wz at HBZ HBE HRWZ ⊢
      have hld := run_loadVar_mid (P := Tryd.prog) wz w.heap.size 0 50 PS _ HBZ.out.range Tryd.underlying50 rfl HII.out
      go_wp2
      refine bodyPost_ret (v := .tuple #[.agg PS.toArray, .bool true]) (by simp [results, Tryd.results37, asAddr, hld]) rfl ?_
      exact ⟨x, by rw [HOKV.out, HPSE.out], fun _ => ⟨HPL.out, HRWZ.out⟩, HRWZ.out.in_, HXOK.out, HBE.out⟩

end Go.Proofs.YtefgajipakjpeaaDoor
