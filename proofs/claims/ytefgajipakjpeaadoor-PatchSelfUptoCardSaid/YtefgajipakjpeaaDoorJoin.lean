/-
  Contract of patch.Join. Condition: at most 1000000 edits in the first patch (a right patch has fewer).
-/
import Derived.Test.YtefgajipakjpeaaDoorFit2
namespace Go.Proofs.YtefgajipakjpeaaDoor
open Go.RowKit

def rightPD (p : PD) : Bool := decide (p.from_.length = 32) && decide (p.to_.length = 32) && decide (p.edits.length ≤ 65536) && p.edits.all rightEB && decide (totalI p.edits ≤ 16777216)
theorem rightPB_pd (p : PatchD) : rightPB p = rightPD p.pd := rfl
def fitQ (p : PD) : Bool := rightPD p && decide (((wPD p).length : Int) ≤ 65536)
def fitR (p : PD) : PD × Int := if fitQ p then (p, 0) else (PD.nil, 7)
theorem fitPD_pd (p : PatchD) : fitPD p = fitR p.pd := rfl
structure RightPD (p : PD) : Prop where
  from_ : p.from_.length = 32
  to_ : p.to_.length = 32
  len : p.edits.length ≤ 65536
  edits : ∀ e ∈ p.edits, rightEB e = true
  total : totalI p.edits ≤ 16777216
theorem rightPD_iff (p : PD) : rightPD p = true ↔ RightPD p := by
  unfold rightPD
  simp only [Bool.and_eq_true, decide_eq_true_eq, List.all_eq_true]
  exact ⟨fun ⟨⟨⟨⟨a, b⟩, c⟩, d⟩, e⟩ => ⟨a, b, c, d, e⟩, fun ⟨a, b, c, d, e⟩ => ⟨⟨⟨⟨a, b⟩, c⟩, d⟩, e⟩⟩

def joinF (pe : List EditD) : List EditD → List EditD → List UInt8 → Bool × (List EditD × List UInt8)
  | [], es, acc => (true, (es, acc))
  | e :: l, es, acc =>
    if e.text.isEmpty then
      if (followL pe es acc e.from_ e.size).1 then joinF pe l (followL pe es acc e.from_ e.size).2.1 (followL pe es acc e.from_ e.size).2.2 else (false, (es, acc))
    else joinF pe l es (acc ++ e.text)
def joinR (p q : PD) : PD × Int :=
  if !(rightPD p && rightPD q) then (PD.nil, 2)
  else if p.to_ ≠ q.from_ then (PD.nil, 1)
  else if (joinF p.edits q.edits [] []).1 then fitR ⟨p.from_, q.to_, flushL (joinF p.edits q.edits [] []).2.1 (joinF p.edits q.edits [] []).2.2⟩
  else (PD.nil, 2)

theorem followL_ok : ∀ (l es : List EditD) (acc : List UInt8) (f s T : Int), MkOk T es acc → (∀ e ∈ l, rightEB e = true) → 0 ≤ f → 1 ≤ s → (followL l es acc f s).1 = true → MkOk (T + s) (followL l es acc f s).2.1 (followL l es acc f s).2.2
  | [], es, acc, f, s, T, h, _, _, hs, hk => by
    simp only [followL, decide_eq_true_eq] at hk
    omega
  | e :: l, es, acc, f, s, T, h, hr, hf, hs, hk => by
    have hre := hr e List.mem_cons_self
    have hl := (rightE_EOk hre).len
    have hr' := fun x hx => hr x (List.mem_cons_of_mem _ hx)
    unfold followL at hk ⊢
    split
    · rename_i h1
      rw [if_pos h1] at hk
      exact followL_ok l es acc _ s T h hr' (by omega) hs hk
    · rename_i h1
      rw [if_neg h1] at hk
      have hm := folMk_ok (f := f) (part := min s (lenI e - f)) h hre hf (by omega) (by omega)
      split
      · rename_i h2
        have : T + min s (lenI e - f) = T + s := by omega
        rw [this] at hm
        exact hm
      · rename_i h2
        rw [if_neg h2] at hk
        have h3 := followL_ok l _ _ 0 (s - min s (lenI e - f)) _ hm hr' (by omega) (by omega) hk
        have : T + min s (lenI e - f) + (s - min s (lenI e - f)) = T + s := by omega
        rw [this] at h3
        exact h3

/-- The state of Join's loop. -/
structure JS (w : World) (mb : Nat) (p q : PatchD) (es : List EditD) (acc : List UInt8) (wr : World) : Prop where
  mkr : MKat mb mb es acc wr
  px : Blk wr w.heap.size 24 p.parts.toArray
  qx : Blk wr (w.heap.size + 1) 24 q.parts.toArray
  rx : Blk wr (w.heap.size + 2) 24 #[.string ⟨#[]⟩, .string ⟨#[]⟩, .slice none 0 0]
  below : Below w.heap.size w wr
  hmb : w.heap.size + 3 ≤ mb
theorem JS.to_ {w wr w' : World} {mb : Nat} {p q : PatchD} {es es' : List EditD} {acc acc' : List UInt8} (h : JS w mb p q es acc wr) (hm : MKat mb mb es' acc' w') (hb : Below mb wr w') : JS w mb p q es' acc' w' := by
  have := h.hmb
  exact ⟨hm, h.px.below hb (by omega), h.qx.below hb (by omega), h.rx.below hb (by omega), h.below.trans (hb.mono (by omega)), h.hmb⟩
theorem JS.keep {w wr w' : World} {mb : Nat} {p q : PatchD} {es : List EditD} {acc : List UInt8} (h : JS w mb p q es acc wr) (hb : Below wr.heap.size wr w') : JS w mb p q es acc w' := by
  have := h.mkr.lt
  exact h.to_ (h.mkr.keep hb) (hb.mono (by omega))

set_option maxHeartbeats 4000000 in
set_option maxRecDepth 100000 in
theorem join_no1 (p q : PatchD) (B : Nat) (w : World) (hp : p.Ok w B) (hq : q.Ok w B) (hB : B ≤ w.heap.size) (hr : rightPB p = false) :
    Calls Tryd.prog 17 #[.agg p.parts.toArray, .agg q.parts.toArray] w fun r w' => r = .returned (.tuple #[.agg #[.string ⟨#[]⟩, .string ⟨#[]⟩, .slice none 0 0], .int .i64 2]) ∧ Below w.heap.size w w' := by
  have HPO := Lib.hid hp
  have HQO := Lib.hid hq
  have hql := hq.len
  have HRP := Lib.hid (fun (w' : World) (hb : Below w.heap.size w w') => Right_any p B w' (hp.below (hb.mono hB)) (Nat.le_trans hB hb.size))
  have HRQ := Lib.hid (fun (w' : World) (hb : Below w.heap.size w w') => Right_any q B w' (hq.below (hb.mono hB)) (Nat.le_trans hB hb.size))
  clear hp hq
  have HB0 := Lib.hid ((((Below.refl w.heap.size w).alloc (Nat.le_refl _) (.cells p.parts.toArray 24)).alloc (by simp) (.cells q.parts.toArray 24)).alloc (by simp; omega) (.cells #[.string ⟨#[]⟩, .string ⟨#[]⟩, .slice none 0 0] 24))
  have HX0 : Hid (Blk (((w.alloc (.cells p.parts.toArray 24)).alloc (.cells q.parts.toArray 24)).alloc (.cells #[.string ⟨#[]⟩, .string ⟨#[]⟩, .slice none 0 0] 24)) w.heap.size 24 p.parts.toArray) := ((Blk.new w 24 _).alloc _).alloc _
  have HY0 : Hid (Blk (((w.alloc (.cells p.parts.toArray 24)).alloc (.cells q.parts.toArray 24)).alloc (.cells #[.string ⟨#[]⟩, .string ⟨#[]⟩, .slice none 0 0] 24)) (w.heap.size + 1) 24 q.parts.toArray) := (Blk.newAt (by simp)).alloc _
  have HZ0 : Hid (Blk (((w.alloc (.cells p.parts.toArray 24)).alloc (.cells q.parts.toArray 24)).alloc (.cells #[.string ⟨#[]⟩, .string ⟨#[]⟩, .slice none 0 0] 24)) (w.heap.size + 2) 24 #[.string ⟨#[]⟩, .string ⟨#[]⟩, .slice none 0 0]) := Blk.newAt (by simp)
  have HSZ : Hid ((((w.alloc (.cells p.parts.toArray 24)).alloc (.cells q.parts.toArray 24)).alloc (.cells #[.string ⟨#[]⟩, .string ⟨#[]⟩, .slice none 0 0] 24)).heap.size = w.heap.size + 3) := Lib.hid (by simp)
  simp only [PatchD.parts] at HX0 HY0 HZ0 HB0 HSZ HRP HRQ ⊢
  rw [hr] at HRP
  clear hr
  go_enter Tryd.func17, Tryd.ntmps17
  go_wp2_with fail
  generalize (((w.alloc (.cells #[.string ⟨p.from_.toArray⟩, .string ⟨p.to_.toArray⟩, .slice p.A p.edits.length p.c] 24)).alloc (.cells #[.string ⟨q.from_.toArray⟩, .string ⟨q.to_.toArray⟩, .slice q.A q.edits.length q.c] 24)).alloc (.cells #[.string ⟨#[]⟩, .string ⟨#[]⟩, .slice none 0 0] 24)) = w0 at HX0 HY0 HZ0 HB0 HSZ ⊢
  have HC1 := Lib.hid (HRP.out w0 HB0.out)
  clear HRP
  refine (HC1.out).mono ?_
  rintro r w1 ⟨rfl, hb1⟩
  have HB1 := Lib.hid (HB0.out.trans (hb1.mono HB0.out.size))
  have HX1 := Lib.hid (HX0.out.below hb1 HX0.out.lt)
  have HY1 := Lib.hid (HY0.out.below hb1 HY0.out.lt)
  have HZ1 := Lib.hid (HZ0.out.below hb1 HZ0.out.lt)
  have HSZ1 := Lib.hid hb1.size
  clear hb1 HC1 HB0 HX0 HY0 HZ0
  have y0 : w1.cell? ⟨w.heap.size + 2, 0, none⟩ = some (.string ⟨#[]⟩) := HZ1.out.cell 0
  have y1 : w1.cell? ⟨w.heap.size + 2, 1, none⟩ = some (.string ⟨#[]⟩) := HZ1.out.cell 1
  have y2 : w1.cell? ⟨w.heap.size + 2, 2, none⟩ = some (.slice none 0 0) := HZ1.out.cell 2
  have f0 := HZ1.out.frozen 0
  have f1 := HZ1.out.frozen 1
  have f2 := HZ1.out.frozen 2
  go_wp2
  exact bodyPost_ret (v := .tuple #[.agg #[.string ⟨#[]⟩, .string ⟨#[]⟩, .slice none 0 0], .int .i64 2]) (by simp [results, Tryd.results17, go_sem, y0, y1, y2]) rfl ⟨rfl, ((HB1.out.setCell (p := ⟨w.heap.size + 2, 0, none⟩) (by show w.heap.size ≤ w.heap.size + 2; omega) _).setCell (p := ⟨w.heap.size + 2, 1, none⟩) (by show w.heap.size ≤ w.heap.size + 2; omega) _).setCell (p := ⟨w.heap.size + 2, 2, none⟩) (by show w.heap.size ≤ w.heap.size + 2; omega) _⟩

set_option maxHeartbeats 4000000 in
set_option maxRecDepth 100000 in
theorem join_no2 (p q : PatchD) (B : Nat) (w : World) (hp : p.Ok w B) (hq : q.Ok w B) (hB : B ≤ w.heap.size) (hr : rightPB p = true) (hs : rightPB q = false) :
    Calls Tryd.prog 17 #[.agg p.parts.toArray, .agg q.parts.toArray] w fun r w' => r = .returned (.tuple #[.agg #[.string ⟨#[]⟩, .string ⟨#[]⟩, .slice none 0 0], .int .i64 2]) ∧ Below w.heap.size w w' := by
  have HPO := Lib.hid hp
  have HQO := Lib.hid hq
  have hql := hq.len
  have HRP := Lib.hid (fun (w' : World) (hb : Below w.heap.size w w') => Right_any p B w' (hp.below (hb.mono hB)) (Nat.le_trans hB hb.size))
  have HRQ := Lib.hid (fun (w' : World) (hb : Below w.heap.size w w') => Right_any q B w' (hq.below (hb.mono hB)) (Nat.le_trans hB hb.size))
  clear hp hq
  have HB0 := Lib.hid ((((Below.refl w.heap.size w).alloc (Nat.le_refl _) (.cells p.parts.toArray 24)).alloc (by simp) (.cells q.parts.toArray 24)).alloc (by simp; omega) (.cells #[.string ⟨#[]⟩, .string ⟨#[]⟩, .slice none 0 0] 24))
  have HX0 : Hid (Blk (((w.alloc (.cells p.parts.toArray 24)).alloc (.cells q.parts.toArray 24)).alloc (.cells #[.string ⟨#[]⟩, .string ⟨#[]⟩, .slice none 0 0] 24)) w.heap.size 24 p.parts.toArray) := ((Blk.new w 24 _).alloc _).alloc _
  have HY0 : Hid (Blk (((w.alloc (.cells p.parts.toArray 24)).alloc (.cells q.parts.toArray 24)).alloc (.cells #[.string ⟨#[]⟩, .string ⟨#[]⟩, .slice none 0 0] 24)) (w.heap.size + 1) 24 q.parts.toArray) := (Blk.newAt (by simp)).alloc _
  have HZ0 : Hid (Blk (((w.alloc (.cells p.parts.toArray 24)).alloc (.cells q.parts.toArray 24)).alloc (.cells #[.string ⟨#[]⟩, .string ⟨#[]⟩, .slice none 0 0] 24)) (w.heap.size + 2) 24 #[.string ⟨#[]⟩, .string ⟨#[]⟩, .slice none 0 0]) := Blk.newAt (by simp)
  have HSZ : Hid ((((w.alloc (.cells p.parts.toArray 24)).alloc (.cells q.parts.toArray 24)).alloc (.cells #[.string ⟨#[]⟩, .string ⟨#[]⟩, .slice none 0 0] 24)).heap.size = w.heap.size + 3) := Lib.hid (by simp)
  simp only [PatchD.parts] at HX0 HY0 HZ0 HB0 HSZ HRP HRQ ⊢
  rw [hr] at HRP
  rw [hs] at HRQ
  clear hr hs
  go_enter Tryd.func17, Tryd.ntmps17
  go_wp2_with fail
  generalize (((w.alloc (.cells #[.string ⟨p.from_.toArray⟩, .string ⟨p.to_.toArray⟩, .slice p.A p.edits.length p.c] 24)).alloc (.cells #[.string ⟨q.from_.toArray⟩, .string ⟨q.to_.toArray⟩, .slice q.A q.edits.length q.c] 24)).alloc (.cells #[.string ⟨#[]⟩, .string ⟨#[]⟩, .slice none 0 0] 24)) = w0 at HX0 HY0 HZ0 HB0 HSZ ⊢
  have HC1 := Lib.hid (HRP.out w0 HB0.out)
  clear HRP
  refine (HC1.out).mono ?_
  rintro r w1 ⟨rfl, hb1⟩
  have HB1 := Lib.hid (HB0.out.trans (hb1.mono HB0.out.size))
  have HX1 := Lib.hid (HX0.out.below hb1 HX0.out.lt)
  have HY1 := Lib.hid (HY0.out.below hb1 HY0.out.lt)
  have HZ1 := Lib.hid (HZ0.out.below hb1 HZ0.out.lt)
  have HSZ1 := Lib.hid hb1.size
  clear hb1 HC1 HB0 HX0 HY0 HZ0
  have c0 : w1.cell? ⟨w.heap.size + 1, 0, none⟩ = some (.string ⟨q.from_.toArray⟩) := HY1.out.cell 0
  have c1 : w1.cell? ⟨w.heap.size + 1, 1, none⟩ = some (.string ⟨q.to_.toArray⟩) := HY1.out.cell 1
  have c2 : w1.cell? ⟨w.heap.size + 1, 2, none⟩ = some (.slice q.A q.edits.length q.c) := HY1.out.cell 2
  have HC2 := Lib.hid (HRQ.out w1 HB1.out)
  clear HRQ
  go_wp2_with fail
  refine (HC2.out).mono ?_
  rintro r w2 ⟨rfl, hb2⟩
  have HB2 := Lib.hid (HB1.out.trans (hb2.mono HB1.out.size))
  have HX2 := Lib.hid (HX1.out.below hb2 HX1.out.lt)
  have HY2 := Lib.hid (HY1.out.below hb2 HY1.out.lt)
  have HZ2 := Lib.hid (HZ1.out.below hb2 HZ1.out.lt)
  have HSZ2 := Lib.hid (Nat.le_trans HSZ1.out hb2.size)
  clear hb2 HC2 HB1 HX1 HY1 HZ1 c0 c1 c2

  have y0 : w2.cell? ⟨w.heap.size + 2, 0, none⟩ = some (.string ⟨#[]⟩) := HZ2.out.cell 0
  have y1 : w2.cell? ⟨w.heap.size + 2, 1, none⟩ = some (.string ⟨#[]⟩) := HZ2.out.cell 1
  have y2 : w2.cell? ⟨w.heap.size + 2, 2, none⟩ = some (.slice none 0 0) := HZ2.out.cell 2
  have f0 := HZ2.out.frozen 0
  have f1 := HZ2.out.frozen 1
  have f2 := HZ2.out.frozen 2
  go_wp2
  exact bodyPost_ret (v := .tuple #[.agg #[.string ⟨#[]⟩, .string ⟨#[]⟩, .slice none 0 0], .int .i64 2]) (by simp [results, Tryd.results17, go_sem, y0, y1, y2]) rfl ⟨rfl, ((HB2.out.setCell (p := ⟨w.heap.size + 2, 0, none⟩) (by show w.heap.size ≤ w.heap.size + 2; omega) _).setCell (p := ⟨w.heap.size + 2, 1, none⟩) (by show w.heap.size ≤ w.heap.size + 2; omega) _).setCell (p := ⟨w.heap.size + 2, 2, none⟩) (by show w.heap.size ≤ w.heap.size + 2; omega) _⟩

set_option maxHeartbeats 4000000 in
set_option maxRecDepth 100000 in
theorem join_arg (p q : PatchD) (B : Nat) (w : World) (hp : p.Ok w B) (hq : q.Ok w B) (hB : B ≤ w.heap.size) (hr : rightPB p = true) (hs : rightPB q = true) (hne : p.to_ ≠ q.from_) :
    Calls Tryd.prog 17 #[.agg p.parts.toArray, .agg q.parts.toArray] w fun r w' => r = .returned (.tuple #[.agg #[.string ⟨#[]⟩, .string ⟨#[]⟩, .slice none 0 0], .int .i64 1]) ∧ Below w.heap.size w w' := by
  have HPO := Lib.hid hp
  have HQO := Lib.hid hq
  have hql := hq.len
  have HRP := Lib.hid (fun (w' : World) (hb : Below w.heap.size w w') => Right_any p B w' (hp.below (hb.mono hB)) (Nat.le_trans hB hb.size))
  have HRQ := Lib.hid (fun (w' : World) (hb : Below w.heap.size w w') => Right_any q B w' (hq.below (hb.mono hB)) (Nat.le_trans hB hb.size))
  clear hp hq
  have HB0 := Lib.hid ((((Below.refl w.heap.size w).alloc (Nat.le_refl _) (.cells p.parts.toArray 24)).alloc (by simp) (.cells q.parts.toArray 24)).alloc (by simp; omega) (.cells #[.string ⟨#[]⟩, .string ⟨#[]⟩, .slice none 0 0] 24))
  have HX0 : Hid (Blk (((w.alloc (.cells p.parts.toArray 24)).alloc (.cells q.parts.toArray 24)).alloc (.cells #[.string ⟨#[]⟩, .string ⟨#[]⟩, .slice none 0 0] 24)) w.heap.size 24 p.parts.toArray) := ((Blk.new w 24 _).alloc _).alloc _
  have HY0 : Hid (Blk (((w.alloc (.cells p.parts.toArray 24)).alloc (.cells q.parts.toArray 24)).alloc (.cells #[.string ⟨#[]⟩, .string ⟨#[]⟩, .slice none 0 0] 24)) (w.heap.size + 1) 24 q.parts.toArray) := (Blk.newAt (by simp)).alloc _
  have HZ0 : Hid (Blk (((w.alloc (.cells p.parts.toArray 24)).alloc (.cells q.parts.toArray 24)).alloc (.cells #[.string ⟨#[]⟩, .string ⟨#[]⟩, .slice none 0 0] 24)) (w.heap.size + 2) 24 #[.string ⟨#[]⟩, .string ⟨#[]⟩, .slice none 0 0]) := Blk.newAt (by simp)
  have HSZ : Hid ((((w.alloc (.cells p.parts.toArray 24)).alloc (.cells q.parts.toArray 24)).alloc (.cells #[.string ⟨#[]⟩, .string ⟨#[]⟩, .slice none 0 0] 24)).heap.size = w.heap.size + 3) := Lib.hid (by simp)
  simp only [PatchD.parts] at HX0 HY0 HZ0 HB0 HSZ HRP HRQ ⊢
  rw [hr] at HRP
  rw [hs] at HRQ
  clear hr hs
  have hnb : (p.to_ == q.from_) = false := by simpa using hne
  clear hne
  go_enter Tryd.func17, Tryd.ntmps17
  go_wp2_with fail
  generalize (((w.alloc (.cells #[.string ⟨p.from_.toArray⟩, .string ⟨p.to_.toArray⟩, .slice p.A p.edits.length p.c] 24)).alloc (.cells #[.string ⟨q.from_.toArray⟩, .string ⟨q.to_.toArray⟩, .slice q.A q.edits.length q.c] 24)).alloc (.cells #[.string ⟨#[]⟩, .string ⟨#[]⟩, .slice none 0 0] 24)) = w0 at HX0 HY0 HZ0 HB0 HSZ ⊢
  have HC1 := Lib.hid (HRP.out w0 HB0.out)
  clear HRP
  refine (HC1.out).mono ?_
  rintro r w1 ⟨rfl, hb1⟩
  have HB1 := Lib.hid (HB0.out.trans (hb1.mono HB0.out.size))
  have HX1 := Lib.hid (HX0.out.below hb1 HX0.out.lt)
  have HY1 := Lib.hid (HY0.out.below hb1 HY0.out.lt)
  have HZ1 := Lib.hid (HZ0.out.below hb1 HZ0.out.lt)
  have HSZ1 := Lib.hid hb1.size
  clear hb1 HC1 HB0 HX0 HY0 HZ0
  have c0 : w1.cell? ⟨w.heap.size + 1, 0, none⟩ = some (.string ⟨q.from_.toArray⟩) := HY1.out.cell 0
  have c1 : w1.cell? ⟨w.heap.size + 1, 1, none⟩ = some (.string ⟨q.to_.toArray⟩) := HY1.out.cell 1
  have c2 : w1.cell? ⟨w.heap.size + 1, 2, none⟩ = some (.slice q.A q.edits.length q.c) := HY1.out.cell 2
  have HC2 := Lib.hid (HRQ.out w1 HB1.out)
  clear HRQ
  go_wp2_with fail
  refine (HC2.out).mono ?_
  rintro r w2 ⟨rfl, hb2⟩
  have HB2 := Lib.hid (HB1.out.trans (hb2.mono HB1.out.size))
  have HX2 := Lib.hid (HX1.out.below hb2 HX1.out.lt)
  have HY2 := Lib.hid (HY1.out.below hb2 HY1.out.lt)
  have HZ2 := Lib.hid (HZ1.out.below hb2 HZ1.out.lt)
  have HSZ2 := Lib.hid (Nat.le_trans HSZ1.out hb2.size)
  clear hb2 HC2 HB1 HX1 HY1 HZ1 c0 c1 c2

  have c1 : w2.cell? ⟨w.heap.size, 1, none⟩ = some (.string ⟨p.to_.toArray⟩) := HX2.out.cell 1
  have d0 : w2.cell? ⟨w.heap.size + 1, 0, none⟩ = some (.string ⟨q.from_.toArray⟩) := HY2.out.cell 0

  have y0 : w2.cell? ⟨w.heap.size + 2, 0, none⟩ = some (.string ⟨#[]⟩) := HZ2.out.cell 0
  have y1 : w2.cell? ⟨w.heap.size + 2, 1, none⟩ = some (.string ⟨#[]⟩) := HZ2.out.cell 1
  have y2 : w2.cell? ⟨w.heap.size + 2, 2, none⟩ = some (.slice none 0 0) := HZ2.out.cell 2
  have f0 := HZ2.out.frozen 0
  have f1 := HZ2.out.frozen 1
  have f2 := HZ2.out.frozen 2
  go_wp2
  exact bodyPost_ret (v := .tuple #[.agg #[.string ⟨#[]⟩, .string ⟨#[]⟩, .slice none 0 0], .int .i64 1]) (by simp [results, Tryd.results17, go_sem, y0, y1, y2]) rfl ⟨rfl, ((HB2.out.setCell (p := ⟨w.heap.size + 2, 0, none⟩) (by show w.heap.size ≤ w.heap.size + 2; omega) _).setCell (p := ⟨w.heap.size + 2, 1, none⟩) (by show w.heap.size ≤ w.heap.size + 2; omega) _).setCell (p := ⟨w.heap.size + 2, 2, none⟩) (by show w.heap.size ≤ w.heap.size + 2; omega) _⟩

set_option maxHeartbeats 4000000 in
set_option maxRecDepth 100000 in
theorem join_go (p q : PatchD) (B : Nat) (w : World) (hp : p.Ok w B) (hq : q.Ok w B) (hB : B ≤ w.heap.size) (hr : rightPB p = true) (hs : rightPB q = true) (heq : p.to_ = q.from_) :
    Calls Tryd.prog 17 #[.agg p.parts.toArray, .agg q.parts.toArray] w (PatchPost (if (joinF p.edits q.edits [] []).1 then fitR ⟨p.from_, q.to_, flushL (joinF p.edits q.edits [] []).2.1 (joinF p.edits q.edits [] []).2.2⟩ else (PD.nil, 2)) w) := by
  have HPO := Lib.hid hp
  have HQO := Lib.hid hq
  have hql := hq.len
  have HRP := Lib.hid (fun (w' : World) (hb : Below w.heap.size w w') => Right_any p B w' (hp.below (hb.mono hB)) (Nat.le_trans hB hb.size))
  have HRQ := Lib.hid (fun (w' : World) (hb : Below w.heap.size w w') => Right_any q B w' (hq.below (hb.mono hB)) (Nat.le_trans hB hb.size))
  clear hp hq
  have HB0 := Lib.hid ((((Below.refl w.heap.size w).alloc (Nat.le_refl _) (.cells p.parts.toArray 24)).alloc (by simp) (.cells q.parts.toArray 24)).alloc (by simp; omega) (.cells #[.string ⟨#[]⟩, .string ⟨#[]⟩, .slice none 0 0] 24))
  have HX0 : Hid (Blk (((w.alloc (.cells p.parts.toArray 24)).alloc (.cells q.parts.toArray 24)).alloc (.cells #[.string ⟨#[]⟩, .string ⟨#[]⟩, .slice none 0 0] 24)) w.heap.size 24 p.parts.toArray) := ((Blk.new w 24 _).alloc _).alloc _
  have HY0 : Hid (Blk (((w.alloc (.cells p.parts.toArray 24)).alloc (.cells q.parts.toArray 24)).alloc (.cells #[.string ⟨#[]⟩, .string ⟨#[]⟩, .slice none 0 0] 24)) (w.heap.size + 1) 24 q.parts.toArray) := (Blk.newAt (by simp)).alloc _
  have HZ0 : Hid (Blk (((w.alloc (.cells p.parts.toArray 24)).alloc (.cells q.parts.toArray 24)).alloc (.cells #[.string ⟨#[]⟩, .string ⟨#[]⟩, .slice none 0 0] 24)) (w.heap.size + 2) 24 #[.string ⟨#[]⟩, .string ⟨#[]⟩, .slice none 0 0]) := Blk.newAt (by simp)
  have HSZ : Hid ((((w.alloc (.cells p.parts.toArray 24)).alloc (.cells q.parts.toArray 24)).alloc (.cells #[.string ⟨#[]⟩, .string ⟨#[]⟩, .slice none 0 0] 24)).heap.size = w.heap.size + 3) := Lib.hid (by simp)
  simp only [PatchD.parts] at HX0 HY0 HZ0 HB0 HSZ HRP HRQ ⊢
  rw [hr] at HRP
  rw [hs] at HRQ
  have hrp := (rightPD_iff p.pd).1 hr
  have hrq := (rightPD_iff q.pd).1 hs
  have hpe := hrp.len
  have HPE := Lib.hid hrp.edits
  have HQE := Lib.hid hrq.edits
  have hqt := hrq.total
  clear hr hs hrp hrq
  have hnb : (p.to_ == q.from_) = true := by simp [heq]
  clear heq
  simp only [PatchD.pd] at HPE HQE hqt hpe
  obtain ⟨RES, hRES⟩ : ∃ R, joinF p.edits q.edits [] [] = R := ⟨_, rfl⟩
  rw [hRES]
  have HRES : Hid (RES = joinF p.edits (q.edits.drop 0) [] []) := Lib.hid (by rw [List.drop_zero]; exact hRES.symm)
  clear hRES
  obtain ⟨RR, hRR⟩ : ∃ R, (if RES.1 = true then fitR ⟨p.from_, q.to_, flushL RES.2.1 RES.2.2⟩ else (PD.nil, 2)) = R := ⟨_, rfl⟩
  rw [hRR]
  have HRR : Hid (RR = if RES.1 = true then fitR ⟨p.from_, q.to_, flushL RES.2.1 RES.2.2⟩ else (PD.nil, 2)) := hRR.symm
  clear hRR
  go_enter Tryd.func17, Tryd.ntmps17
  go_wp2_with fail
  generalize (((w.alloc (.cells #[.string ⟨p.from_.toArray⟩, .string ⟨p.to_.toArray⟩, .slice p.A p.edits.length p.c] 24)).alloc (.cells #[.string ⟨q.from_.toArray⟩, .string ⟨q.to_.toArray⟩, .slice q.A q.edits.length q.c] 24)).alloc (.cells #[.string ⟨#[]⟩, .string ⟨#[]⟩, .slice none 0 0] 24)) = w0 at HX0 HY0 HZ0 HB0 HSZ ⊢
  have HC1 := Lib.hid (HRP.out w0 HB0.out)
  clear HRP
  refine (HC1.out).mono ?_
  rintro r w1 ⟨rfl, hb1⟩
  have HB1 := Lib.hid (HB0.out.trans (hb1.mono HB0.out.size))
  have HX1 := Lib.hid (HX0.out.below hb1 HX0.out.lt)
  have HY1 := Lib.hid (HY0.out.below hb1 HY0.out.lt)
  have HZ1 := Lib.hid (HZ0.out.below hb1 HZ0.out.lt)
  have HSZ1 := Lib.hid hb1.size
  clear hb1 HC1 HB0 HX0 HY0 HZ0
  have c0 : w1.cell? ⟨w.heap.size + 1, 0, none⟩ = some (.string ⟨q.from_.toArray⟩) := HY1.out.cell 0
  have c1 : w1.cell? ⟨w.heap.size + 1, 1, none⟩ = some (.string ⟨q.to_.toArray⟩) := HY1.out.cell 1
  have c2 : w1.cell? ⟨w.heap.size + 1, 2, none⟩ = some (.slice q.A q.edits.length q.c) := HY1.out.cell 2
  have HC2 := Lib.hid (HRQ.out w1 HB1.out)
  clear HRQ
  go_wp2_with fail
  refine (HC2.out).mono ?_
  rintro r w2 ⟨rfl, hb2⟩
  have HB2 := Lib.hid (HB1.out.trans (hb2.mono HB1.out.size))
  have HX2 := Lib.hid (HX1.out.below hb2 HX1.out.lt)
  have HY2 := Lib.hid (HY1.out.below hb2 HY1.out.lt)
  have HZ2 := Lib.hid (HZ1.out.below hb2 HZ1.out.lt)
  have HSZ2 := Lib.hid (Nat.le_trans HSZ1.out hb2.size)
  clear hb2 HC2 HB1 HX1 HY1 HZ1 c0 c1 c2
  have c1 : w2.cell? ⟨w.heap.size, 1, none⟩ = some (.string ⟨p.to_.toArray⟩) := HX2.out.cell 1
  have d0 : w2.cell? ⟨w.heap.size + 1, 0, none⟩ = some (.string ⟨q.from_.toArray⟩) := HY2.out.cell 0
  have d2 : w2.cell? ⟨w.heap.size + 1, 2, none⟩ = some (.slice q.A q.edits.length q.c) := HY2.out.cell 2
  have hmb : w.heap.size + 3 ≤ w2.heap.size := by have := HSZ2.out; have := HSZ.out; omega
  have HJ : Hid (JS w w2.heap.size p q [] [] (w2.alloc (.cells #[.slice none 0 0, .pointer none, .slice none 0 0] 90))) := ⟨MKat.new w2 (Nat.le_refl _), HX2.out.alloc _, HY2.out.alloc _, HZ2.out.alloc _, HB2.out.alloc HB2.out.size _, hmb⟩
  have d2' : (w2.alloc (.cells #[.slice none 0 0, .pointer none, .slice none 0 0] 90)).cell? ⟨w.heap.size + 1, 2, none⟩ = some (.slice q.A q.edits.length q.c) := HJ.out.qx.cell 2
  clear HX2 HY2 HZ2 HB2 HSZ HSZ1 HSZ2
  go_wp2_with fail
  generalize (w2.alloc (.cells #[.slice none 0 0, .pointer none, .slice none 0 0] 90)) = w3 at HJ ⊢
  generalize w2.heap.size = mb at HJ hmb ⊢
  have HT0 : Hid ((0 : Int) + totalI (q.edits.drop 0) ≤ 16777216) := Lib.hid (by rw [List.drop_zero]; omega)
  go_loopw [27] (fun vi wr => ∃ (i : Nat) (es : List EditD) (acc : List UInt8) (T : Int), vi = .int .i64 i ∧ i ≤ q.edits.length ∧ Hid (RES = joinF p.edits (q.edits.drop i) es acc) ∧ Hid (MkOk T es acc) ∧ Hid (T + totalI (q.edits.drop i) ≤ 16777216) ∧ Hid (JS w mb p q es acc wr)) (fun vi _ => q.edits.length - (intOf vi).toNat)
  case atStart => exact ⟨0, [], [], 0, rfl, Nat.zero_le _, HRES, ⟨by simp, rfl⟩, HT0, HJ⟩
  case round =>
    clear HRES HJ HT0 hnb hqt
    obtain ⟨i, es, acc, T, rfl, hi, HRES, HMK, HT, HJ⟩ := hrel
    by_cases hil : i < q.edits.length
    · obtain ⟨bb, off, hA, _, x0, x1, x2⟩ := cells_of_edit (HQO.out.cells.below (HJ.out.below.mono hB)) hil
      have HD := Lib.hid (List.drop_eq_getElem_cons hil)
      have HE := Lib.hid (HQE.out _ (List.getElem_mem hil))
      rw [HD.out] at HRES HT
      generalize q.edits[i]'hil = e at x0 x1 x2 HE HRES HT
      have HCP := Lib.hid (copied_any e)
      have HEC := Lib.hid (rightE_cases HE.out)
      have HJF : Hid (joinF p.edits (e :: q.edits.drop (i + 1)) es acc = if e.text.isEmpty then (if (followL p.edits es acc e.from_ e.size).1 then joinF p.edits (q.edits.drop (i + 1)) (followL p.edits es acc e.from_ e.size).2.1 (followL p.edits es acc e.from_ e.size).2.2 else (false, (es, acc))) else joinF p.edits (q.edits.drop (i + 1)) es (acc ++ e.text)) := rfl
      rw [HJF.out] at HRES
      have hT := HT.out
      rw [totalI_cons] at hT
      have hT0 := HMK.out.nonneg
      have hle := (rightE_EOk HE.out).len
      have htd := EOk.length_le (es := q.edits.drop (i + 1)) (fun x hx => rightE_EOk (HQE.out x (List.mem_of_mem_drop hx)))
      clear HD HJF HT HE
      obtain ⟨ef, ez, et⟩ := e
      simp only at x0 x1 x2 HRES
      simp only [EditD.parts] at HCP
      have HJA := Lib.hid (HJ.out.keep ((Below.refl _ _).alloc (Nat.le_refl _) (.cells #[.int .i64 ef, .int .i64 ez, .string ⟨et.toArray⟩] 56)))
      have HXA := Lib.hid (Blk.new wr 56 #[.int .i64 ef, .int .i64 ez, .string ⟨et.toArray⟩])
      rw [hA]
      clear hA HJ
      cases et with
      | nil =>
        rw [if_pos (by rfl)] at HRES
        have hcb : copiedB ⟨ef, ez, []⟩ = true := rfl
        rw [hcb] at HCP
        have hec := HEC.out
        have hef : lenI ⟨ef, ez, []⟩ = ez ∧ 0 ≤ ef ∧ ef ≤ 16777216 ∧ 1 ≤ ez := by
          rcases hec with ⟨_, b', c', d', g', k'⟩ | ⟨a', _⟩
          · (try simp only at b' c' d' g' k'); exact ⟨k', by omega, by omega, by omega⟩
          · exact absurd rfl a'
        obtain ⟨he1, he2, he3, he4⟩ := hef
        rw [he1] at hT
        have HFO := Lib.hid (fun (wx : World) (hj : JS w mb p q es acc wx) => follow_any (B := mb) (b := mb) p.edits es acc p.A p.c T ef ez wx hj.mkr (Nat.le_of_lt hj.mkr.lt) ((HPO.out.cells.below (hj.below.mono hB)).more (by omega)) (by omega) HPE.out HMK.out he2 he3 he4 (by omega))
        have HFK := Lib.hid (fun hk => followL_ok p.edits es acc ef ez T HMK.out HPE.out he2 he4 hk)
        unfold FollowPost at HFO
        generalize followL p.edits es acc ef ez = FR at HFO HRES HFK
        obtain ⟨fb, fe, fa⟩ := FR
        simp only at HFO HRES HFK
        clear hec hcb HEC he1 hle
        go_wp2_with fail
        refine (HCP.out _).mono ?_
        rintro r w4 ⟨rfl, hb4⟩
        have HJ4 := Lib.hid (HJA.out.keep hb4)
        have HX4 := Lib.hid (HXA.out.below hb4 HXA.out.lt)
        clear hb4 HJA HXA HCP
        have e0 : w4.cell? ⟨wr.heap.size, 0, none⟩ = some (.int .i64 ef) := HX4.out.cell 0
        have e1 : w4.cell? ⟨wr.heap.size, 1, none⟩ = some (.int .i64 ez) := HX4.out.cell 1
        have p2 : w4.cell? ⟨w.heap.size, 2, none⟩ = some (.slice p.A p.edits.length p.c) := HJ4.out.px.cell 2
        have HF4 := Lib.hid (HFO.out w4 HJ4.out)
        clear HFO
        go_wp2_with fail
        refine (HF4.out).mono ?_
        rintro r w5 ⟨rfl, hm5, hb5⟩
        have HJ5 := Lib.hid (HJ4.out.to_ hm5 hb5)
        clear hm5 hb5 HF4 HJ4 HX4 e0 e1 p2
        cases fb with
        | false =>
          have HV : Hid (RES = (false, (es, acc))) := Lib.hid (by rw [HRES.out]; rfl)
          have y0 : w5.cell? ⟨w.heap.size + 2, 0, none⟩ = some (.string ⟨#[]⟩) := HJ5.out.rx.cell 0
          have y1 : w5.cell? ⟨w.heap.size + 2, 1, none⟩ = some (.string ⟨#[]⟩) := HJ5.out.rx.cell 1
          have y2 : w5.cell? ⟨w.heap.size + 2, 2, none⟩ = some (.slice none 0 0) := HJ5.out.rx.cell 2
          have f0 := HJ5.out.rx.frozen 0
          have f1 := HJ5.out.rx.frozen 1
          have f2 := HJ5.out.rx.frozen 2
          go_wp2
          refine bodyPost_ret (v := .tuple #[.agg #[.string ⟨#[]⟩, .string ⟨#[]⟩, .slice none 0 0], .int .i64 2]) (by simp [results, Tryd.results17, go_sem, y0, y1, y2]) rfl ?_
          have hR2 : RR = (PD.nil, 2) := by rw [HRR.out, HV.out]; rfl
          rw [hR2]
          exact ⟨PatchD.nil, rfl, rfl, PatchD.nil_ok _ _, ((HJ5.out.below.setCell (p := ⟨w.heap.size + 2, 0, none⟩) (by show w.heap.size ≤ w.heap.size + 2; omega) _).setCell (p := ⟨w.heap.size + 2, 1, none⟩) (by show w.heap.size ≤ w.heap.size + 2; omega) _).setCell (p := ⟨w.heap.size + 2, 2, none⟩) (by show w.heap.size ≤ w.heap.size + 2; omega) _⟩
        | true =>
          have HV : Hid (RES = joinF p.edits (q.edits.drop (i + 1)) fe fa) := Lib.hid (by rw [HRES.out]; rfl)
          have HMK5 := Lib.hid (HFK.out rfl)
          have HT5 : Hid (T + ez + totalI (q.edits.drop (i + 1)) ≤ 16777216) := Lib.hid (by omega)
          clear HFK
          go_wp2
          go_roundw
          case rel => exact ⟨i + 1, fe, fa, T + ez, by go_num, by omega, HV, HMK5, HT5, HJ5⟩
          case measure => simp [intOf]; omega
      | cons y yt =>
        rw [if_neg (by simp)] at HRES
        have hcb : copiedB ⟨ef, ez, y :: yt⟩ = false := rfl
        rw [hcb] at HCP
        have hec := HEC.out
        have hef : lenI ⟨ef, ez, y :: yt⟩ = ((y :: yt).length : Int) ∧ (y :: yt).length ≤ 65536 := by
          rcases hec with ⟨a', _⟩ | ⟨_, b', c', d', g'⟩
          · simp at a'
          · exact ⟨g', d'⟩
        obtain ⟨he1, he2⟩ := hef
        rw [he1] at hT
        have hsmall := HMK.out.small (by omega)
        have hal := hsmall.2.2
        generalize hyt : y :: yt = t at HCP HRES HJA HXA x2 he1 he2 hT
        have HMK5 := Lib.hid (HMK.out.text t)
        have HT5 : Hid (T + (t.length : Int) + totalI (q.edits.drop (i + 1)) ≤ 16777216) := Lib.hid (by omega)
        clear hec hcb HEC he1 hle hyt hsmall
        go_wp2_with fail
        refine (HCP.out _).mono ?_
        rintro r w4 ⟨rfl, hb4⟩
        have HJ4 := Lib.hid (HJA.out.keep hb4)
        have HX4 := Lib.hid (HXA.out.below hb4 HXA.out.lt)
        clear hb4 HJA HXA HCP
        have e2 : w4.cell? ⟨wr.heap.size, 2, none⟩ = some (.string ⟨t.toArray⟩) := HX4.out.cell 2
        have HW := Lib.hid (HJ4.out.mkr.write t (by omega) (Nat.le_of_lt HJ4.out.mkr.lt))
        unfold str at HW
        go_wp2_with fail
        refine (HW.out).mono ?_
        rintro r w5 ⟨rfl, hm5, hb5⟩
        have HJ5 := Lib.hid (HJ4.out.to_ hm5 hb5)
        clear hm5 hb5 HW HJ4 HX4 e2
        go_wp2
        go_roundw
        case rel => exact ⟨i + 1, es, acc ++ t, T + (t.length : Int), by go_num, by omega, HRES, HMK5, HT5, HJ5⟩
        case measure => simp [intOf]; omega
    · obtain rfl : i = q.edits.length := by omega
      rw [List.drop_length] at HRES
      have HV : Hid (RES = (true, (es, acc))) := HRES
      have hsmall := HMK.out.small (by have := HT.out; rw [List.drop_length] at this; simpa [totalI] using this)
      have HFL := Lib.hid (flush_any HJ.out.mkr (Nat.le_of_lt HJ.out.mkr.lt) (by have := hsmall.2.1; omega) (by have := hsmall.2.2; omega))
      have HMF := Lib.hid HMK.out.flush
      have HFS := Lib.hid (HMF.out.small (by have := HT.out; rw [List.drop_length] at this; simpa [totalI] using this))
      clear hsmall
      have HPQ : Hid (flushL es acc = flushL RES.2.1 RES.2.2) := Lib.hid (by rw [HV.out])
      generalize flushL es acc = fl at HFL HMF HFS HPQ
      go_wp2_with fail
      refine (HFL.out).mono ?_
      rintro r w4 ⟨rfl, hm4, hb4⟩
      have HJ4 := Lib.hid (HJ.out.to_ hm4 hb4)
      obtain ⟨cs, v, hm⟩ := hm4
      obtain ⟨A4, c4, rfl⟩ := own_shape hm.own
      have HM4 := Lib.hid hm
      clear hm hb4 HFL HJ
      have g0 : w4.cell? ⟨mb, 0, none⟩ = some (.slice A4 fl.length c4) := (HM4.out.bat.blk.cell 0).trans HM4.out.head
      have p0 : w4.cell? ⟨w.heap.size, 0, none⟩ = some (.string ⟨p.from_.toArray⟩) := HJ4.out.px.cell 0
      have q1 : w4.cell? ⟨w.heap.size + 1, 1, none⟩ = some (.string ⟨q.to_.toArray⟩) := HJ4.out.qx.cell 1
      have HRO : Hid (PatchD.Ok w4 w4.heap.size ⟨p.from_, q.to_, A4, c4, fl⟩) := Lib.hid ⟨HPO.out.from_, HQO.out.to_, by show fl.length ≤ _; have := HFS.out.2.1; omega, Reads.of_own HM4.out.own, fun e he => by
        have h1 := HFS.out.1 e he
        have h2 := EOk.le_total HMF.out.ok e he
        have h3 := HMF.out.tot
        have h4 := HT.out
        rw [List.drop_length] at h4
        simp only [totM, List.length_nil, totalI_nil] at h3 h4
        have h5 : (e.text.length : Int) ≤ lenI e := by unfold lenI; omega
        have ⟨k1, k2, k3, k4⟩ := h1
        exact ⟨⟨by omega, by omega⟩, ⟨by omega, by omega⟩, by unfold maxLen; omega⟩⟩
      have HFI := Lib.hid (fitting_any ⟨p.from_, q.to_, A4, c4, fl⟩ w4.heap.size w4 HRO.out (Nat.le_refl _))
      have HFP : Hid (∀ w', (⟨p.from_, q.to_, A4, c4, fl⟩ : PatchD).Ok w' w'.heap.size → (fitP ⟨p.from_, q.to_, A4, c4, fl⟩).Ok w' w'.heap.size) := fun w' h => by
        unfold fitP
        split
        · exact h
        · exact PatchD.nil_ok _ _
      have HPD : Hid (((fitP ⟨p.from_, q.to_, A4, c4, fl⟩).pd, fitE ⟨p.from_, q.to_, A4, c4, fl⟩) = fitR ⟨p.from_, q.to_, flushL RES.2.1 RES.2.2⟩) := Lib.hid (by rw [← HPQ.out]; exact fitP_pd _)
      generalize fitE ⟨p.from_, q.to_, A4, c4, fl⟩ = FE at HFI HPD
      generalize fitP ⟨p.from_, q.to_, A4, c4, fl⟩ = FP at HFI HPD HFP
      have HRG : Hid (∀ w', Below w4.heap.size w4 w' → ∀ a b c, PatchD.Ok (((w'.setCell ⟨w.heap.size + 2, 0, none⟩ a).setCell ⟨w.heap.size + 2, 1, none⟩ b).setCell ⟨w.heap.size + 2, 2, none⟩ c) w'.heap.size ⟨p.from_, q.to_, A4, c4, fl⟩) := fun w' hb a b c => by
        refine ⟨HRO.out.from_, HRO.out.to_, HRO.out.len, ?_, HRO.out.edits⟩
        have hown := own_below HM4.out.own hb (Nat.le_refl _)
        have hrx : Blk w' (w.heap.size + 2) 24 #[.string ⟨#[]⟩, .string ⟨#[]⟩, .slice none 0 0] := HJ4.out.rx.below hb HJ4.out.rx.lt
        have h1 := ownsRow_setCell_other (a := ⟨w.heap.size + 2, 0, none⟩) hown (own_ne hown hrx (by decide)) a
        have hrx1 := hrx.set_ 0 a
        have h2 := ownsRow_setCell_other (a := ⟨w.heap.size + 2, 1, none⟩) h1 (own_ne h1 hrx1 (by decide)) b
        have hrx2 := hrx1.set_ 1 b
        have h3 := ownsRow_setCell_other (a := ⟨w.heap.size + 2, 2, none⟩) h2 (own_ne h2 hrx2 (by decide)) c
        have h4 := Reads.of_own h3
        have hs : (((w'.setCell ⟨w.heap.size + 2, 0, none⟩ a).setCell ⟨w.heap.size + 2, 1, none⟩ b).setCell ⟨w.heap.size + 2, 2, none⟩ c).heap.size = w'.heap.size := by simp [World.setCell]
        rw [hs] at h4
        exact h4
      obtain ⟨ff, ft, fA, fc, fl2⟩ := FP
      simp only [PatchD.parts] at HFI
      go_wp2_with fail
      refine (HFI.out).mono ?_
      rintro r w5 ⟨rfl, hb5⟩
      have HJ5 := Lib.hid (HJ4.out.keep hb5)
      have HG5 := Lib.hid (HRG.out w5 hb5)
      clear hb5 HFI HRG HJ4 g0 p0 q1
      have y0 : w5.cell? ⟨w.heap.size + 2, 0, none⟩ = some (.string ⟨#[]⟩) := HJ5.out.rx.cell 0
      have y1 : w5.cell? ⟨w.heap.size + 2, 1, none⟩ = some (.string ⟨#[]⟩) := HJ5.out.rx.cell 1
      have y2 : w5.cell? ⟨w.heap.size + 2, 2, none⟩ = some (.slice none 0 0) := HJ5.out.rx.cell 2
      have f0 := HJ5.out.rx.frozen 0
      have f1 := HJ5.out.rx.frozen 1
      have f2 := HJ5.out.rx.frozen 2
      go_wp2
      refine bodyPost_ret (v := .tuple #[.agg #[.string ⟨ff.toArray⟩, .string ⟨ft.toArray⟩, .slice fA fl2.length fc], .int .i64 FE]) (by simp [results, Tryd.results17, go_sem, y0, y1, y2]) rfl ?_
      have hR := HPD.out
      rw [HRR.out, if_pos (by rw [HV.out]), ← hR]
      refine ⟨⟨ff, ft, fA, fc, fl2⟩, rfl, rfl, HFP.out _ ?_, ((HJ5.out.below.setCell (p := ⟨w.heap.size + 2, 0, none⟩) (by show w.heap.size ≤ w.heap.size + 2; omega) _).setCell (p := ⟨w.heap.size + 2, 1, none⟩) (by show w.heap.size ≤ w.heap.size + 2; omega) _).setCell (p := ⟨w.heap.size + 2, 2, none⟩) (by show w.heap.size ≤ w.heap.size + 2; omega) _⟩
      have hsz : (((w5.setCell ⟨w.heap.size + 2, 0, none⟩ (.string ⟨ff.toArray⟩)).setCell ⟨w.heap.size + 2, 1, none⟩ (.string ⟨ft.toArray⟩)).setCell ⟨w.heap.size + 2, 2, none⟩ (.slice fA fl2.length fc)).heap.size = w5.heap.size := by simp [World.setCell]
      rw [hsz]
      exact HG5.out _ _ _

/-- Join. -/
theorem Join_any (p q : PatchD) (B : Nat) (w : World) (hp : p.Ok w B) (hq : q.Ok w B) (hB : B ≤ w.heap.size) :
    Calls Tryd.prog 17 #[.agg p.parts.toArray, .agg q.parts.toArray] w (PatchPost (joinR p.pd q.pd) w) := by
  have hno : ∀ (n : Int) (r : Ending) (w' : World), (r = .returned (.tuple #[.agg #[.string ⟨#[]⟩, .string ⟨#[]⟩, .slice none 0 0], .int .i64 n]) ∧ Below w.heap.size w w') → PatchPost (PD.nil, n) w r w' := fun n r w' ⟨h1, h2⟩ => ⟨PatchD.nil, h1, rfl, PatchD.nil_ok _ _, h2⟩
  unfold joinR
  cases hr : rightPB p with
  | false =>
    have e : rightPD p.pd = false := hr
    rw [e, if_pos (by rfl)]
    exact (join_no1 p q B w hp hq hB hr).mono fun r w' h => hno 2 r w' h
  | true =>
    have e : rightPD p.pd = true := hr
    cases hs : rightPB q with
    | false =>
      have e2 : rightPD q.pd = false := hs
      rw [e, e2, if_pos (by rfl)]
      exact (join_no2 p q B w hp hq hB hr hs).mono fun r w' h => hno 2 r w' h
    | true =>
      have e2 : rightPD q.pd = true := hs
      rw [e, e2, if_neg (by decide)]
      by_cases heq : p.to_ = q.from_
      · rw [if_neg (by simpa [PatchD.pd] using heq)]
        exact join_go p q B w hp hq hB hr hs heq
      · rw [if_pos (by simpa [PatchD.pd] using heq)]
        exact (join_arg p q B w hp hq hB hr hs heq).mono fun r w' h => hno 1 r w' h

end Go.Proofs.YtefgajipakjpeaaDoor
