/-
  Contract of patch.Read. Condition: the string is at most 2^20 bytes long.
-/
import Derived.Test.YtefgajipakjpeaaDoorPat
import Derived.Deep.RegionLaw
namespace Go.Proofs.YtefgajipakjpeaaDoor
open Go.RowKit

theorem editInfo : (Tryd.prog.info? 56).map (fun i => (i.zero, i.size, i.bytes)) = some (some (.agg #[.int .i64 0, .int .i64 0, .string ByteArray.empty]), 3, 32) := by kernel_rfl

theorem own_shape {w : World} {B s : Nat} {e : TypeId} {v : Value} {n : Nat} {xs : List Value} (h : w.ownsRow B e s v n xs) : ∃ A c, v = .slice A n c := by
  rcases h.2 with ⟨hv, hn⟩ | ⟨g, cap, cur, hv, _⟩
  · exact ⟨none, 0, by rw [hv, hn]⟩
  · exact ⟨_, _, hv⟩
theorem own_ne {w : World} {B s : Nat} {e t : TypeId} {v : Value} {n g : Nat} {cs : Array Value} {xs : List Value} (h : w.ownsRow B e s v n xs) (hb : Blk w g t cs) (hne : t ≠ e) : v.ownBlock ≠ some g := by
  intro hv
  rcases h.2 with ⟨rfl, _⟩ | ⟨g', cap, cur, rfl, _, hg, _⟩
  · simp [Value.ownBlock] at hv
  · simp only [Value.ownBlock, Option.some.injEq] at hv
    subst hv
    unfold Blk at hb
    rw [hb] at hg
    injection hg with hg
    injection hg with _ h2 _
    exact hne h2
theorem own_only {w w' : World} {B s : Nat} {e t : TypeId} {v : Value} {n g : Nat} {cs : Array Value} {xs : List Value} (h : w.ownsRow B e s v n xs) (hb : Blk w g t cs) (hne : t ≠ e) (ho : w.grownBy w' (some g)) : w'.ownsRow B e s v n xs :=
  h.kept ho (.inr (own_ne h hb hne))
theorem own_below {w w' : World} {B B' s : Nat} {e : TypeId} {v : Value} {n : Nat} {xs : List Value} (h : w.ownsRow B e s v n xs) (hb : Below B' w w') (hB : w.heap.size ≤ B') : w'.ownsRow B e s v n xs := by
  refine h.kept (row := none) ⟨hb.os, hb.tape, hb.output, hb.size, fun k hk _ => hb.block k (by omega)⟩ ?_
  cases hv : v.ownBlock with
  | none => exact .inl rfl
  | some x => exact .inr (by simp)
theorem step_append_own {P : Program} {w : World} {ops : Array Oper} {o : Oper} {a : Act} {K : Act → World → Prop} {Q : Exit → Act → World → Prop} {E : Prop} (hgd : o.guard = none) (s x : Operand) (t : TypeId)
    (ho : o.op = .call { callee := .builtin .append, args := #[s, x], argTypes := #[t, t] })
    (base : Nat) (e : TypeId) (i : TypeInfo) (z : Value) (size bytes : Nat) (ht : P.underlying t = some (.slice e)) (hi : P.info? e = some i) (hz : i.zero = some z)
    (hsize : i.size = size) (hby : i.bytes = bytes) (hzs : z.cells.size = size) (hsz : 0 < size)
    (v : Value) (n : Nat) (xs : List Value) (hs : a.eval s = v) (hown : w.ownsRow base e size v n xs)
    (ad : Addr) (m c : Nat) (news : List Value) (hx : a.eval x = .slice (some ad) m c) (hl : news.length = m * size) (hnews : ∀ j u, news[j]? = some u → w.cell? (ad.add j) = some u) (h1 : ∀ u ∈ news, u.oneCell' = true)
    (h63 : n + m ≤ maxLen) (hbytes : (n + m) * bytes ≤ 140737488355328) (hbase : base ≤ w.heap.size)
    (h : ∀ v' w', w'.ownsRow base e size v' (n + m) (xs ++ news) → w.grownBy w' v.ownBlock → K (a.put o.dst v') w') :
    if Region.wanted o (yielded ops a.tmps) = true then Oper.wp P o a w K Q else E := by
  have hw : Region.wanted o (yielded ops a.tmps) = true := by simp [Region.wanted, hgd]
  rw [if_pos hw]
  exact wp_append_own w s x t ho base e i z size bytes ht hi hz hsize hby hzs hsz v n xs hs hown ad m c news hx hl hnews h1 h63 hbytes hbase fun v' w' h2 h3 _ => h v' w' h2 h3
/-- A call of a Go function as a step of a region that draws. -/
theorem step_call {P : Program} {ops : Array Oper} {o : Oper} {a : Act} {w : World} {K : Act → World → Prop} {Q : Exit → Act → World → Prop} {E : Prop}
    (hg : o.guard = none) (f : FuncId) (xs : Array Operand) (ts : Array TypeId) (ho : o.op = .call { callee := .value (.func f), args := xs, argTypes := ts }) (hr : ∀ (vs : Array Value) (w : World), (callFunc f vs).run P w = .ok (.enter f vs) w) (vs : Array Value) (hv : xs.map a.eval = vs)
    {R : Ending → World → Prop} (hc : Calls P f vs w R) (h : ∀ e w', R e w' → ∃ v, e = .returned v ∧ K (a.put o.dst v) w') :
    if Region.wanted o (yielded ops a.tmps) = true then Oper.wp P o a w K Q else E := by
  have hw : Region.wanted o (yielded ops a.tmps) = true := by simp [Region.wanted, hg]
  rw [if_pos hw]
  unfold Oper.wp
  have e : (execOp a.eval o).run P w = .ok (.enter f vs) w := by
    obtain ⟨dst, op, ty, pos, after, guard⟩ := o
    simp only at ho
    subst ho
    rw [execOp_call_go, hv]
    have e2 : #[] ++ vs ++ #[] = vs := by simp
    rw [e2, hr]
  rw [e, Oper.upon_enter]
  refine hc.mono ?_
  intro e w' hR
  obtain ⟨v, rfl, hk⟩ := h e w' hR
  exact hk
theorem edit_one (e : EditD) : ∀ v ∈ e.parts, v.oneCell' = true := by
  intro v hv
  simp only [EditD.parts, List.mem_cons, List.not_mem_nil, or_false] at hv
  rcases hv with rfl | rfl | rfl <;> rfl

/-- The state of Read's loop: the reader, the patch's block, the row of its edits. -/
structure RS (w0 : World) (g pb : Nat) (f t : List UInt8) (acc : List EditD) (v : Value) (st : St) (wr : World) : Prop where
  rd : Rd wr g st
  blk : Blk wr pb 24 #[.string ⟨f.toArray⟩, .string ⟨t.toArray⟩, v]
  own : wr.ownsRow w0.heap.size 56 3 v acc.length (acc.flatMap EditD.parts)
  below : Below w0.heap.size w0 wr
  hg : w0.heap.size ≤ g
  hp : w0.heap.size ≤ pb

section
variable {w0 wr w1 w2 : World} {g pb : Nat} {f t : List UInt8} {acc : List EditD} {v : Value} {st st1 : St}
theorem RS.ne_ (h : RS w0 g pb f t acc v st wr) : pb ≠ g := Blk.ne_ h.blk h.rd (by decide)
theorem RS.drew (h : RS w0 g pb f t acc v st wr) : RS w0 g pb f t acc v st wr.drew :=
  ⟨h.rd.drew, h.blk.drew, own_below h.own ((Below.refl _ _).drew (B := wr.heap.size)) (Nat.le_refl _), h.below.drew, h.hg, h.hp⟩
theorem RS.to_ (h : RS w0 g pb f t acc v st wr) (k : RdTo wr w1 g st1) : RS w0 g pb f t acc v st1 w1 :=
  ⟨k.rd, h.blk.grown k.only (by simpa using h.ne_), own_only h.own h.rd (by decide) k.only, h.below.grown k.only h.below.size (fun x hx => by injection hx with hx; have := h.hg; omega), h.hg, h.hp⟩
theorem RS.app_blk {o : Obj} (h : RS w0 g pb f t acc v st wr) (hg : (wr.alloc o).grownBy w2 v.ownBlock) : Blk w2 pb 24 #[.string ⟨f.toArray⟩, .string ⟨t.toArray⟩, v] :=
  (h.blk.alloc o).grown hg (fun e => own_ne h.own h.blk (by decide) e.symm)
theorem RS.app {o : Obj} {e : EditD} {v' : Value} (h : RS w0 g pb f t acc v st wr) (hg : (wr.alloc o).grownBy w2 v.ownBlock) (hown : w2.ownsRow w0.heap.size 56 3 v' (acc.length + 1) (acc.flatMap EditD.parts ++ e.parts)) :
    RS w0 g pb f t (acc ++ [e]) v' st (w2.setCell ⟨pb, 2, none⟩ v') := by
  have hb0 : Blk (wr.alloc o) pb 24 #[.string ⟨f.toArray⟩, .string ⟨t.toArray⟩, v] := h.blk.alloc o
  have hr0 : Rd (wr.alloc o) g st := Blk.alloc h.rd o
  have hb2 : Blk w2 pb 24 #[.string ⟨f.toArray⟩, .string ⟨t.toArray⟩, v] := hb0.grown hg (fun e => own_ne h.own h.blk (by decide) e.symm)
  have hr2 : Rd w2 g st := Blk.grown hr0 hg (fun e => own_ne h.own h.rd (by decide) e.symm)
  have hown' : w2.ownsRow w0.heap.size 56 3 v' (acc ++ [e]).length ((acc ++ [e]).flatMap EditD.parts) := by
    rw [List.length_append, List.flatMap_append]
    simpa using hown
  refine ⟨Blk.far hr2 (p := ⟨pb, 2, none⟩) (fun e => h.ne_ e.symm) _, by have := hb2.set_ 2 v'; simpa using this, ?_, ?_, h.hg, h.hp⟩
  · exact ownsRow_setCell_other (a := ⟨pb, 2, none⟩) hown' (own_ne hown' hb2 (by decide)) _
  · exact ((h.below.alloc h.below.size o).grown hg (Nat.le_trans h.below.size (by simp)) (fun x hx => (h.own.lt x hx).1)).setCell (p := ⟨pb, 2, none⟩) h.hp _
end

theorem PatchD.nil_ok (w : World) (B : Nat) : (⟨[], [], none, 0, []⟩ : PatchD).Ok w B := ⟨by simp, by simp, by simp, Reads.none_, by simp⟩

/-- What Read leaves. -/
def ReadPost (l : List UInt8) (w : World) (r : Ending) (w' : World) : Prop :=
  ∃ p : PatchD, r = .returned (.tuple #[.agg p.parts.toArray, .bool (rOk l)]) ∧ p.pd = rPD l ∧ p.Ok w' w'.heap.size ∧ Below w.heap.size w w'

set_option maxHeartbeats 8000000 in
set_option maxRecDepth 100000 in
theorem Read_any (l : List UInt8) (w : World) (hl : l.length ≤ 1048576) : Calls Tryd.prog 9 #[str l] w (ReadPost l w) := by
  obtain ⟨i0, hi, hz0, hz1, hz2⟩ := info_parts editInfo
  have HOK : Hid (rOk l = ((!(rBody l).2.bad && (rBody l).2.rest.isEmpty) && decide ((rBody l).1.length = (rCount l).1))) := rfl
  have HPD : Hid (rPD l = if rOk l then ⟨(rHead1 l).1, (rHead2 l).1, (rBody l).1⟩ else PD.nil) := rfl
  have HBO : Hid (rBody l = rEdits (rCount l).1 (rCount l).2) := rfl
  have HEO := Lib.hid (rEdits_ok (rCount l).1 (rCount l).2)
  have hf1 := rText_rest_le ⟨l, false⟩
  have hf2 := rText_rest_le (rHead1 l).2
  have hf3 := rNum_rest_le (rHead2 l).2
  have hf4 := rNum_lt (rHead2 l).2
  have HOP := Lib.hid (Open_any l)
  have HT1 := Lib.hid (fun g w h hl => rText_any g ⟨l, false⟩ w h hl)
  have HT2 := Lib.hid (fun g w h hl => rText_any g (rHead1 l).2 w h hl)
  have HN := Lib.hid (fun g w h hl => rNum_any g (rHead2 l).2 w h hl)
  have h1l : (rHead1 l).1.length ≤ l.length := by
    have := rNum_rest_le ⟨l, false⟩
    unfold rHead1 rText
    split
    · simp only [List.length_take]; simp only at this; omega
    · simp
  have h2l : (rHead2 l).1.length ≤ (rHead1 l).2.rest.length := by
    have := rNum_rest_le (rHead1 l).2
    unfold rHead2 rText
    split
    · simp only [List.length_take]; omega
    · simp
  change (rHead1 l).2.rest.length ≤ l.length at hf1
  change (rHead2 l).2.rest.length ≤ _ at hf2
  change (rCount l).2.rest.length ≤ _ at hf3
  change (rCount l).1 < _ at hf4
  have E1 : Hid (rText ⟨l, false⟩ = rHead1 l) := rfl
  have E2 : Hid (rText (rHead1 l).2 = rHead2 l) := rfl
  have E3 : Hid (rNum (rHead2 l).2 = rCount l) := rfl
  rw [E1.out] at HT1
  rw [E2.out] at HT2
  rw [E3.out] at HN
  clear E1 E2 E3
  unfold ReadPost
  generalize rOk l = okb at HOK HPD ⊢
  generalize rPD l = pdv at HPD ⊢
  generalize rBody l = body at HOK HPD HBO
  generalize rCount l = cnt at HOK HBO HEO hf3 hf4 HN
  generalize rHead2 l = hd2 at HPD HT2 HN hf2 hf3 h2l
  generalize rHead1 l = hd1 at HPD HT1 HT2 hf1 hf2 h1l h2l
  obtain ⟨n, s3⟩ := cnt
  obtain ⟨t, s2⟩ := hd2
  obtain ⟨f, s1⟩ := hd1
  simp only at HOK HPD HBO HEO hf1 hf2 hf3 hf4 HN HT1 HT2 h1l h2l
  unfold str at HOP HT1 HT2 ⊢
  have hn : (n : Int) ≤ 9223372036854775807 := by omega
  clear hf4
  have HBA := Lib.hid ((Below.refl w.heap.size w).alloc (Nat.le_refl _) (.cells #[.string ⟨#[]⟩, .string ⟨#[]⟩, .slice none 0 0] 24))
  have HXA := Lib.hid (Blk.new w 24 #[.string ⟨#[]⟩, .string ⟨#[]⟩, .slice none 0 0])
  go_enter Tryd.func9, Tryd.ntmps9
  go_wp2_with fail
  refine (HOP.out _).mono ?_
  rintro r w1 ⟨rfl, hr1, hb1⟩
  have HB1 := Lib.hid (HBA.out.trans (hb1.mono (by simp)))
  have HX1 := Lib.hid (HXA.out.below hb1 HXA.out.lt)
  have hgs : w.heap.size < (w.alloc (.cells #[.string ⟨#[]⟩, .string ⟨#[]⟩, .slice none 0 0] 24)).heap.size := by simp
  clear hb1 HBA HXA HOP
  generalize (w.alloc (.cells #[.string ⟨#[]⟩, .string ⟨#[]⟩, .slice none 0 0] 24)).heap.size = g at hr1 hgs ⊢
  have HR1 := Lib.hid hr1
  have HC1 := Lib.hid (HT1.out g w1 hr1 (by omega))
  clear hr1 HT1
  go_wp2_with fail
  refine (HC1.out).mono ?_
  rintro r w2 ⟨rfl, hr2⟩
  have HR2 := Lib.hid hr2.rd
  have HB2 := Lib.hid (HB1.out.grown hr2.only HB1.out.size (fun x hx => by injection hx with hx; omega))
  have HX2 := Lib.hid (HX1.out.grown hr2.only (by simp; omega))
  have HC2 := Lib.hid (HT2.out g w2 hr2.rd (by omega))
  clear hr2 HT2 HC1 HR1 HB1 HX1
  go_wp2_with fail
  refine (HC2.out).mono ?_
  rintro r w3 ⟨rfl, hr3⟩
  have HR3 := Lib.hid hr3.rd
  have HB3 := Lib.hid (HB2.out.grown hr3.only HB2.out.size (fun x hx => by injection hx with hx; omega))
  have HX3 := Lib.hid (HX2.out.grown hr3.only (by simp; omega))
  clear hr3 HC2 HR2 HB2 HX2
  have HR4 := Lib.hid (Blk.alloc HR3.out (.cells #[.string ⟨f.toArray⟩, .string ⟨t.toArray⟩, .slice none 0 0] 24))
  have HX4 := Lib.hid (HX3.out.alloc (.cells #[.string ⟨f.toArray⟩, .string ⟨t.toArray⟩, .slice none 0 0] 24))
  have HB4 := Lib.hid (HB3.out.alloc HB3.out.size (.cells #[.string ⟨f.toArray⟩, .string ⟨t.toArray⟩, .slice none 0 0] 24))
  have HP4 := Lib.hid (Blk.new w3 24 #[.string ⟨f.toArray⟩, .string ⟨t.toArray⟩, .slice none 0 0])
  have HC3 := Lib.hid (HN.out g _ HR4.out (by omega))
  have hpb := HX3.out.lt
  clear HN HR3 HX3 HB3
  go_wp2_with fail
  refine (HC3.out).mono ?_
  rintro r w5 ⟨rfl, hr5⟩
  generalize hpe : w3.heap.size = pb at HP4 hpb ⊢
  have HRS : Hid (RS w g pb f t [] (.slice none 0 0) s3 w5) :=
    ⟨hr5.rd, HP4.out.grown hr5.only (by simpa using (Blk.ne_ HP4.out HR4.out (by decide))), World.ownsRow_nil _ _ _ _, HB4.out.grown hr5.only HB4.out.size (fun x hx => by injection hx with hx; omega), by omega, by omega⟩
  have HX5 : Hid (Blk w5 w.heap.size 24 #[.string ⟨#[]⟩, .string ⟨#[]⟩, .slice none 0 0]) := HX4.out.grown hr5.only (by simp; omega)
  clear hr5 HC3 HR4 HX4 HB4 HP4 hpe
  go_wp2_with fail
  go_loopw [7] (fun vi wr => ∃ (i : Nat) (acc : List EditD) (v : Value) (st : St), vi = .int .i64 i ∧ Hid (RS w g pb f t acc v st wr) ∧ Hid (Blk wr w.heap.size 24 #[.string ⟨#[]⟩, .string ⟨#[]⟩, .slice none 0 0]) ∧ CameE 1048576 n s3 i acc st) (fun vi _ => n - (intOf vi).toNat)
  case atStart => exact ⟨0, [], _, s3, rfl, HRS, HX5, CameE.start (by omega)⟩
  case round =>
    clear HRS HX5
    obtain ⟨i, acc, v, st, rfl, HRS, HX, hce⟩ := hrel
    have HCE := Lib.hid hce
    have hle := hce.le
    have hfit := hce.fits
    have HAL := Lib.hid hce.len
    have hal : acc.length ≤ 1048576 := by omega
    clear hce
    obtain ⟨A, c, rfl⟩ := own_shape HRS.out.own
    have c2 : wr.cell? ⟨pb, 2, none⟩ = some (.slice A acc.length c) := HRS.out.blk.cell 2
    by_cases hin : i < n
    · have hi0 : (0 : Int) ≤ (i : Int) := by omega
      have HLF := Lib.hid (Left_any g st wr HRS.out.rd)
      by_cases hre : st.rest = []
      · have HST := Lib.hid (HCE.out.stop (.inr hre))
        have hml : st.rest.length = 0 := by rw [hre]; rfl
        rw [hml] at HLF
        clear hre hml
        go_wp2_with fail
        refine (HLF.out).mono ?_
        rintro r w8 ⟨rfl, rfl⟩
        have HBD : Hid (body = (acc, st)) := Lib.hid (by rw [HBO.out]; exact HST.out)
        have HAO : Hid (∀ e ∈ acc, e.Ok) := Lib.hid (by have h := HEO.out (by unfold maxLen; omega); rw [HST.out] at h; exact h)
        have HKD : Hid (okb = ((!st.bad && st.rest.isEmpty) && decide (acc.length = n))) := Lib.hid (by rw [HOK.out, HBD.out])
        have HPV : Hid (okb = true → pdv = ⟨f, t, acc⟩) := fun h => by rw [HPD.out, if_pos h, HBD.out]
        have HPN : Hid (okb = false → pdv = PD.nil) := fun h => by rw [HPD.out, if_neg (by rw [h]; decide)]
        have HDN := Lib.hid (Done_any g st wr HRS.out.rd)
        generalize (!st.bad && st.rest.isEmpty) = d at HDN HKD
        have b0 : wr.cell? ⟨pb, 0, none⟩ = some (.string ⟨f.toArray⟩) := HRS.out.blk.cell 0
        have b1 : wr.cell? ⟨pb, 1, none⟩ = some (.string ⟨t.toArray⟩) := HRS.out.blk.cell 1
        have y0 : wr.cell? ⟨w.heap.size, 0, none⟩ = some (.string ⟨#[]⟩) := HX.out.cell 0
        have y1 : wr.cell? ⟨w.heap.size, 1, none⟩ = some (.string ⟨#[]⟩) := HX.out.cell 1
        have y2 : wr.cell? ⟨w.heap.size, 2, none⟩ = some (.slice none 0 0) := HX.out.cell 2
        have f0 := HX.out.frozen 0
        have f1 := HX.out.frozen 1
        have f2 := HX.out.frozen 2
        have HBE : Hid (∀ a b c, Below w.heap.size w (((wr.setCell ⟨w.heap.size, 0, none⟩ a).setCell ⟨w.heap.size, 1, none⟩ b).setCell ⟨w.heap.size, 2, none⟩ c)) := fun a b c => ((HRS.out.below.setCell (p := ⟨w.heap.size, 0, none⟩) (Nat.le_refl _) _).setCell (p := ⟨w.heap.size, 1, none⟩) (Nat.le_refl _) _).setCell (p := ⟨w.heap.size, 2, none⟩) (Nat.le_refl _) _
        cases d with
        | false =>
          have HKF : Hid (okb = false) := Lib.hid (by rw [HKD.out]; rfl)
          go_wp2_with fail
          refine (HDN.out).mono ?_
          rintro r w9 ⟨rfl, rfl⟩
          go_wp2
          refine bodyPost_ret (v := .tuple #[.agg #[.string ⟨#[]⟩, .string ⟨#[]⟩, .slice none 0 0], .bool false]) (by simp [results, Tryd.results9, go_sem, y0, y1, y2]) rfl ⟨⟨[], [], none, 0, []⟩, by rw [HKF.out] <;> rfl, by rw [HPN.out HKF.out] <;> rfl, PatchD.nil_ok _ _, HBE.out _ _ _⟩
        | true =>
          by_cases han : acc.length = n
          · have HKT : Hid (okb = true) := Lib.hid (by rw [HKD.out]; simp [han])
            have hnb : ((acc.length : Int) != (n : Int)) = false := by simp [han]
            have HAN := Lib.hid han
            clear han
            go_wp2_with fail
            refine (HDN.out).mono ?_
            rintro r w9 ⟨rfl, rfl⟩
            go_wp2
            refine bodyPost_ret (v := .tuple #[.agg #[.string ⟨f.toArray⟩, .string ⟨t.toArray⟩, .slice A acc.length c], .bool true]) (by simp [results, Tryd.results9, go_sem, y0, y1, y2]) rfl ⟨⟨f, t, A, c, acc⟩, by rw [HKT.out] <;> rfl, by rw [HPV.out HKT.out] <;> rfl, ?_, HBE.out _ _ _⟩
            refine ⟨by unfold maxLen; show f.length ≤ _; omega, by unfold maxLen; show t.length ≤ _; omega, by show acc.length ≤ _; omega, ?_, HAO.out⟩
            have h1 := Reads.of_own HRS.out.own
            have hne : ∀ ad, A = some ad → ad.block ≠ w.heap.size := fun ad he => by
              subst he
              exact fun e => own_ne HRS.out.own HX.out (by decide) (by simp [Value.ownBlock, e])
            have h2 : Reads (((wr.setCell ⟨w.heap.size, 0, none⟩ (.string ⟨f.toArray⟩)).setCell ⟨w.heap.size, 1, none⟩ (.string ⟨t.toArray⟩)).setCell ⟨w.heap.size, 2, none⟩ (.slice A acc.length c)) wr.heap.size 3 A acc.length (acc.flatMap EditD.parts) := by
              refine ⟨h1.1, fun hn => ?_⟩
              obtain ⟨ad, he, hb, hc⟩ := h1.2 hn
              refine ⟨ad, he, hb, fun j u hu => ?_⟩
              have hbl : (ad.add j).block ≠ w.heap.size := by rw [block_of_add]; exact hne ad he
              rw [World.cell?_setCell_other _ _ _ _ (fun e => hbl (by have := congrArg Addr.block e; simp only at this; omega)), World.cell?_setCell_other _ _ _ _ (fun e => hbl (by have := congrArg Addr.block e; simp only at this; omega)), World.cell?_setCell_other _ _ _ _ (fun e => hbl (by have := congrArg Addr.block e; simp only at this; omega))]
              exact hc j u hu
            have hs : (((wr.setCell ⟨w.heap.size, 0, none⟩ (.string ⟨f.toArray⟩)).setCell ⟨w.heap.size, 1, none⟩ (.string ⟨t.toArray⟩)).setCell ⟨w.heap.size, 2, none⟩ (.slice A acc.length c)).heap.size = wr.heap.size := by simp [World.setCell]
            rw [hs]
            exact h2
          · have HKF : Hid (okb = false) := Lib.hid (by rw [HKD.out]; simp [han])
            have hnb : ((acc.length : Int) != (n : Int)) = true := by simp; omega
            clear han
            go_wp2_with fail
            refine (HDN.out).mono ?_
            rintro r w9 ⟨rfl, rfl⟩
            go_wp2
            refine bodyPost_ret (v := .tuple #[.agg #[.string ⟨#[]⟩, .string ⟨#[]⟩, .slice none 0 0], .bool false]) (by simp [results, Tryd.results9, go_sem, y0, y1, y2]) rfl ⟨⟨[], [], none, 0, []⟩, by rw [HKF.out] <;> rfl, by rw [HPN.out HKF.out] <;> rfl, PatchD.nil_ok _ _, HBE.out _ _ _⟩
      · have HCN := Lib.hid (HCE.out.step hin hre)
        have hml : 0 < st.rest.length := List.length_pos_iff.2 hre
        have hmi : (0 : Int) < (st.rest.length : Int) := by omega
        have HI1 := Lib.hid (fun w h hl => rInt_any g st w h hl)
        have HI2 := Lib.hid (fun w h hl => rInt_any g (rInt st).2 w h hl)
        have HI3 := Lib.hid (fun w h hl => rText_any g (rInt (rInt st).2).2 w h hl)
        have hr1 := rInt_rest_le st
        have hr2 := rInt_rest_le (rInt st).2
        have hr3 := rText_rest_le (rInt (rInt st).2).2
        have HED : Hid (rEdit st = (⟨(rInt st).1, (rInt (rInt st).2).1, (rText (rInt (rInt st).2).2).1⟩, (rText (rInt (rInt st).2).2).2)) := rfl
        rw [HED.out] at HCN
        clear HED hre
        generalize rText (rInt (rInt st).2).2 = z3 at HI3 hr3 HCN
        generalize rInt (rInt st).2 = z2 at HI2 HI3 hr2 hr3 HCN
        generalize rInt st = z1 at HI1 HI2 hr1 hr2 HCN
        obtain ⟨x1, st1⟩ := z1
        obtain ⟨x2, st2⟩ := z2
        obtain ⟨x3, st3⟩ := z3
        simp only at HI1 HI2 HI3 hr1 hr2 hr3 HCN
        unfold str at HI3
        generalize hmm : st.rest.length = m at HLF hml hmi
        go_wp2_with fail
        refine (HLF.out).mono ?_
        rintro r w8 ⟨rfl, rfl⟩
        go_wp2_with fail
        have HRSd : Hid (RS w g pb f t acc (.slice A acc.length c) st wr.drew) := HRS.out.drew
        have QC : Hid (acc.length + 1 ≤ maxLen) := by show _ ≤ _; unfold maxLen; omega
        have QD : Hid ((acc.length + 1) * 32 ≤ 140737488355328) := by show _ ≤ _; omega
        have QB := Lib.hid (edit_one ⟨x1, x2, x3⟩)
        have HXd : Hid (Blk wr.drew w.heap.size 24 #[.string ⟨#[]⟩, .string ⟨#[]⟩, .slice none 0 0]) := HX.out
        have HL1 : Hid (st.rest.length ≤ 70368744177664) := by show _ ≤ _; omega
        have HL2 : Hid (st1.rest.length ≤ 70368744177664) := by show _ ≤ _; omega
        have HL3 : Hid (st2.rest.length ≤ 70368744177664) := by show _ ≤ _; omega
        have hgx := HRS.out.hg
        have HGN : Hid (some w.heap.size ≠ some g) := Lib.hid (fun e => by injection e with e; omega)
        clear hmm
        go_region_law
          (first
            | (have h6 := HRS6.out.own.alloc (.cells #[.int .i64 x1, .int .i64 x2, .string ⟨x3.toArray⟩] 56); refine step_append_own (by rfl) _ _ 22 (by rfl) w.heap.size 56 i0 (.agg #[.int .i64 0, .int .i64 0, .string ByteArray.empty]) 3 32 Tryd.underlying22 hi hz0 hz1 hz2 rfl (by decide) _ _ _ (by rfl) h6 ⟨w6.heap.size, 0, none⟩ 1 1 [.int .i64 x1, .int .i64 x2, .string ⟨x3.toArray⟩] (by rfl) (by rfl) (World.news_of_block (heap_alloc_new w6 _)) QB.out QC.out QD.out (Nat.le_trans HRS6.out.below.size (by simp)) ?_; intro v7 w7 hown7 hgrow7; obtain ⟨A7, c7, rfl⟩ := own_shape hown7; have HRS7 := Lib.hid (RS.app_blk HRS6.out hgrow7); have HRS8 := Lib.hid (RS.app (e := ⟨x1, x2, x3⟩) HRS6.out hgrow7 hown7); have HX7 := Lib.hid ((HX6.out.alloc (.cells #[.int .i64 x1, .int .i64 x2, .string ⟨x3.toArray⟩] 56)).grown hgrow7 (fun e => own_ne HRS6.out.own HX6.out (by decide) e.symm)); have f7 := HRS7.out.frozen 2; have c7' := HRS7.out.cell 2; clear hown7 hgrow7 h6)
            | (refine step_call (by rfl) 27 _ _ (by rfl) Tryd.call27 _ (by first | (simp [Act.eval]; done) | simp [Act.eval, Act.put]) (HI3.out _ HRS5.out.rd HL3.out) ?_; rintro e w6 ⟨rfl, hr6⟩; refine ⟨_, rfl, ?_⟩; have HRS6 := Lib.hid (HRS5.out.to_ hr6); have c6 := HRS6.out.blk.cell 2; have c6' := (HRS6.out.blk.alloc (.cells #[.int .i64 x1, .int .i64 x2, .string ⟨x3.toArray⟩] 56)).cell 2; have HX6 := Lib.hid (HX5.out.grown hr6.only HGN.out); clear hr6)
            | (refine step_call (by rfl) 30 _ _ (by rfl) Tryd.call30 _ (by first | (simp [Act.eval]; done) | simp [Act.eval, Act.put]) (HI2.out _ HRS4.out.rd HL2.out) ?_; rintro e w5 ⟨rfl, hr5⟩; refine ⟨_, rfl, ?_⟩; have HRS5 := Lib.hid (HRS4.out.to_ hr5); have c5 := HRS5.out.blk.cell 2; have HX5 := Lib.hid (HX4.out.grown hr5.only HGN.out); clear hr5)
            | (refine step_call (by rfl) 30 _ _ (by rfl) Tryd.call30 _ (by first | (simp [Act.eval]; done) | simp [Act.eval, Act.put]) (HI1.out _ HRSd.out.rd HL1.out) ?_; rintro e w4 ⟨rfl, hr4⟩; refine ⟨_, rfl, ?_⟩; have HRS4 := Lib.hid (HRSd.out.to_ hr4); have c4 := HRS4.out.blk.cell 2; have HX4 := Lib.hid (HXd.out.grown hr4.only HGN.out); clear hr4))
        all_goals
          have HX8 := Lib.hid (HX7.out.far (p := ⟨pb, 2, none⟩) (by show w.heap.size ≠ pb; omega) (.slice A7 (acc.length + 1) c7))
          go_wp2
          go_roundw
          case rel => exact ⟨i + 1, acc ++ [⟨x1, x2, x3⟩], _, st3, by go_num, HRS8, HX8, HCN.out⟩
          case measure => simp [intOf]; omega
    · have HST := Lib.hid (HCE.out.stop (.inl hin))
      have HBD : Hid (body = (acc, st)) := Lib.hid (by rw [HBO.out]; exact HST.out)
      have HAO : Hid (∀ e ∈ acc, e.Ok) := Lib.hid (by have h := HEO.out (by unfold maxLen; omega); rw [HST.out] at h; exact h)
      have HKD : Hid (okb = ((!st.bad && st.rest.isEmpty) && decide (acc.length = n))) := Lib.hid (by rw [HOK.out, HBD.out])
      have HPV : Hid (okb = true → pdv = ⟨f, t, acc⟩) := fun h => by rw [HPD.out, if_pos h, HBD.out]
      have HPN : Hid (okb = false → pdv = PD.nil) := fun h => by rw [HPD.out, if_neg (by rw [h]; decide)]
      have HDN := Lib.hid (Done_any g st wr HRS.out.rd)
      generalize (!st.bad && st.rest.isEmpty) = d at HDN HKD
      have b0 : wr.cell? ⟨pb, 0, none⟩ = some (.string ⟨f.toArray⟩) := HRS.out.blk.cell 0
      have b1 : wr.cell? ⟨pb, 1, none⟩ = some (.string ⟨t.toArray⟩) := HRS.out.blk.cell 1
      have y0 : wr.cell? ⟨w.heap.size, 0, none⟩ = some (.string ⟨#[]⟩) := HX.out.cell 0
      have y1 : wr.cell? ⟨w.heap.size, 1, none⟩ = some (.string ⟨#[]⟩) := HX.out.cell 1
      have y2 : wr.cell? ⟨w.heap.size, 2, none⟩ = some (.slice none 0 0) := HX.out.cell 2
      have f0 := HX.out.frozen 0
      have f1 := HX.out.frozen 1
      have f2 := HX.out.frozen 2
      have HBE : Hid (∀ a b c, Below w.heap.size w (((wr.setCell ⟨w.heap.size, 0, none⟩ a).setCell ⟨w.heap.size, 1, none⟩ b).setCell ⟨w.heap.size, 2, none⟩ c)) := fun a b c => ((HRS.out.below.setCell (p := ⟨w.heap.size, 0, none⟩) (Nat.le_refl _) _).setCell (p := ⟨w.heap.size, 1, none⟩) (Nat.le_refl _) _).setCell (p := ⟨w.heap.size, 2, none⟩) (Nat.le_refl _) _
      cases d with
      | false =>
        have HKF : Hid (okb = false) := Lib.hid (by rw [HKD.out]; rfl)
        go_wp2_with fail
        refine (HDN.out).mono ?_
        rintro r w9 ⟨rfl, rfl⟩
        go_wp2
        refine bodyPost_ret (v := .tuple #[.agg #[.string ⟨#[]⟩, .string ⟨#[]⟩, .slice none 0 0], .bool false]) (by simp [results, Tryd.results9, go_sem, y0, y1, y2]) rfl ⟨⟨[], [], none, 0, []⟩, by rw [HKF.out] <;> rfl, by rw [HPN.out HKF.out] <;> rfl, PatchD.nil_ok _ _, HBE.out _ _ _⟩
      | true =>
        by_cases han : acc.length = n
        · have HKT : Hid (okb = true) := Lib.hid (by rw [HKD.out]; simp [han])
          have hnb : ((acc.length : Int) != (n : Int)) = false := by simp [han]
          have HAN := Lib.hid han
          clear han
          go_wp2_with fail
          refine (HDN.out).mono ?_
          rintro r w9 ⟨rfl, rfl⟩
          go_wp2
          refine bodyPost_ret (v := .tuple #[.agg #[.string ⟨f.toArray⟩, .string ⟨t.toArray⟩, .slice A acc.length c], .bool true]) (by simp [results, Tryd.results9, go_sem, y0, y1, y2]) rfl ⟨⟨f, t, A, c, acc⟩, by rw [HKT.out] <;> rfl, by rw [HPV.out HKT.out] <;> rfl, ?_, HBE.out _ _ _⟩
          refine ⟨by unfold maxLen; show f.length ≤ _; omega, by unfold maxLen; show t.length ≤ _; omega, by show acc.length ≤ _; omega, ?_, HAO.out⟩
          have h1 := Reads.of_own HRS.out.own
          have hne : ∀ ad, A = some ad → ad.block ≠ w.heap.size := fun ad he => by
            subst he
            exact fun e => own_ne HRS.out.own HX.out (by decide) (by simp [Value.ownBlock, e])
          have h2 : Reads (((wr.setCell ⟨w.heap.size, 0, none⟩ (.string ⟨f.toArray⟩)).setCell ⟨w.heap.size, 1, none⟩ (.string ⟨t.toArray⟩)).setCell ⟨w.heap.size, 2, none⟩ (.slice A acc.length c)) wr.heap.size 3 A acc.length (acc.flatMap EditD.parts) := by
            refine ⟨h1.1, fun hn => ?_⟩
            obtain ⟨ad, he, hb, hc⟩ := h1.2 hn
            refine ⟨ad, he, hb, fun j u hu => ?_⟩
            have hbl : (ad.add j).block ≠ w.heap.size := by rw [block_of_add]; exact hne ad he
            rw [World.cell?_setCell_other _ _ _ _ (fun e => hbl (by have := congrArg Addr.block e; simp only at this; omega)), World.cell?_setCell_other _ _ _ _ (fun e => hbl (by have := congrArg Addr.block e; simp only at this; omega)), World.cell?_setCell_other _ _ _ _ (fun e => hbl (by have := congrArg Addr.block e; simp only at this; omega))]
            exact hc j u hu
          have hs : (((wr.setCell ⟨w.heap.size, 0, none⟩ (.string ⟨f.toArray⟩)).setCell ⟨w.heap.size, 1, none⟩ (.string ⟨t.toArray⟩)).setCell ⟨w.heap.size, 2, none⟩ (.slice A acc.length c)).heap.size = wr.heap.size := by simp [World.setCell]
          rw [hs]
          exact h2
        · have HKF : Hid (okb = false) := Lib.hid (by rw [HKD.out]; simp [han])
          have hnb : ((acc.length : Int) != (n : Int)) = true := by simp; omega
          clear han
          go_wp2_with fail
          refine (HDN.out).mono ?_
          rintro r w9 ⟨rfl, rfl⟩
          go_wp2
          refine bodyPost_ret (v := .tuple #[.agg #[.string ⟨#[]⟩, .string ⟨#[]⟩, .slice none 0 0], .bool false]) (by simp [results, Tryd.results9, go_sem, y0, y1, y2]) rfl ⟨⟨[], [], none, 0, []⟩, by rw [HKF.out] <;> rfl, by rw [HPN.out HKF.out] <;> rfl, PatchD.nil_ok _ _, HBE.out _ _ _⟩

end Go.Proofs.YtefgajipakjpeaaDoor
