/-
  image.coder that reads: contracts of image.list, one for each type of elements. Conditions: what is left is at most 2^20 bytes; the contract of the function for one element is a premise.
-/
import Derived.Test.YtefgajipakjpeaaDoorImgR
import Derived.Deep.RegionLaw
namespace Go.Proofs.YtefgajipakjpeaaDoor
open Go.RowKit

/-- What a reading coder's callee keeps: the boxes of coder and closure (types 104 and 110). -/
structure KeepsR (g : Nat) (Inv : World → Prop) : Prop where
  tw : ∀ a b xb t cs st, Inv a → Rd a g st → Blk a xb t cs → t ≠ 104 → t ≠ 110 → Tw g xb a b → Inv b
  below : ∀ a b, Inv a → Below a.heap.size a b → Inv b
  grown : ∀ a b B e s v n xs, Inv a → a.grownBy b v.ownBlock → a.ownsRow B e s v n xs → e ≠ 104 → e ≠ 110 → Inv b
  set_ : ∀ a ib off t cs u, Inv a → Blk a ib t cs → t ≠ 104 → t ≠ 110 → Inv (a.setCell ⟨ib, off, none⟩ u)

theorem KeepsR.app {g B s n ib off : Nat} {Inv : World → Prop} (h : KeepsR g Inv) {w w6 : World} {o : Obj} {e ti : TypeId} {v u : Value} {xs : List Value} {ci : Array Value} (hI : Inv (w.alloc o)) (hg : (w.alloc o).grownBy w6 v.ownBlock) (ho : w.ownsRow B e s v n xs)
    (hb : Blk w6 ib ti ci) (h1 : ti ≠ 104) (h2 : ti ≠ 110) (h3 : e ≠ 104) (h4 : e ≠ 110) : Inv (w6.setCell ⟨ib, off, none⟩ u) :=
  h.set_ _ _ _ _ _ _ (h.grown _ _ _ _ _ _ _ _ hI hg (ho.alloc o) h3 h4) hb h1 h2
/-- The state of a list that is being read. -/
structure LS {α : Type} (parts : α → List Value) (k : Nat) (T ti : TypeId) (cb g ib off : Nat) (ci : Array Value) (w0 : World) (ys : List α) (v : Value) (st : St) (w : World) : Prop where
  cr : CR cb g st w
  blk : Blk w ib ti (ci.setIfInBounds off v)
  own : w.ownsRow w0.heap.size T k v ys.length (ys.flatMap parts)
  tw : Tw g ib w0 w
  hib : ib < w0.heap.size
  hg : ib ≠ g
  hc : ib ≠ cb
  off : off < ci.size
  t98 : (98 : TypeId) ≠ T
  t83 : (83 : TypeId) ≠ T
  tti : ti ≠ T

section
variable {α : Type} {parts : α → List Value} {k : Nat} {T ti : TypeId} {cb g ib off : Nat} {ci : Array Value} {w0 w w5 w6 : World} {ys : List α} {v v' : Value} {st st5 : St} {o : Obj}
theorem LS.size (h : LS parts k T ti cb g ib off ci w0 ys v st w) : w0.heap.size ≤ w.heap.size := h.tw.size
theorem LS.cell (h : LS parts k T ti cb g ib off ci w0 ys v st w) : w.cell? ⟨ib, off, none⟩ = some v := by
  rw [h.blk.cell off]
  simp [h.off]
theorem LS.cellA (h : LS parts k T ti cb g ib off ci w0 ys v st w) (o : Obj) : (w.alloc o).cell? ⟨ib, off, none⟩ = some v := by
  rw [(h.blk.alloc o).cell off]
  simp [h.off]
theorem LS.keep (h : LS parts k T ti cb g ib off ci w0 ys v st w) (hb : Below w.heap.size w w5) : LS parts k T ti cb g ib off ci w0 ys v st w5 :=
  ⟨h.cr.keep hb, h.blk.below hb h.blk.lt, own_below h.own hb (Nat.le_refl _), h.tw.trans (Tw.of_below hb), h.hib, h.hg, h.hc, h.off, h.t98, h.t83, h.tti⟩
/-- Behind the reading of one element into a new block. -/
theorem LS.elem (h : LS parts k T ti cb g ib off ci w0 ys v st w) (hc : CR cb g st5 w5) (ht : Tw g w.heap.size (w.alloc o) w5) : LS parts k T ti cb g ib off ci w0 ys v st5 w5 := by
  have hlt := h.blk.lt
  have hown := h.own.alloc o
  have n1 := own_ne hown (Blk.alloc h.cr.rd o) h.t98
  have hown5 : w5.ownsRow w0.heap.size T k v ys.length (ys.flatMap parts) := by
    refine ⟨hown.1, ?_⟩
    rcases hown.2 with hn | ⟨gg, cap, cur, rfl, hB, hgg, rest⟩
    · exact .inl hn
    · refine .inr ⟨gg, cap, cur, rfl, hB, ?_, rest⟩
      have hl := (h.own.lt gg rfl).2
      rw [ht.block gg (Array.getElem?_eq_some_iff.1 hgg).1 (fun e => n1 (by rw [e]; rfl)) (by omega)]
      exact hgg
  exact ⟨hc, (h.blk.alloc o).tw ht h.hg (by omega), hown5, ht.new h.tw.size (h.tw.alloc o), h.hib, h.hg, h.hc, h.off, h.t98, h.t83, h.tti⟩
/-- Behind the append. -/
theorem LS.app {y : α} (h : LS parts k T ti cb g ib off ci w0 ys v st w) (hg : (w.alloc o).grownBy w6 v.ownBlock) (hown : w6.ownsRow w0.heap.size T k v' (ys.length + 1) (ys.flatMap parts ++ parts y)) :
    Blk w6 ib ti (ci.setIfInBounds off v) ∧ LS parts k T ti cb g ib off ci w0 (ys ++ [y]) v' st (w6.setCell ⟨ib, off, none⟩ v') := by
  have hb0 : Blk w6 ib ti (ci.setIfInBounds off v) := (h.blk.alloc o).grown hg (fun e => own_ne h.own h.blk h.tti e.symm)
  have hr0 : Blk w6 g 98 _ := Blk.grown (Blk.alloc h.cr.rd o) hg (fun e => own_ne h.own h.cr.rd h.t98 e.symm)
  have hc0 : Blk w6 cb 83 _ := Blk.grown (Blk.alloc h.cr.blk o) hg (fun e => own_ne h.own h.cr.blk h.t83 e.symm)
  have hown' : w6.ownsRow w0.heap.size T k v' (ys ++ [y]).length ((ys ++ [y]).flatMap parts) := by
    rw [List.length_append, List.flatMap_append]
    simpa using hown
  refine ⟨hb0, ⟨⟨hc0.far (p := ⟨ib, off, none⟩) (fun e => h.hc e.symm) _, Blk.far hr0 (p := ⟨ib, off, none⟩) (fun e => h.hg e.symm) _⟩, ?_, ownsRow_setCell_other (a := ⟨ib, off, none⟩) hown' (own_ne hown' hb0 h.tti) _, ?_, h.hib, h.hg, h.hc, h.off, h.t98, h.t83, h.tti⟩⟩
  · have := hb0.set_ off v'
    simpa using this
  · exact ((h.tw.alloc o).grown hg (fun kk hkk => (h.own.lt kk hkk).1)).setCell (p := ⟨ib, off, none⟩) (.inl rfl) _
end
/-- A row of the call's own, nested in an element, while others turn. -/
theorem nest_elem {w w5 : World} {B s n g : Nat} {e : TypeId} {v : Value} {xs : List Value} {o : Obj} {st : St} (h : w.ownsRow B e s v n xs) (hr : Rd w g st) (he : e ≠ 98) (ht : Tw g w.heap.size (w.alloc o) w5) : w5.ownsRow B e s v n xs := by
  have hown := h.alloc o
  have n1 := own_ne hown (Blk.alloc hr o) (Ne.symm he)
  refine ⟨hown.1, ?_⟩
  rcases hown.2 with hn | ⟨gg, cap, cur, rfl, hB, hgg, rest⟩
  · exact .inl hn
  · refine .inr ⟨gg, cap, cur, rfl, hB, ?_, rest⟩
    have hl := (h.lt gg rfl).2
    rw [ht.block gg (Array.getElem?_eq_some_iff.1 hgg).1 (fun e => n1 (by rw [e]; rfl)) (by omega)]
    exact hgg
theorem nest_app {w w6 : World} {B B' s s' n n' ib off : Nat} {e e' ti : TypeId} {v v' u : Value} {xs xs' : List Value} {ci : Array Value} {o : Obj} (h : w.ownsRow B e s v n xs) (ho : w.ownsRow B' e' s' v' n' xs') (hne : e' ≠ e) (hg : (w.alloc o).grownBy w6 v'.ownBlock)
    (hb : Blk w6 ib ti ci) (hti : ti ≠ e) : (w6.setCell ⟨ib, off, none⟩ u).ownsRow B e s v n xs := by
  have h6 := own_kept2 (h.alloc o) (ho.alloc o) hne hg
  exact ownsRow_setCell_other (a := ⟨ib, off, none⟩) h6 (own_ne h6 hb hti) u

theorem Int_Info : (Tryd.prog.info? 3).map (fun i => (i.zero, i.size, i.bytes)) = some (some (.int .i64 0), 1, 8) := by kernel_rfl
theorem Int_D.one (x : Int_D) : ∀ v ∈ x.parts, v.oneCell' = true := by
  intro v hv
  simp only [Int_D.parts, List.mem_cons, List.not_mem_nil, or_false] at hv
  subst hv; rfl
/-- What the reading of this list leaves. -/
def GotListInt_ (cb g ib off : Nat) (ti : TypeId) (ci : Array Value) (w : World) (st : St) (e : Ending) (wz : World) : Prop :=
  e = .returned (.tuple #[]) ∧ ∃ s : SlD Int_D, s.xs.map Int_D.pl = (rLst rInt_ st).1 ∧ wz.ownsRow w.heap.size 3 1 (.slice s.A s.xs.length s.c) s.xs.length (s.xs.flatMap Int_D.parts) ∧
    Blk wz ib ti (ci.setIfInBounds off (.slice s.A s.xs.length s.c)) ∧ CR cb g (rLst rInt_ st).2 wz ∧ Tw g ib w wz

set_option maxHeartbeats 8000000 in
set_option maxRecDepth 100000 in
theorem listInt__r {cb g ib off : Nat} {w : World} {ti : TypeId} {ci : Array Value} {st : St} (Inv : World → Prop) (cap : Addr) (hK : KeepsR g Inv) (hI : Inv w) (h : CR cb g st w) (hg : st.Good) (hl : st.rest.length ≤ 1048576)
    (hp : Blk w ib ti ci) (hti : ti ≠ 3) (ht104 : ti ≠ 104) (ht110 : ti ≠ 110) (hpc : ib ≠ cb) (hpg : ib ≠ g) (hpv : ci[off]? = some (.slice none 0 0))
    (hone : ∀ (wx : World) (sx : St) (xb : Nat), Inv wx → CR cb g sx wx → sx.Good → sx.rest.length ≤ 1048576 → Blk wx xb 3 #[.int .i64 0] → xb ≠ cb → xb ≠ g →
      Calls Tryd.prog 50 #[.pointer (some ⟨xb, 0, none⟩), .pointer (some cap)] wx (fun e w2 => e = .returned (.tuple #[]) ∧ ∃ y : Int_D, y.pl = (rInt_ sx).1 ∧ CR cb g (rInt_ sx).2 w2 ∧ Blk w2 xb 3 y.parts.toArray ∧ Tw g xb wx w2)) :
    Calls Tryd.prog 61 #[.pointer (some ⟨cb, 0, none⟩), .pointer (some ⟨ib, off, none⟩), .func (.func 50) #[] #[.pointer (some cap)]] w (GotListInt_ cb g ib off ti ci w st) := by
  obtain ⟨k0, hk, hy0, hy1, hy2⟩ := info_parts Int_Info
  have HONE := Lib.hid hone
  have HK := Lib.hid hK
  have hiblt := hp.lt
  have hoff : off < ci.size := by
    rcases Nat.lt_or_ge off ci.size with h1 | h1
    · exact h1
    · rw [Array.getElem?_eq_none h1] at hpv; cases hpv
  have hci : ci.setIfInBounds off (.slice none 0 0) = ci := by
    apply Array.ext_getElem?
    intro j
    rw [Array.getElem?_setIfInBounds]
    split
    · rename_i hj; subst hj; first | rw [if_pos hoff, hpv] | rw [hpv]
    · rfl
  have HLS0 : Hid (LS Int_D.parts 1 3 ti cb g ib off ci w [] (.slice none 0 0) st w) := Lib.hid ⟨h, by rw [hci]; exact hp, World.ownsRow_nil _ _ _ _, Tw.refl _ _ _, hiblt, hpg, hpc, hoff, by decide, by decide, hti⟩
  have HN := Lib.hid (rNum_any g st w h.rd (by omega))
  have hn1 := rNum_lt st
  have hn2 := rNum_rest_le st
  have HG1 := Lib.hid (rNum_good st hg)
  have cin := h.in_
  have HI := Lib.hid hI
  have HRL : Hid (rLst rInt_ st = rItems rInt_ (rNum st).1 (rNum st).2) := rfl
  unfold GotListInt_
  obtain ⟨RES, hRES⟩ : ∃ R, rLst rInt_ st = R := ⟨_, rfl⟩
  rw [hRES] at HRL ⊢
  generalize rNum st = z at HN hn1 hn2 HG1 HRL
  obtain ⟨nn, s1⟩ := z
  simp only at HN hn1 hn2 HG1 HRL
  have hnn : (nn : Int) ≤ 9223372036854775807 := by omega
  have HTI := Lib.hid (And.intro ht104 ht110)
  clear hRES hone hK h hg hp hti ht104 ht110 hpc hpg hpv hci hI hn1
  go_enter Tryd.func61, Tryd.ntmps61
  go_wp2_with fail
  refine (HN.out).mono ?_
  rintro r w1 ⟨rfl, hr1⟩
  have HLS1 : Hid (LS Int_D.parts 1 3 ti cb g ib off ci w [] (.slice none 0 0) s1 w1) := Lib.hid (by
    have h0 := HLS0.out
    exact ⟨h0.cr.to_ hr1, h0.blk.grown hr1.only (by simpa using h0.hg), World.ownsRow_nil _ _ _ _, h0.tw.trans (Tw.of_only hr1.only), h0.hib, h0.hg, h0.hc, h0.off, h0.t98, h0.t83, h0.tti⟩)
  have HI1 : Hid (Inv w1) := Lib.hid (HK.out.tw w w1 ib ti _ st HI.out HLS0.out.cr.rd HLS0.out.blk HTI.out.1 HTI.out.2 (Tw.of_only hr1.only))
  clear hr1 HN HI HLS0 cin
  go_wp2_with fail
  go_loopw [8] (fun vn wr => ∃ (kk : Nat) (ys : List Int_D) (v : Value) (sx : St), vn = .int .i64 kk ∧ (kk : Int) ≤ 9223372036854775807 ∧ Hid (LS Int_D.parts 1 3 ti cb g ib off ci w ys v sx wr) ∧ Hid (Came rInt_ 1048576 nn s1 kk (ys.map Int_D.pl) sx) ∧ Hid sx.Good ∧ Hid (Inv wr)) (fun vn _ => (intOf vn).toNat)
  case atStart => exact ⟨nn, [], _, s1, rfl, hnn, HLS1, Came.start (by omega), HG1, HI1⟩
  case round =>
    clear HLS1 HG1 HI1
    obtain ⟨kk, ys, v, sx, rfl, hkk, HLS, HCA, HG, HI⟩ := hrel
    obtain ⟨A, c, rfl⟩ := own_shape HLS.out.own
    have hyl := HCA.out.len
    rw [List.length_map] at hyl
    have hrl := HCA.out.rest
    have cp := HLS.out.cell
    have HFA := Lib.hid (failed_any cb g sx wr HLS.out.cr HG.out)
    by_cases hk0 : kk = 0
    · have HST := Lib.hid (HCA.out.stop (.inl hk0))
      subst hk0
      go_wp2
      go_end0
      exact ⟨rfl, ⟨A, c, ys⟩, by rw [HRL.out, HST.out], HLS.out.own, HLS.out.blk, by rw [HRL.out, HST.out]; exact HLS.out.cr, HLS.out.tw⟩
    · have hk1 : 1 ≤ kk := by omega
      have hki : (0 : Int) < (kk : Int) := by omega
      cases hb : sx.bad with
      | true =>
        have HST := Lib.hid (HCA.out.stop (.inr hb))
        rw [hb] at HFA
        clear hb hk0
        go_wp2_with fail
        refine (HFA.out).mono ?_
        rintro r w2 ⟨rfl, rfl⟩
        go_wp2
        go_end0
        exact ⟨rfl, ⟨A, c, ys⟩, by rw [HRL.out, HST.out], HLS.out.own, HLS.out.blk, by rw [HRL.out, HST.out]; exact HLS.out.cr, HLS.out.tw⟩
      | false =>
        obtain ⟨k', rfl⟩ : ∃ k', kk = k' + 1 := ⟨kk - 1, by omega⟩
        have HC2 := Lib.hid (HCA.out.step rInt__less rInt__rok.le hb)
        have HG2 := Lib.hid (rInt__rok.good sx HG.out)
        rw [hb] at HFA
        have HXB := Lib.hid (HONE.out (wr.alloc (.cells #[.int .i64 0] 3)) sx wr.heap.size (HK.out.below _ _ HI.out ((Below.refl _ _).alloc (Nat.le_refl _) _)) (HLS.out.cr.alloc _) HG.out hrl (Blk.new _ _ _) (by have := HLS.out.cr.blk.lt; omega) (by have := HLS.out.cr.rd.lt; omega))
        have HIa := Lib.hid (HK.out.below _ _ HI.out ((Below.refl wr.heap.size wr).alloc (Nat.le_refl _) (.cells #[.int .i64 0] 3)))
        have hsz0 := HLS.out.size
        clear hb hk0 HCA HG
        go_wp2_with fail
        refine (HFA.out).mono ?_
        rintro r w2 ⟨rfl, rfl⟩
        go_wp2_with fail
        refine (HXB.out).mono ?_
        rintro r w5 ⟨rfl, y, hpl, hc5, hx5, ht5⟩
        have HLS5 := Lib.hid ((HLS.out.elem hc5 ht5).keep (Below.drew (Below.refl _ _)))
        have HX5 : Hid (Blk w5.drew wr.heap.size 3 y.parts.toArray) := hx5
        have HI5 : Hid (Inv w5.drew) := Lib.hid (HK.out.below _ _ (HK.out.tw _ _ wr.heap.size 3 _ sx HIa.out (Blk.alloc HLS.out.cr.rd _) (Blk.new _ _ _) (by decide) (by decide) ht5) (Below.drew (Below.refl _ _)))
        rw [← hpl] at HC2
        have HPN := Lib.hid (show (ys ++ [y]).map Int_D.pl = ys.map Int_D.pl ++ [y.pl] by simp)
        rw [← HPN.out] at HC2
        have QB := Lib.hid (Int_D.one y)
        have QC : Hid (ys.length + 1 ≤ maxLen) := by show _ ≤ _; unfold maxLen; omega
        have QD : Hid ((ys.length + 1) * 8 ≤ 140737488355328) := by show _ ≤ _; omega
        have QE : Hid (w.heap.size ≤ w5.heap.size) := Lib.hid (Nat.le_trans hsz0 (Nat.le_trans (by simp) ht5.size))
        clear hpl hc5 hx5 ht5 HXB HIa HLS HI cp HFA  
        have cx := HX5.out.cell
        obtain ⟨y0⟩ := y
        simp only [Int_D.parts] at HX5 QB
        have d0 : w5.cell? ⟨wr.heap.size, 0, none⟩ = some (.int .i64 y0) := HX5.out.cell 0
        clear cx
        have cp5 : w5.cell? ⟨ib, off, none⟩ = some (.slice A ys.length c) := HLS5.out.cell
        have cp6 : (w5.alloc (.cells #[.int .i64 y0] 3)).cell? ⟨ib, off, none⟩ = some (.slice A ys.length c) := HLS5.out.cellA _
        go_wp2_with fail
        go_region_law
          ((have h5 := HLS5.out.own.alloc (.cells #[.int .i64 y0] 3); refine step_append_own (by rfl) _ _ 36 (by rfl) w.heap.size 3 k0 (.int .i64 0) 1 8 Tryd.underlying36 hk hy0 hy1 hy2 rfl (by decide) _ _ _ (by rfl) h5 ⟨w5.heap.size, 0, none⟩ 1 1 [.int .i64 y0] (by rfl) (by rfl) (World.news_of_block (heap_alloc_new w5.drew _)) QB.out QC.out QD.out (Nat.le_trans QE.out (by simp [World.drew])) ?_; intro v6 w6 hown6 hgrow6; obtain ⟨A6, c6, rfl⟩ := own_shape hown6; have hap := LS.app (y := ⟨y0⟩) HLS5.out hgrow6 hown6; have HB6 := Lib.hid hap.1; have HLS6 := Lib.hid hap.2; have HI6 := Lib.hid (HK.out.below _ _ HI5.out ((Below.refl _ _).alloc (Nat.le_refl _) (.cells #[.int .i64 y0] 3))); have HG6 := Lib.hid hgrow6; have f6 := HB6.out.frozen off; have c6' : w6.cell? ⟨ib, off, none⟩ = some (.slice A ys.length c) := (HB6.out.cell off).trans (by simp [hoff]); clear hown6 hap h5 hgrow6))
        all_goals
          clear cp5 cp6 d0
          have HI7 : Hid (Inv (w6.setCell ⟨ib, off, none⟩ (.slice A6 (ys.length + 1) c6))) := Lib.hid (by
            exact HK.out.app HI6.out HG6.out HLS5.out.own HB6.out HTI.out.1 HTI.out.2 (by decide) (by decide))
          go_wp2
          go_roundw
          case rel => exact ⟨k', ys ++ [⟨y0⟩], _, _, by go_num, by omega, HLS6, HC2, HG2, HI7⟩
          case measure => simp [intOf]

theorem StrInfo : (Tryd.prog.info? 9).map (fun i => (i.zero, i.size, i.bytes)) = some (some (.string ByteArray.empty), 1, 16) := by kernel_rfl
theorem StrD.one (x : StrD) : ∀ v ∈ x.parts, v.oneCell' = true := by
  intro v hv
  simp only [StrD.parts, List.mem_cons, List.not_mem_nil, or_false] at hv
  subst hv; rfl
/-- What the reading of this list leaves. -/
def GotListStr (cb g ib off : Nat) (ti : TypeId) (ci : Array Value) (w : World) (st : St) (e : Ending) (wz : World) : Prop :=
  e = .returned (.tuple #[]) ∧ ∃ s : SlD StrD, s.xs.map StrD.pl = (rLst rStr st).1 ∧ wz.ownsRow w.heap.size 9 1 (.slice s.A s.xs.length s.c) s.xs.length (s.xs.flatMap StrD.parts) ∧
    Blk wz ib ti (ci.setIfInBounds off (.slice s.A s.xs.length s.c)) ∧ CR cb g (rLst rStr st).2 wz ∧ Tw g ib w wz

set_option maxHeartbeats 8000000 in
set_option maxRecDepth 100000 in
theorem listStr_r {cb g ib off : Nat} {w : World} {ti : TypeId} {ci : Array Value} {st : St} (Inv : World → Prop) (cap : Addr) (hK : KeepsR g Inv) (hI : Inv w) (h : CR cb g st w) (hg : st.Good) (hl : st.rest.length ≤ 1048576)
    (hp : Blk w ib ti ci) (hti : ti ≠ 9) (ht104 : ti ≠ 104) (ht110 : ti ≠ 110) (hpc : ib ≠ cb) (hpg : ib ≠ g) (hpv : ci[off]? = some (.slice none 0 0))
    (hone : ∀ (wx : World) (sx : St) (xb : Nat), Inv wx → CR cb g sx wx → sx.Good → sx.rest.length ≤ 1048576 → Blk wx xb 9 #[.string ⟨#[]⟩] → xb ≠ cb → xb ≠ g →
      Calls Tryd.prog 52 #[.pointer (some ⟨xb, 0, none⟩), .pointer (some cap)] wx (fun e w2 => e = .returned (.tuple #[]) ∧ ∃ y : StrD, y.pl = (rStr sx).1 ∧ CR cb g (rStr sx).2 w2 ∧ Blk w2 xb 9 y.parts.toArray ∧ Tw g xb wx w2)) :
    Calls Tryd.prog 64 #[.pointer (some ⟨cb, 0, none⟩), .pointer (some ⟨ib, off, none⟩), .func (.func 52) #[] #[.pointer (some cap)]] w (GotListStr cb g ib off ti ci w st) := by
  obtain ⟨k0, hk, hy0, hy1, hy2⟩ := info_parts StrInfo
  have HONE := Lib.hid hone
  have HK := Lib.hid hK
  have hiblt := hp.lt
  have hoff : off < ci.size := by
    rcases Nat.lt_or_ge off ci.size with h1 | h1
    · exact h1
    · rw [Array.getElem?_eq_none h1] at hpv; cases hpv
  have hci : ci.setIfInBounds off (.slice none 0 0) = ci := by
    apply Array.ext_getElem?
    intro j
    rw [Array.getElem?_setIfInBounds]
    split
    · rename_i hj; subst hj; first | rw [if_pos hoff, hpv] | rw [hpv]
    · rfl
  have HLS0 : Hid (LS StrD.parts 1 9 ti cb g ib off ci w [] (.slice none 0 0) st w) := Lib.hid ⟨h, by rw [hci]; exact hp, World.ownsRow_nil _ _ _ _, Tw.refl _ _ _, hiblt, hpg, hpc, hoff, by decide, by decide, hti⟩
  have HN := Lib.hid (rNum_any g st w h.rd (by omega))
  have hn1 := rNum_lt st
  have hn2 := rNum_rest_le st
  have HG1 := Lib.hid (rNum_good st hg)
  have cin := h.in_
  have HI := Lib.hid hI
  have HRL : Hid (rLst rStr st = rItems rStr (rNum st).1 (rNum st).2) := rfl
  unfold GotListStr
  obtain ⟨RES, hRES⟩ : ∃ R, rLst rStr st = R := ⟨_, rfl⟩
  rw [hRES] at HRL ⊢
  generalize rNum st = z at HN hn1 hn2 HG1 HRL
  obtain ⟨nn, s1⟩ := z
  simp only at HN hn1 hn2 HG1 HRL
  have hnn : (nn : Int) ≤ 9223372036854775807 := by omega
  have HTI := Lib.hid (And.intro ht104 ht110)
  clear hRES hone hK h hg hp hti ht104 ht110 hpc hpg hpv hci hI hn1
  go_enter Tryd.func64, Tryd.ntmps64
  go_wp2_with fail
  refine (HN.out).mono ?_
  rintro r w1 ⟨rfl, hr1⟩
  have HLS1 : Hid (LS StrD.parts 1 9 ti cb g ib off ci w [] (.slice none 0 0) s1 w1) := Lib.hid (by
    have h0 := HLS0.out
    exact ⟨h0.cr.to_ hr1, h0.blk.grown hr1.only (by simpa using h0.hg), World.ownsRow_nil _ _ _ _, h0.tw.trans (Tw.of_only hr1.only), h0.hib, h0.hg, h0.hc, h0.off, h0.t98, h0.t83, h0.tti⟩)
  have HI1 : Hid (Inv w1) := Lib.hid (HK.out.tw w w1 ib ti _ st HI.out HLS0.out.cr.rd HLS0.out.blk HTI.out.1 HTI.out.2 (Tw.of_only hr1.only))
  clear hr1 HN HI HLS0 cin
  go_wp2_with fail
  go_loopw [8] (fun vn wr => ∃ (kk : Nat) (ys : List StrD) (v : Value) (sx : St), vn = .int .i64 kk ∧ (kk : Int) ≤ 9223372036854775807 ∧ Hid (LS StrD.parts 1 9 ti cb g ib off ci w ys v sx wr) ∧ Hid (Came rStr 1048576 nn s1 kk (ys.map StrD.pl) sx) ∧ Hid sx.Good ∧ Hid (Inv wr)) (fun vn _ => (intOf vn).toNat)
  case atStart => exact ⟨nn, [], _, s1, rfl, hnn, HLS1, Came.start (by omega), HG1, HI1⟩
  case round =>
    clear HLS1 HG1 HI1
    obtain ⟨kk, ys, v, sx, rfl, hkk, HLS, HCA, HG, HI⟩ := hrel
    obtain ⟨A, c, rfl⟩ := own_shape HLS.out.own
    have hyl := HCA.out.len
    rw [List.length_map] at hyl
    have hrl := HCA.out.rest
    have cp := HLS.out.cell
    have HFA := Lib.hid (failed_any cb g sx wr HLS.out.cr HG.out)
    by_cases hk0 : kk = 0
    · have HST := Lib.hid (HCA.out.stop (.inl hk0))
      subst hk0
      go_wp2
      go_end0
      exact ⟨rfl, ⟨A, c, ys⟩, by rw [HRL.out, HST.out], HLS.out.own, HLS.out.blk, by rw [HRL.out, HST.out]; exact HLS.out.cr, HLS.out.tw⟩
    · have hk1 : 1 ≤ kk := by omega
      have hki : (0 : Int) < (kk : Int) := by omega
      cases hb : sx.bad with
      | true =>
        have HST := Lib.hid (HCA.out.stop (.inr hb))
        rw [hb] at HFA
        clear hb hk0
        go_wp2_with fail
        refine (HFA.out).mono ?_
        rintro r w2 ⟨rfl, rfl⟩
        go_wp2
        go_end0
        exact ⟨rfl, ⟨A, c, ys⟩, by rw [HRL.out, HST.out], HLS.out.own, HLS.out.blk, by rw [HRL.out, HST.out]; exact HLS.out.cr, HLS.out.tw⟩
      | false =>
        obtain ⟨k', rfl⟩ : ∃ k', kk = k' + 1 := ⟨kk - 1, by omega⟩
        have HC2 := Lib.hid (HCA.out.step rStr_less rStr_rok.le hb)
        have HG2 := Lib.hid (rStr_rok.good sx HG.out)
        rw [hb] at HFA
        have HXB := Lib.hid (HONE.out (wr.alloc (.cells #[.string ⟨#[]⟩] 9)) sx wr.heap.size (HK.out.below _ _ HI.out ((Below.refl _ _).alloc (Nat.le_refl _) _)) (HLS.out.cr.alloc _) HG.out hrl (Blk.new _ _ _) (by have := HLS.out.cr.blk.lt; omega) (by have := HLS.out.cr.rd.lt; omega))
        have HIa := Lib.hid (HK.out.below _ _ HI.out ((Below.refl wr.heap.size wr).alloc (Nat.le_refl _) (.cells #[.string ⟨#[]⟩] 9)))
        have hsz0 := HLS.out.size
        clear hb hk0 HCA HG
        go_wp2_with fail
        refine (HFA.out).mono ?_
        rintro r w2 ⟨rfl, rfl⟩
        go_wp2_with fail
        refine (HXB.out).mono ?_
        rintro r w5 ⟨rfl, y, hpl, hc5, hx5, ht5⟩
        have HLS5 := Lib.hid ((HLS.out.elem hc5 ht5).keep (Below.drew (Below.refl _ _)))
        have HX5 : Hid (Blk w5.drew wr.heap.size 9 y.parts.toArray) := hx5
        have HI5 : Hid (Inv w5.drew) := Lib.hid (HK.out.below _ _ (HK.out.tw _ _ wr.heap.size 9 _ sx HIa.out (Blk.alloc HLS.out.cr.rd _) (Blk.new _ _ _) (by decide) (by decide) ht5) (Below.drew (Below.refl _ _)))
        rw [← hpl] at HC2
        have HPN := Lib.hid (show (ys ++ [y]).map StrD.pl = ys.map StrD.pl ++ [y.pl] by simp)
        rw [← HPN.out] at HC2
        have QB := Lib.hid (StrD.one y)
        have QC : Hid (ys.length + 1 ≤ maxLen) := by show _ ≤ _; unfold maxLen; omega
        have QD : Hid ((ys.length + 1) * 16 ≤ 140737488355328) := by show _ ≤ _; omega
        have QE : Hid (w.heap.size ≤ w5.heap.size) := Lib.hid (Nat.le_trans hsz0 (Nat.le_trans (by simp) ht5.size))
        clear hpl hc5 hx5 ht5 HXB HIa HLS HI cp HFA  
        have cx := HX5.out.cell
        obtain ⟨y0⟩ := y
        simp only [StrD.parts] at HX5 QB
        have d0 : w5.cell? ⟨wr.heap.size, 0, none⟩ = some (.string ⟨y0.toArray⟩) := HX5.out.cell 0
        clear cx
        have cp5 : w5.cell? ⟨ib, off, none⟩ = some (.slice A ys.length c) := HLS5.out.cell
        have cp6 : (w5.alloc (.cells #[.string ⟨y0.toArray⟩] 9)).cell? ⟨ib, off, none⟩ = some (.slice A ys.length c) := HLS5.out.cellA _
        go_wp2_with fail
        go_region_law
          ((have h5 := HLS5.out.own.alloc (.cells #[.string ⟨y0.toArray⟩] 9); refine step_append_own (by rfl) _ _ 38 (by rfl) w.heap.size 9 k0 (.string ByteArray.empty) 1 16 Tryd.underlying38 hk hy0 hy1 hy2 rfl (by decide) _ _ _ (by rfl) h5 ⟨w5.heap.size, 0, none⟩ 1 1 [.string ⟨y0.toArray⟩] (by rfl) (by rfl) (World.news_of_block (heap_alloc_new w5.drew _)) QB.out QC.out QD.out (Nat.le_trans QE.out (by simp [World.drew])) ?_; intro v6 w6 hown6 hgrow6; obtain ⟨A6, c6, rfl⟩ := own_shape hown6; have hap := LS.app (y := ⟨y0⟩) HLS5.out hgrow6 hown6; have HB6 := Lib.hid hap.1; have HLS6 := Lib.hid hap.2; have HI6 := Lib.hid (HK.out.below _ _ HI5.out ((Below.refl _ _).alloc (Nat.le_refl _) (.cells #[.string ⟨y0.toArray⟩] 9))); have HG6 := Lib.hid hgrow6; have f6 := HB6.out.frozen off; have c6' : w6.cell? ⟨ib, off, none⟩ = some (.slice A ys.length c) := (HB6.out.cell off).trans (by simp [hoff]); clear hown6 hap h5 hgrow6))
        all_goals
          clear cp5 cp6 d0
          have HI7 : Hid (Inv (w6.setCell ⟨ib, off, none⟩ (.slice A6 (ys.length + 1) c6))) := Lib.hid (by
            exact HK.out.app HI6.out HG6.out HLS5.out.own HB6.out HTI.out.1 HTI.out.2 (by decide) (by decide))
          go_wp2
          go_roundw
          case rel => exact ⟨k', ys ++ [⟨y0⟩], _, _, by go_num, by omega, HLS6, HC2, HG2, HI7⟩
          case measure => simp [intOf]

theorem PieceInfo : (Tryd.prog.info? 157).map (fun i => (i.zero, i.size, i.bytes)) = some (some (.agg #[.int .i64 0, .int .i64 0, .int .i64 0]), 3, 24) := by kernel_rfl
theorem PieceD.one (x : PieceD) : ∀ v ∈ x.parts, v.oneCell' = true := by
  intro v hv
  simp only [PieceD.parts, List.mem_cons, List.not_mem_nil, or_false] at hv
  rcases hv with rfl | rfl | rfl <;> rfl
/-- What the reading of this list leaves. -/
def GotListPiece (cb g ib off : Nat) (ti : TypeId) (ci : Array Value) (w : World) (st : St) (e : Ending) (wz : World) : Prop :=
  e = .returned (.tuple #[]) ∧ ∃ s : SlD PieceD, s.xs.map PieceD.pl = (rLst rPiece st).1 ∧ wz.ownsRow w.heap.size 157 3 (.slice s.A s.xs.length s.c) s.xs.length (s.xs.flatMap PieceD.parts) ∧
    Blk wz ib ti (ci.setIfInBounds off (.slice s.A s.xs.length s.c)) ∧ CR cb g (rLst rPiece st).2 wz ∧ Tw g ib w wz

set_option maxHeartbeats 8000000 in
set_option maxRecDepth 100000 in
theorem listPiece_r {cb g ib off : Nat} {w : World} {ti : TypeId} {ci : Array Value} {st : St} (Inv : World → Prop) (cap : Addr) (hK : KeepsR g Inv) (hI : Inv w) (h : CR cb g st w) (hg : st.Good) (hl : st.rest.length ≤ 1048576)
    (hp : Blk w ib ti ci) (hti : ti ≠ 157) (ht104 : ti ≠ 104) (ht110 : ti ≠ 110) (hpc : ib ≠ cb) (hpg : ib ≠ g) (hpv : ci[off]? = some (.slice none 0 0))
    (hone : ∀ (wx : World) (sx : St) (xb : Nat), Inv wx → CR cb g sx wx → sx.Good → sx.rest.length ≤ 1048576 → Blk wx xb 157 #[.int .i64 0, .int .i64 0, .int .i64 0] → xb ≠ cb → xb ≠ g →
      Calls Tryd.prog 71 #[.pointer (some ⟨xb, 0, none⟩), .pointer (some cap)] wx (fun e w2 => e = .returned (.tuple #[]) ∧ ∃ y : PieceD, y.pl = (rPiece sx).1 ∧ CR cb g (rPiece sx).2 w2 ∧ Blk w2 xb 157 y.parts.toArray ∧ Tw g xb wx w2)) :
    Calls Tryd.prog 70 #[.pointer (some ⟨cb, 0, none⟩), .pointer (some ⟨ib, off, none⟩), .func (.func 71) #[] #[.pointer (some cap)]] w (GotListPiece cb g ib off ti ci w st) := by
  obtain ⟨k0, hk, hy0, hy1, hy2⟩ := info_parts PieceInfo
  have HONE := Lib.hid hone
  have HK := Lib.hid hK
  have hiblt := hp.lt
  have hoff : off < ci.size := by
    rcases Nat.lt_or_ge off ci.size with h1 | h1
    · exact h1
    · rw [Array.getElem?_eq_none h1] at hpv; cases hpv
  have hci : ci.setIfInBounds off (.slice none 0 0) = ci := by
    apply Array.ext_getElem?
    intro j
    rw [Array.getElem?_setIfInBounds]
    split
    · rename_i hj; subst hj; first | rw [if_pos hoff, hpv] | rw [hpv]
    · rfl
  have HLS0 : Hid (LS PieceD.parts 3 157 ti cb g ib off ci w [] (.slice none 0 0) st w) := Lib.hid ⟨h, by rw [hci]; exact hp, World.ownsRow_nil _ _ _ _, Tw.refl _ _ _, hiblt, hpg, hpc, hoff, by decide, by decide, hti⟩
  have HN := Lib.hid (rNum_any g st w h.rd (by omega))
  have hn1 := rNum_lt st
  have hn2 := rNum_rest_le st
  have HG1 := Lib.hid (rNum_good st hg)
  have cin := h.in_
  have HI := Lib.hid hI
  have HRL : Hid (rLst rPiece st = rItems rPiece (rNum st).1 (rNum st).2) := rfl
  unfold GotListPiece
  obtain ⟨RES, hRES⟩ : ∃ R, rLst rPiece st = R := ⟨_, rfl⟩
  rw [hRES] at HRL ⊢
  generalize rNum st = z at HN hn1 hn2 HG1 HRL
  obtain ⟨nn, s1⟩ := z
  simp only at HN hn1 hn2 HG1 HRL
  have hnn : (nn : Int) ≤ 9223372036854775807 := by omega
  have HTI := Lib.hid (And.intro ht104 ht110)
  clear hRES hone hK h hg hp hti ht104 ht110 hpc hpg hpv hci hI hn1
  go_enter Tryd.func70, Tryd.ntmps70
  go_wp2_with fail
  refine (HN.out).mono ?_
  rintro r w1 ⟨rfl, hr1⟩
  have HLS1 : Hid (LS PieceD.parts 3 157 ti cb g ib off ci w [] (.slice none 0 0) s1 w1) := Lib.hid (by
    have h0 := HLS0.out
    exact ⟨h0.cr.to_ hr1, h0.blk.grown hr1.only (by simpa using h0.hg), World.ownsRow_nil _ _ _ _, h0.tw.trans (Tw.of_only hr1.only), h0.hib, h0.hg, h0.hc, h0.off, h0.t98, h0.t83, h0.tti⟩)
  have HI1 : Hid (Inv w1) := Lib.hid (HK.out.tw w w1 ib ti _ st HI.out HLS0.out.cr.rd HLS0.out.blk HTI.out.1 HTI.out.2 (Tw.of_only hr1.only))
  clear hr1 HN HI HLS0 cin
  go_wp2_with fail
  go_loopw [8] (fun vn wr => ∃ (kk : Nat) (ys : List PieceD) (v : Value) (sx : St), vn = .int .i64 kk ∧ (kk : Int) ≤ 9223372036854775807 ∧ Hid (LS PieceD.parts 3 157 ti cb g ib off ci w ys v sx wr) ∧ Hid (Came rPiece 1048576 nn s1 kk (ys.map PieceD.pl) sx) ∧ Hid sx.Good ∧ Hid (Inv wr)) (fun vn _ => (intOf vn).toNat)
  case atStart => exact ⟨nn, [], _, s1, rfl, hnn, HLS1, Came.start (by omega), HG1, HI1⟩
  case round =>
    clear HLS1 HG1 HI1
    obtain ⟨kk, ys, v, sx, rfl, hkk, HLS, HCA, HG, HI⟩ := hrel
    obtain ⟨A, c, rfl⟩ := own_shape HLS.out.own
    have hyl := HCA.out.len
    rw [List.length_map] at hyl
    have hrl := HCA.out.rest
    have cp := HLS.out.cell
    have HFA := Lib.hid (failed_any cb g sx wr HLS.out.cr HG.out)
    by_cases hk0 : kk = 0
    · have HST := Lib.hid (HCA.out.stop (.inl hk0))
      subst hk0
      go_wp2
      go_end0
      exact ⟨rfl, ⟨A, c, ys⟩, by rw [HRL.out, HST.out], HLS.out.own, HLS.out.blk, by rw [HRL.out, HST.out]; exact HLS.out.cr, HLS.out.tw⟩
    · have hk1 : 1 ≤ kk := by omega
      have hki : (0 : Int) < (kk : Int) := by omega
      cases hb : sx.bad with
      | true =>
        have HST := Lib.hid (HCA.out.stop (.inr hb))
        rw [hb] at HFA
        clear hb hk0
        go_wp2_with fail
        refine (HFA.out).mono ?_
        rintro r w2 ⟨rfl, rfl⟩
        go_wp2
        go_end0
        exact ⟨rfl, ⟨A, c, ys⟩, by rw [HRL.out, HST.out], HLS.out.own, HLS.out.blk, by rw [HRL.out, HST.out]; exact HLS.out.cr, HLS.out.tw⟩
      | false =>
        obtain ⟨k', rfl⟩ : ∃ k', kk = k' + 1 := ⟨kk - 1, by omega⟩
        have HC2 := Lib.hid (HCA.out.step rPiece_less rPiece_rok.le hb)
        have HG2 := Lib.hid (rPiece_rok.good sx HG.out)
        rw [hb] at HFA
        have HXB := Lib.hid (HONE.out (wr.alloc (.cells #[.int .i64 0, .int .i64 0, .int .i64 0] 157)) sx wr.heap.size (HK.out.below _ _ HI.out ((Below.refl _ _).alloc (Nat.le_refl _) _)) (HLS.out.cr.alloc _) HG.out hrl (Blk.new _ _ _) (by have := HLS.out.cr.blk.lt; omega) (by have := HLS.out.cr.rd.lt; omega))
        have HIa := Lib.hid (HK.out.below _ _ HI.out ((Below.refl wr.heap.size wr).alloc (Nat.le_refl _) (.cells #[.int .i64 0, .int .i64 0, .int .i64 0] 157)))
        have hsz0 := HLS.out.size
        clear hb hk0 HCA HG
        go_wp2_with fail
        refine (HFA.out).mono ?_
        rintro r w2 ⟨rfl, rfl⟩
        go_wp2_with fail
        refine (HXB.out).mono ?_
        rintro r w5 ⟨rfl, y, hpl, hc5, hx5, ht5⟩
        have HLS5 := Lib.hid ((HLS.out.elem hc5 ht5).keep (Below.drew (Below.refl _ _)))
        have HX5 : Hid (Blk w5.drew wr.heap.size 157 y.parts.toArray) := hx5
        have HI5 : Hid (Inv w5.drew) := Lib.hid (HK.out.below _ _ (HK.out.tw _ _ wr.heap.size 157 _ sx HIa.out (Blk.alloc HLS.out.cr.rd _) (Blk.new _ _ _) (by decide) (by decide) ht5) (Below.drew (Below.refl _ _)))
        rw [← hpl] at HC2
        have HPN := Lib.hid (show (ys ++ [y]).map PieceD.pl = ys.map PieceD.pl ++ [y.pl] by simp)
        rw [← HPN.out] at HC2
        have QB := Lib.hid (PieceD.one y)
        have QC : Hid (ys.length + 1 ≤ maxLen) := by show _ ≤ _; unfold maxLen; omega
        have QD : Hid ((ys.length + 1) * 24 ≤ 140737488355328) := by show _ ≤ _; omega
        have QE : Hid (w.heap.size ≤ w5.heap.size) := Lib.hid (Nat.le_trans hsz0 (Nat.le_trans (by simp) ht5.size))
        clear hpl hc5 hx5 ht5 HXB HIa HLS HI cp HFA  
        have cx := HX5.out.cell
        obtain ⟨y0, y1, y2⟩ := y
        simp only [PieceD.parts] at HX5 QB
        have d0 : w5.cell? ⟨wr.heap.size, 0, none⟩ = some (.int .i64 y0) := HX5.out.cell 0
        have d1 : w5.cell? ⟨wr.heap.size, 1, none⟩ = some (.int .i64 y1) := HX5.out.cell 1
        have d2 : w5.cell? ⟨wr.heap.size, 2, none⟩ = some (.int .i64 y2) := HX5.out.cell 2
        clear cx
        have cp5 : w5.cell? ⟨ib, off, none⟩ = some (.slice A ys.length c) := HLS5.out.cell
        have cp6 : (w5.alloc (.cells #[.int .i64 y0, .int .i64 y1, .int .i64 y2] 157)).cell? ⟨ib, off, none⟩ = some (.slice A ys.length c) := HLS5.out.cellA _
        go_wp2_with fail
        go_region_law
          ((have h5 := HLS5.out.own.alloc (.cells #[.int .i64 y0, .int .i64 y1, .int .i64 y2] 157); refine step_append_own (by rfl) _ _ 150 (by rfl) w.heap.size 157 k0 (.agg #[.int .i64 0, .int .i64 0, .int .i64 0]) 3 24 Tryd.underlying150 hk hy0 hy1 hy2 rfl (by decide) _ _ _ (by rfl) h5 ⟨w5.heap.size, 0, none⟩ 1 1 [.int .i64 y0, .int .i64 y1, .int .i64 y2] (by rfl) (by rfl) (World.news_of_block (heap_alloc_new w5.drew _)) QB.out QC.out QD.out (Nat.le_trans QE.out (by simp [World.drew])) ?_; intro v6 w6 hown6 hgrow6; obtain ⟨A6, c6, rfl⟩ := own_shape hown6; have hap := LS.app (y := ⟨y0, y1, y2⟩) HLS5.out hgrow6 hown6; have HB6 := Lib.hid hap.1; have HLS6 := Lib.hid hap.2; have HI6 := Lib.hid (HK.out.below _ _ HI5.out ((Below.refl _ _).alloc (Nat.le_refl _) (.cells #[.int .i64 y0, .int .i64 y1, .int .i64 y2] 157))); have HG6 := Lib.hid hgrow6; have f6 := HB6.out.frozen off; have c6' : w6.cell? ⟨ib, off, none⟩ = some (.slice A ys.length c) := (HB6.out.cell off).trans (by simp [hoff]); clear hown6 hap h5 hgrow6))
        all_goals
          clear cp5 cp6 d0 d1 d2
          have HI7 : Hid (Inv (w6.setCell ⟨ib, off, none⟩ (.slice A6 (ys.length + 1) c6))) := Lib.hid (by
            exact HK.out.app HI6.out HG6.out HLS5.out.own HB6.out HTI.out.1 HTI.out.2 (by decide) (by decide))
          go_wp2
          go_roundw
          case rel => exact ⟨k', ys ++ [⟨y0, y1, y2⟩], _, _, by go_num, by omega, HLS6, HC2, HG2, HI7⟩
          case measure => simp [intOf]

theorem PlacedInfo : (Tryd.prog.info? 115).map (fun i => (i.zero, i.size, i.bytes)) = some (some (.agg #[.string ByteArray.empty, .string ByteArray.empty, .int .i64 0, .int .i64 0, .int .i64 0, .string ByteArray.empty, .string ByteArray.empty]), 7, 88) := by kernel_rfl
theorem PlacedD.one (x : PlacedD) : ∀ v ∈ x.parts, v.oneCell' = true := by
  intro v hv
  simp only [PlacedD.parts, List.mem_cons, List.not_mem_nil, or_false] at hv
  rcases hv with rfl | rfl | rfl | rfl | rfl | rfl | rfl <;> rfl
/-- What the reading of this list leaves. -/
def GotListPlaced (cb g ib off : Nat) (ti : TypeId) (ci : Array Value) (w : World) (st : St) (e : Ending) (wz : World) : Prop :=
  e = .returned (.tuple #[]) ∧ ∃ s : SlD PlacedD, s.xs.map PlacedD.pl = (rLst rPlaced st).1 ∧ wz.ownsRow w.heap.size 115 7 (.slice s.A s.xs.length s.c) s.xs.length (s.xs.flatMap PlacedD.parts) ∧
    Blk wz ib ti (ci.setIfInBounds off (.slice s.A s.xs.length s.c)) ∧ CR cb g (rLst rPlaced st).2 wz ∧ Tw g ib w wz

set_option maxHeartbeats 8000000 in
set_option maxRecDepth 100000 in
theorem listPlaced_r {cb g ib off : Nat} {w : World} {ti : TypeId} {ci : Array Value} {st : St} (Inv : World → Prop) (cap : Addr) (hK : KeepsR g Inv) (hI : Inv w) (h : CR cb g st w) (hg : st.Good) (hl : st.rest.length ≤ 1048576)
    (hp : Blk w ib ti ci) (hti : ti ≠ 115) (ht104 : ti ≠ 104) (ht110 : ti ≠ 110) (hpc : ib ≠ cb) (hpg : ib ≠ g) (hpv : ci[off]? = some (.slice none 0 0))
    (hone : ∀ (wx : World) (sx : St) (xb : Nat), Inv wx → CR cb g sx wx → sx.Good → sx.rest.length ≤ 1048576 → Blk wx xb 115 #[.string ⟨#[]⟩, .string ⟨#[]⟩, .int .i64 0, .int .i64 0, .int .i64 0, .string ⟨#[]⟩, .string ⟨#[]⟩] → xb ≠ cb → xb ≠ g →
      Calls Tryd.prog 56 #[.pointer (some ⟨xb, 0, none⟩), .pointer (some cap)] wx (fun e w2 => e = .returned (.tuple #[]) ∧ ∃ y : PlacedD, y.pl = (rPlaced sx).1 ∧ CR cb g (rPlaced sx).2 w2 ∧ Blk w2 xb 115 y.parts.toArray ∧ Tw g xb wx w2)) :
    Calls Tryd.prog 55 #[.pointer (some ⟨cb, 0, none⟩), .pointer (some ⟨ib, off, none⟩), .func (.func 56) #[] #[.pointer (some cap)]] w (GotListPlaced cb g ib off ti ci w st) := by
  obtain ⟨k0, hk, hy0, hy1, hy2⟩ := info_parts PlacedInfo
  have HONE := Lib.hid hone
  have HK := Lib.hid hK
  have hiblt := hp.lt
  have hoff : off < ci.size := by
    rcases Nat.lt_or_ge off ci.size with h1 | h1
    · exact h1
    · rw [Array.getElem?_eq_none h1] at hpv; cases hpv
  have hci : ci.setIfInBounds off (.slice none 0 0) = ci := by
    apply Array.ext_getElem?
    intro j
    rw [Array.getElem?_setIfInBounds]
    split
    · rename_i hj; subst hj; first | rw [if_pos hoff, hpv] | rw [hpv]
    · rfl
  have HLS0 : Hid (LS PlacedD.parts 7 115 ti cb g ib off ci w [] (.slice none 0 0) st w) := Lib.hid ⟨h, by rw [hci]; exact hp, World.ownsRow_nil _ _ _ _, Tw.refl _ _ _, hiblt, hpg, hpc, hoff, by decide, by decide, hti⟩
  have HN := Lib.hid (rNum_any g st w h.rd (by omega))
  have hn1 := rNum_lt st
  have hn2 := rNum_rest_le st
  have HG1 := Lib.hid (rNum_good st hg)
  have cin := h.in_
  have HI := Lib.hid hI
  have HRL : Hid (rLst rPlaced st = rItems rPlaced (rNum st).1 (rNum st).2) := rfl
  unfold GotListPlaced
  obtain ⟨RES, hRES⟩ : ∃ R, rLst rPlaced st = R := ⟨_, rfl⟩
  rw [hRES] at HRL ⊢
  generalize rNum st = z at HN hn1 hn2 HG1 HRL
  obtain ⟨nn, s1⟩ := z
  simp only at HN hn1 hn2 HG1 HRL
  have hnn : (nn : Int) ≤ 9223372036854775807 := by omega
  have HTI := Lib.hid (And.intro ht104 ht110)
  clear hRES hone hK h hg hp hti ht104 ht110 hpc hpg hpv hci hI hn1
  go_enter Tryd.func55, Tryd.ntmps55
  go_wp2_with fail
  refine (HN.out).mono ?_
  rintro r w1 ⟨rfl, hr1⟩
  have HLS1 : Hid (LS PlacedD.parts 7 115 ti cb g ib off ci w [] (.slice none 0 0) s1 w1) := Lib.hid (by
    have h0 := HLS0.out
    exact ⟨h0.cr.to_ hr1, h0.blk.grown hr1.only (by simpa using h0.hg), World.ownsRow_nil _ _ _ _, h0.tw.trans (Tw.of_only hr1.only), h0.hib, h0.hg, h0.hc, h0.off, h0.t98, h0.t83, h0.tti⟩)
  have HI1 : Hid (Inv w1) := Lib.hid (HK.out.tw w w1 ib ti _ st HI.out HLS0.out.cr.rd HLS0.out.blk HTI.out.1 HTI.out.2 (Tw.of_only hr1.only))
  clear hr1 HN HI HLS0 cin
  go_wp2_with fail
  go_loopw [8] (fun vn wr => ∃ (kk : Nat) (ys : List PlacedD) (v : Value) (sx : St), vn = .int .i64 kk ∧ (kk : Int) ≤ 9223372036854775807 ∧ Hid (LS PlacedD.parts 7 115 ti cb g ib off ci w ys v sx wr) ∧ Hid (Came rPlaced 1048576 nn s1 kk (ys.map PlacedD.pl) sx) ∧ Hid sx.Good ∧ Hid (Inv wr)) (fun vn _ => (intOf vn).toNat)
  case atStart => exact ⟨nn, [], _, s1, rfl, hnn, HLS1, Came.start (by omega), HG1, HI1⟩
  case round =>
    clear HLS1 HG1 HI1
    obtain ⟨kk, ys, v, sx, rfl, hkk, HLS, HCA, HG, HI⟩ := hrel
    obtain ⟨A, c, rfl⟩ := own_shape HLS.out.own
    have hyl := HCA.out.len
    rw [List.length_map] at hyl
    have hrl := HCA.out.rest
    have cp := HLS.out.cell
    have HFA := Lib.hid (failed_any cb g sx wr HLS.out.cr HG.out)
    by_cases hk0 : kk = 0
    · have HST := Lib.hid (HCA.out.stop (.inl hk0))
      subst hk0
      go_wp2
      go_end0
      exact ⟨rfl, ⟨A, c, ys⟩, by rw [HRL.out, HST.out], HLS.out.own, HLS.out.blk, by rw [HRL.out, HST.out]; exact HLS.out.cr, HLS.out.tw⟩
    · have hk1 : 1 ≤ kk := by omega
      have hki : (0 : Int) < (kk : Int) := by omega
      cases hb : sx.bad with
      | true =>
        have HST := Lib.hid (HCA.out.stop (.inr hb))
        rw [hb] at HFA
        clear hb hk0
        go_wp2_with fail
        refine (HFA.out).mono ?_
        rintro r w2 ⟨rfl, rfl⟩
        go_wp2
        go_end0
        exact ⟨rfl, ⟨A, c, ys⟩, by rw [HRL.out, HST.out], HLS.out.own, HLS.out.blk, by rw [HRL.out, HST.out]; exact HLS.out.cr, HLS.out.tw⟩
      | false =>
        obtain ⟨k', rfl⟩ : ∃ k', kk = k' + 1 := ⟨kk - 1, by omega⟩
        have HC2 := Lib.hid (HCA.out.step rPlaced_less rPlaced_rok.le hb)
        have HG2 := Lib.hid (rPlaced_rok.good sx HG.out)
        rw [hb] at HFA
        have HXB := Lib.hid (HONE.out (wr.alloc (.cells #[.string ⟨#[]⟩, .string ⟨#[]⟩, .int .i64 0, .int .i64 0, .int .i64 0, .string ⟨#[]⟩, .string ⟨#[]⟩] 115)) sx wr.heap.size (HK.out.below _ _ HI.out ((Below.refl _ _).alloc (Nat.le_refl _) _)) (HLS.out.cr.alloc _) HG.out hrl (Blk.new _ _ _) (by have := HLS.out.cr.blk.lt; omega) (by have := HLS.out.cr.rd.lt; omega))
        have HIa := Lib.hid (HK.out.below _ _ HI.out ((Below.refl wr.heap.size wr).alloc (Nat.le_refl _) (.cells #[.string ⟨#[]⟩, .string ⟨#[]⟩, .int .i64 0, .int .i64 0, .int .i64 0, .string ⟨#[]⟩, .string ⟨#[]⟩] 115)))
        have hsz0 := HLS.out.size
        clear hb hk0 HCA HG
        go_wp2_with fail
        refine (HFA.out).mono ?_
        rintro r w2 ⟨rfl, rfl⟩
        go_wp2_with fail
        refine (HXB.out).mono ?_
        rintro r w5 ⟨rfl, y, hpl, hc5, hx5, ht5⟩
        have HLS5 := Lib.hid ((HLS.out.elem hc5 ht5).keep (Below.drew (Below.refl _ _)))
        have HX5 : Hid (Blk w5.drew wr.heap.size 115 y.parts.toArray) := hx5
        have HI5 : Hid (Inv w5.drew) := Lib.hid (HK.out.below _ _ (HK.out.tw _ _ wr.heap.size 115 _ sx HIa.out (Blk.alloc HLS.out.cr.rd _) (Blk.new _ _ _) (by decide) (by decide) ht5) (Below.drew (Below.refl _ _)))
        rw [← hpl] at HC2
        have HPN := Lib.hid (show (ys ++ [y]).map PlacedD.pl = ys.map PlacedD.pl ++ [y.pl] by simp)
        rw [← HPN.out] at HC2
        have QB := Lib.hid (PlacedD.one y)
        have QC : Hid (ys.length + 1 ≤ maxLen) := by show _ ≤ _; unfold maxLen; omega
        have QD : Hid ((ys.length + 1) * 88 ≤ 140737488355328) := by show _ ≤ _; omega
        have QE : Hid (w.heap.size ≤ w5.heap.size) := Lib.hid (Nat.le_trans hsz0 (Nat.le_trans (by simp) ht5.size))
        clear hpl hc5 hx5 ht5 HXB HIa HLS HI cp HFA  
        have cx := HX5.out.cell
        obtain ⟨y0, y1, y2, y3, y4, y5, y6⟩ := y
        simp only [PlacedD.parts] at HX5 QB
        have d0 : w5.cell? ⟨wr.heap.size, 0, none⟩ = some (.string ⟨y0.toArray⟩) := HX5.out.cell 0
        have d1 : w5.cell? ⟨wr.heap.size, 1, none⟩ = some (.string ⟨y1.toArray⟩) := HX5.out.cell 1
        have d2 : w5.cell? ⟨wr.heap.size, 2, none⟩ = some (.int .i64 y2) := HX5.out.cell 2
        have d3 : w5.cell? ⟨wr.heap.size, 3, none⟩ = some (.int .i64 y3) := HX5.out.cell 3
        have d4 : w5.cell? ⟨wr.heap.size, 4, none⟩ = some (.int .i64 y4) := HX5.out.cell 4
        have d5 : w5.cell? ⟨wr.heap.size, 5, none⟩ = some (.string ⟨y5.toArray⟩) := HX5.out.cell 5
        have d6 : w5.cell? ⟨wr.heap.size, 6, none⟩ = some (.string ⟨y6.toArray⟩) := HX5.out.cell 6
        clear cx
        have cp5 : w5.cell? ⟨ib, off, none⟩ = some (.slice A ys.length c) := HLS5.out.cell
        have cp6 : (w5.alloc (.cells #[.string ⟨y0.toArray⟩, .string ⟨y1.toArray⟩, .int .i64 y2, .int .i64 y3, .int .i64 y4, .string ⟨y5.toArray⟩, .string ⟨y6.toArray⟩] 115)).cell? ⟨ib, off, none⟩ = some (.slice A ys.length c) := HLS5.out.cellA _
        go_wp2_with fail
        go_region_law
          ((have h5 := HLS5.out.own.alloc (.cells #[.string ⟨y0.toArray⟩, .string ⟨y1.toArray⟩, .int .i64 y2, .int .i64 y3, .int .i64 y4, .string ⟨y5.toArray⟩, .string ⟨y6.toArray⟩] 115); refine step_append_own (by rfl) _ _ 33 (by rfl) w.heap.size 115 k0 (.agg #[.string ByteArray.empty, .string ByteArray.empty, .int .i64 0, .int .i64 0, .int .i64 0, .string ByteArray.empty, .string ByteArray.empty]) 7 88 Tryd.underlying33 hk hy0 hy1 hy2 rfl (by decide) _ _ _ (by rfl) h5 ⟨w5.heap.size, 0, none⟩ 1 1 [.string ⟨y0.toArray⟩, .string ⟨y1.toArray⟩, .int .i64 y2, .int .i64 y3, .int .i64 y4, .string ⟨y5.toArray⟩, .string ⟨y6.toArray⟩] (by rfl) (by rfl) (World.news_of_block (heap_alloc_new w5.drew _)) QB.out QC.out QD.out (Nat.le_trans QE.out (by simp [World.drew])) ?_; intro v6 w6 hown6 hgrow6; obtain ⟨A6, c6, rfl⟩ := own_shape hown6; have hap := LS.app (y := ⟨y0, y1, y2, y3, y4, y5, y6⟩) HLS5.out hgrow6 hown6; have HB6 := Lib.hid hap.1; have HLS6 := Lib.hid hap.2; have HI6 := Lib.hid (HK.out.below _ _ HI5.out ((Below.refl _ _).alloc (Nat.le_refl _) (.cells #[.string ⟨y0.toArray⟩, .string ⟨y1.toArray⟩, .int .i64 y2, .int .i64 y3, .int .i64 y4, .string ⟨y5.toArray⟩, .string ⟨y6.toArray⟩] 115))); have HG6 := Lib.hid hgrow6; have f6 := HB6.out.frozen off; have c6' : w6.cell? ⟨ib, off, none⟩ = some (.slice A ys.length c) := (HB6.out.cell off).trans (by simp [hoff]); clear hown6 hap h5 hgrow6))
        all_goals
          clear cp5 cp6 d0 d1 d2 d3 d4 d5 d6
          have HI7 : Hid (Inv (w6.setCell ⟨ib, off, none⟩ (.slice A6 (ys.length + 1) c6))) := Lib.hid (by
            exact HK.out.app HI6.out HG6.out HLS5.out.own HB6.out HTI.out.1 HTI.out.2 (by decide) (by decide))
          go_wp2
          go_roundw
          case rel => exact ⟨k', ys ++ [⟨y0, y1, y2, y3, y4, y5, y6⟩], _, _, by go_num, by omega, HLS6, HC2, HG2, HI7⟩
          case measure => simp [intOf]

theorem ExportInfo : (Tryd.prog.info? 121).map (fun i => (i.zero, i.size, i.bytes)) = some (some (.agg #[.string ByteArray.empty, .string ByteArray.empty, .bool false, .int .i64 0, .int .i64 0, .int .i64 0]), 6, 64) := by kernel_rfl
theorem ExportD.one (x : ExportD) : ∀ v ∈ x.parts, v.oneCell' = true := by
  intro v hv
  simp only [ExportD.parts, List.mem_cons, List.not_mem_nil, or_false] at hv
  rcases hv with rfl | rfl | rfl | rfl | rfl | rfl <;> rfl
/-- What the reading of this list leaves. -/
def GotListExport (cb g ib off : Nat) (ti : TypeId) (ci : Array Value) (w : World) (st : St) (e : Ending) (wz : World) : Prop :=
  e = .returned (.tuple #[]) ∧ ∃ s : SlD ExportD, s.xs.map ExportD.pl = (rLst rExport st).1 ∧ wz.ownsRow w.heap.size 121 6 (.slice s.A s.xs.length s.c) s.xs.length (s.xs.flatMap ExportD.parts) ∧
    Blk wz ib ti (ci.setIfInBounds off (.slice s.A s.xs.length s.c)) ∧ CR cb g (rLst rExport st).2 wz ∧ Tw g ib w wz

set_option maxHeartbeats 8000000 in
set_option maxRecDepth 100000 in
theorem listExport_r {cb g ib off : Nat} {w : World} {ti : TypeId} {ci : Array Value} {st : St} (Inv : World → Prop) (cap : Addr) (hK : KeepsR g Inv) (hI : Inv w) (h : CR cb g st w) (hg : st.Good) (hl : st.rest.length ≤ 1048576)
    (hp : Blk w ib ti ci) (hti : ti ≠ 121) (ht104 : ti ≠ 104) (ht110 : ti ≠ 110) (hpc : ib ≠ cb) (hpg : ib ≠ g) (hpv : ci[off]? = some (.slice none 0 0))
    (hone : ∀ (wx : World) (sx : St) (xb : Nat), Inv wx → CR cb g sx wx → sx.Good → sx.rest.length ≤ 1048576 → Blk wx xb 121 #[.string ⟨#[]⟩, .string ⟨#[]⟩, .bool false, .int .i64 0, .int .i64 0, .int .i64 0] → xb ≠ cb → xb ≠ g →
      Calls Tryd.prog 58 #[.pointer (some ⟨xb, 0, none⟩), .pointer (some cap)] wx (fun e w2 => e = .returned (.tuple #[]) ∧ ∃ y : ExportD, y.pl = (rExport sx).1 ∧ CR cb g (rExport sx).2 w2 ∧ Blk w2 xb 121 y.parts.toArray ∧ Tw g xb wx w2)) :
    Calls Tryd.prog 57 #[.pointer (some ⟨cb, 0, none⟩), .pointer (some ⟨ib, off, none⟩), .func (.func 58) #[] #[.pointer (some cap)]] w (GotListExport cb g ib off ti ci w st) := by
  obtain ⟨k0, hk, hy0, hy1, hy2⟩ := info_parts ExportInfo
  have HONE := Lib.hid hone
  have HK := Lib.hid hK
  have hiblt := hp.lt
  have hoff : off < ci.size := by
    rcases Nat.lt_or_ge off ci.size with h1 | h1
    · exact h1
    · rw [Array.getElem?_eq_none h1] at hpv; cases hpv
  have hci : ci.setIfInBounds off (.slice none 0 0) = ci := by
    apply Array.ext_getElem?
    intro j
    rw [Array.getElem?_setIfInBounds]
    split
    · rename_i hj; subst hj; first | rw [if_pos hoff, hpv] | rw [hpv]
    · rfl
  have HLS0 : Hid (LS ExportD.parts 6 121 ti cb g ib off ci w [] (.slice none 0 0) st w) := Lib.hid ⟨h, by rw [hci]; exact hp, World.ownsRow_nil _ _ _ _, Tw.refl _ _ _, hiblt, hpg, hpc, hoff, by decide, by decide, hti⟩
  have HN := Lib.hid (rNum_any g st w h.rd (by omega))
  have hn1 := rNum_lt st
  have hn2 := rNum_rest_le st
  have HG1 := Lib.hid (rNum_good st hg)
  have cin := h.in_
  have HI := Lib.hid hI
  have HRL : Hid (rLst rExport st = rItems rExport (rNum st).1 (rNum st).2) := rfl
  unfold GotListExport
  obtain ⟨RES, hRES⟩ : ∃ R, rLst rExport st = R := ⟨_, rfl⟩
  rw [hRES] at HRL ⊢
  generalize rNum st = z at HN hn1 hn2 HG1 HRL
  obtain ⟨nn, s1⟩ := z
  simp only at HN hn1 hn2 HG1 HRL
  have hnn : (nn : Int) ≤ 9223372036854775807 := by omega
  have HTI := Lib.hid (And.intro ht104 ht110)
  clear hRES hone hK h hg hp hti ht104 ht110 hpc hpg hpv hci hI hn1
  go_enter Tryd.func57, Tryd.ntmps57
  go_wp2_with fail
  refine (HN.out).mono ?_
  rintro r w1 ⟨rfl, hr1⟩
  have HLS1 : Hid (LS ExportD.parts 6 121 ti cb g ib off ci w [] (.slice none 0 0) s1 w1) := Lib.hid (by
    have h0 := HLS0.out
    exact ⟨h0.cr.to_ hr1, h0.blk.grown hr1.only (by simpa using h0.hg), World.ownsRow_nil _ _ _ _, h0.tw.trans (Tw.of_only hr1.only), h0.hib, h0.hg, h0.hc, h0.off, h0.t98, h0.t83, h0.tti⟩)
  have HI1 : Hid (Inv w1) := Lib.hid (HK.out.tw w w1 ib ti _ st HI.out HLS0.out.cr.rd HLS0.out.blk HTI.out.1 HTI.out.2 (Tw.of_only hr1.only))
  clear hr1 HN HI HLS0 cin
  go_wp2_with fail
  go_loopw [8] (fun vn wr => ∃ (kk : Nat) (ys : List ExportD) (v : Value) (sx : St), vn = .int .i64 kk ∧ (kk : Int) ≤ 9223372036854775807 ∧ Hid (LS ExportD.parts 6 121 ti cb g ib off ci w ys v sx wr) ∧ Hid (Came rExport 1048576 nn s1 kk (ys.map ExportD.pl) sx) ∧ Hid sx.Good ∧ Hid (Inv wr)) (fun vn _ => (intOf vn).toNat)
  case atStart => exact ⟨nn, [], _, s1, rfl, hnn, HLS1, Came.start (by omega), HG1, HI1⟩
  case round =>
    clear HLS1 HG1 HI1
    obtain ⟨kk, ys, v, sx, rfl, hkk, HLS, HCA, HG, HI⟩ := hrel
    obtain ⟨A, c, rfl⟩ := own_shape HLS.out.own
    have hyl := HCA.out.len
    rw [List.length_map] at hyl
    have hrl := HCA.out.rest
    have cp := HLS.out.cell
    have HFA := Lib.hid (failed_any cb g sx wr HLS.out.cr HG.out)
    by_cases hk0 : kk = 0
    · have HST := Lib.hid (HCA.out.stop (.inl hk0))
      subst hk0
      go_wp2
      go_end0
      exact ⟨rfl, ⟨A, c, ys⟩, by rw [HRL.out, HST.out], HLS.out.own, HLS.out.blk, by rw [HRL.out, HST.out]; exact HLS.out.cr, HLS.out.tw⟩
    · have hk1 : 1 ≤ kk := by omega
      have hki : (0 : Int) < (kk : Int) := by omega
      cases hb : sx.bad with
      | true =>
        have HST := Lib.hid (HCA.out.stop (.inr hb))
        rw [hb] at HFA
        clear hb hk0
        go_wp2_with fail
        refine (HFA.out).mono ?_
        rintro r w2 ⟨rfl, rfl⟩
        go_wp2
        go_end0
        exact ⟨rfl, ⟨A, c, ys⟩, by rw [HRL.out, HST.out], HLS.out.own, HLS.out.blk, by rw [HRL.out, HST.out]; exact HLS.out.cr, HLS.out.tw⟩
      | false =>
        obtain ⟨k', rfl⟩ : ∃ k', kk = k' + 1 := ⟨kk - 1, by omega⟩
        have HC2 := Lib.hid (HCA.out.step rExport_less rExport_rok.le hb)
        have HG2 := Lib.hid (rExport_rok.good sx HG.out)
        rw [hb] at HFA
        have HXB := Lib.hid (HONE.out (wr.alloc (.cells #[.string ⟨#[]⟩, .string ⟨#[]⟩, .bool false, .int .i64 0, .int .i64 0, .int .i64 0] 121)) sx wr.heap.size (HK.out.below _ _ HI.out ((Below.refl _ _).alloc (Nat.le_refl _) _)) (HLS.out.cr.alloc _) HG.out hrl (Blk.new _ _ _) (by have := HLS.out.cr.blk.lt; omega) (by have := HLS.out.cr.rd.lt; omega))
        have HIa := Lib.hid (HK.out.below _ _ HI.out ((Below.refl wr.heap.size wr).alloc (Nat.le_refl _) (.cells #[.string ⟨#[]⟩, .string ⟨#[]⟩, .bool false, .int .i64 0, .int .i64 0, .int .i64 0] 121)))
        have hsz0 := HLS.out.size
        clear hb hk0 HCA HG
        go_wp2_with fail
        refine (HFA.out).mono ?_
        rintro r w2 ⟨rfl, rfl⟩
        go_wp2_with fail
        refine (HXB.out).mono ?_
        rintro r w5 ⟨rfl, y, hpl, hc5, hx5, ht5⟩
        have HLS5 := Lib.hid ((HLS.out.elem hc5 ht5).keep (Below.drew (Below.refl _ _)))
        have HX5 : Hid (Blk w5.drew wr.heap.size 121 y.parts.toArray) := hx5
        have HI5 : Hid (Inv w5.drew) := Lib.hid (HK.out.below _ _ (HK.out.tw _ _ wr.heap.size 121 _ sx HIa.out (Blk.alloc HLS.out.cr.rd _) (Blk.new _ _ _) (by decide) (by decide) ht5) (Below.drew (Below.refl _ _)))
        rw [← hpl] at HC2
        have HPN := Lib.hid (show (ys ++ [y]).map ExportD.pl = ys.map ExportD.pl ++ [y.pl] by simp)
        rw [← HPN.out] at HC2
        have QB := Lib.hid (ExportD.one y)
        have QC : Hid (ys.length + 1 ≤ maxLen) := by show _ ≤ _; unfold maxLen; omega
        have QD : Hid ((ys.length + 1) * 64 ≤ 140737488355328) := by show _ ≤ _; omega
        have QE : Hid (w.heap.size ≤ w5.heap.size) := Lib.hid (Nat.le_trans hsz0 (Nat.le_trans (by simp) ht5.size))
        clear hpl hc5 hx5 ht5 HXB HIa HLS HI cp HFA  
        have cx := HX5.out.cell
        obtain ⟨y0, y1, y2, y3, y4, y5⟩ := y
        simp only [ExportD.parts] at HX5 QB
        have d0 : w5.cell? ⟨wr.heap.size, 0, none⟩ = some (.string ⟨y0.toArray⟩) := HX5.out.cell 0
        have d1 : w5.cell? ⟨wr.heap.size, 1, none⟩ = some (.string ⟨y1.toArray⟩) := HX5.out.cell 1
        have d2 : w5.cell? ⟨wr.heap.size, 2, none⟩ = some (.bool y2) := HX5.out.cell 2
        have d3 : w5.cell? ⟨wr.heap.size, 3, none⟩ = some (.int .i64 y3) := HX5.out.cell 3
        have d4 : w5.cell? ⟨wr.heap.size, 4, none⟩ = some (.int .i64 y4) := HX5.out.cell 4
        have d5 : w5.cell? ⟨wr.heap.size, 5, none⟩ = some (.int .i64 y5) := HX5.out.cell 5
        clear cx
        have cp5 : w5.cell? ⟨ib, off, none⟩ = some (.slice A ys.length c) := HLS5.out.cell
        have cp6 : (w5.alloc (.cells #[.string ⟨y0.toArray⟩, .string ⟨y1.toArray⟩, .bool y2, .int .i64 y3, .int .i64 y4, .int .i64 y5] 121)).cell? ⟨ib, off, none⟩ = some (.slice A ys.length c) := HLS5.out.cellA _
        go_wp2_with fail
        go_region_law
          ((have h5 := HLS5.out.own.alloc (.cells #[.string ⟨y0.toArray⟩, .string ⟨y1.toArray⟩, .bool y2, .int .i64 y3, .int .i64 y4, .int .i64 y5] 121); refine step_append_own (by rfl) _ _ 34 (by rfl) w.heap.size 121 k0 (.agg #[.string ByteArray.empty, .string ByteArray.empty, .bool false, .int .i64 0, .int .i64 0, .int .i64 0]) 6 64 Tryd.underlying34 hk hy0 hy1 hy2 rfl (by decide) _ _ _ (by rfl) h5 ⟨w5.heap.size, 0, none⟩ 1 1 [.string ⟨y0.toArray⟩, .string ⟨y1.toArray⟩, .bool y2, .int .i64 y3, .int .i64 y4, .int .i64 y5] (by rfl) (by rfl) (World.news_of_block (heap_alloc_new w5.drew _)) QB.out QC.out QD.out (Nat.le_trans QE.out (by simp [World.drew])) ?_; intro v6 w6 hown6 hgrow6; obtain ⟨A6, c6, rfl⟩ := own_shape hown6; have hap := LS.app (y := ⟨y0, y1, y2, y3, y4, y5⟩) HLS5.out hgrow6 hown6; have HB6 := Lib.hid hap.1; have HLS6 := Lib.hid hap.2; have HI6 := Lib.hid (HK.out.below _ _ HI5.out ((Below.refl _ _).alloc (Nat.le_refl _) (.cells #[.string ⟨y0.toArray⟩, .string ⟨y1.toArray⟩, .bool y2, .int .i64 y3, .int .i64 y4, .int .i64 y5] 121))); have HG6 := Lib.hid hgrow6; have f6 := HB6.out.frozen off; have c6' : w6.cell? ⟨ib, off, none⟩ = some (.slice A ys.length c) := (HB6.out.cell off).trans (by simp [hoff]); clear hown6 hap h5 hgrow6))
        all_goals
          clear cp5 cp6 d0 d1 d2 d3 d4 d5
          have HI7 : Hid (Inv (w6.setCell ⟨ib, off, none⟩ (.slice A6 (ys.length + 1) c6))) := Lib.hid (by
            exact HK.out.app HI6.out HG6.out HLS5.out.own HB6.out HTI.out.1 HTI.out.2 (by decide) (by decide))
          go_wp2
          go_roundw
          case rel => exact ⟨k', ys ++ [⟨y0, y1, y2, y3, y4, y5⟩], _, _, by go_num, by omega, HLS6, HC2, HG2, HI7⟩
          case measure => simp [intOf]

theorem ImportInfo : (Tryd.prog.info? 127).map (fun i => (i.zero, i.size, i.bytes)) = some (some (.agg #[.string ByteArray.empty, .string ByteArray.empty, .int .i64 0, .bool false, .bool false]), 5, 48) := by kernel_rfl
theorem ImportD.one (x : ImportD) : ∀ v ∈ x.parts, v.oneCell' = true := by
  intro v hv
  simp only [ImportD.parts, List.mem_cons, List.not_mem_nil, or_false] at hv
  rcases hv with rfl | rfl | rfl | rfl | rfl <;> rfl
/-- What the reading of this list leaves. -/
def GotListImport (cb g ib off : Nat) (ti : TypeId) (ci : Array Value) (w : World) (st : St) (e : Ending) (wz : World) : Prop :=
  e = .returned (.tuple #[]) ∧ ∃ s : SlD ImportD, s.xs.map ImportD.pl = (rLst rImport st).1 ∧ wz.ownsRow w.heap.size 127 5 (.slice s.A s.xs.length s.c) s.xs.length (s.xs.flatMap ImportD.parts) ∧
    Blk wz ib ti (ci.setIfInBounds off (.slice s.A s.xs.length s.c)) ∧ CR cb g (rLst rImport st).2 wz ∧ Tw g ib w wz

set_option maxHeartbeats 8000000 in
set_option maxRecDepth 100000 in
theorem listImport_r {cb g ib off : Nat} {w : World} {ti : TypeId} {ci : Array Value} {st : St} (Inv : World → Prop) (cap : Addr) (hK : KeepsR g Inv) (hI : Inv w) (h : CR cb g st w) (hg : st.Good) (hl : st.rest.length ≤ 1048576)
    (hp : Blk w ib ti ci) (hti : ti ≠ 127) (ht104 : ti ≠ 104) (ht110 : ti ≠ 110) (hpc : ib ≠ cb) (hpg : ib ≠ g) (hpv : ci[off]? = some (.slice none 0 0))
    (hone : ∀ (wx : World) (sx : St) (xb : Nat), Inv wx → CR cb g sx wx → sx.Good → sx.rest.length ≤ 1048576 → Blk wx xb 127 #[.string ⟨#[]⟩, .string ⟨#[]⟩, .int .i64 0, .bool false, .bool false] → xb ≠ cb → xb ≠ g →
      Calls Tryd.prog 60 #[.pointer (some ⟨xb, 0, none⟩), .pointer (some cap)] wx (fun e w2 => e = .returned (.tuple #[]) ∧ ∃ y : ImportD, y.pl = (rImport sx).1 ∧ CR cb g (rImport sx).2 w2 ∧ Blk w2 xb 127 y.parts.toArray ∧ Tw g xb wx w2)) :
    Calls Tryd.prog 59 #[.pointer (some ⟨cb, 0, none⟩), .pointer (some ⟨ib, off, none⟩), .func (.func 60) #[] #[.pointer (some cap)]] w (GotListImport cb g ib off ti ci w st) := by
  obtain ⟨k0, hk, hy0, hy1, hy2⟩ := info_parts ImportInfo
  have HONE := Lib.hid hone
  have HK := Lib.hid hK
  have hiblt := hp.lt
  have hoff : off < ci.size := by
    rcases Nat.lt_or_ge off ci.size with h1 | h1
    · exact h1
    · rw [Array.getElem?_eq_none h1] at hpv; cases hpv
  have hci : ci.setIfInBounds off (.slice none 0 0) = ci := by
    apply Array.ext_getElem?
    intro j
    rw [Array.getElem?_setIfInBounds]
    split
    · rename_i hj; subst hj; first | rw [if_pos hoff, hpv] | rw [hpv]
    · rfl
  have HLS0 : Hid (LS ImportD.parts 5 127 ti cb g ib off ci w [] (.slice none 0 0) st w) := Lib.hid ⟨h, by rw [hci]; exact hp, World.ownsRow_nil _ _ _ _, Tw.refl _ _ _, hiblt, hpg, hpc, hoff, by decide, by decide, hti⟩
  have HN := Lib.hid (rNum_any g st w h.rd (by omega))
  have hn1 := rNum_lt st
  have hn2 := rNum_rest_le st
  have HG1 := Lib.hid (rNum_good st hg)
  have cin := h.in_
  have HI := Lib.hid hI
  have HRL : Hid (rLst rImport st = rItems rImport (rNum st).1 (rNum st).2) := rfl
  unfold GotListImport
  obtain ⟨RES, hRES⟩ : ∃ R, rLst rImport st = R := ⟨_, rfl⟩
  rw [hRES] at HRL ⊢
  generalize rNum st = z at HN hn1 hn2 HG1 HRL
  obtain ⟨nn, s1⟩ := z
  simp only at HN hn1 hn2 HG1 HRL
  have hnn : (nn : Int) ≤ 9223372036854775807 := by omega
  have HTI := Lib.hid (And.intro ht104 ht110)
  clear hRES hone hK h hg hp hti ht104 ht110 hpc hpg hpv hci hI hn1
  go_enter Tryd.func59, Tryd.ntmps59
  go_wp2_with fail
  refine (HN.out).mono ?_
  rintro r w1 ⟨rfl, hr1⟩
  have HLS1 : Hid (LS ImportD.parts 5 127 ti cb g ib off ci w [] (.slice none 0 0) s1 w1) := Lib.hid (by
    have h0 := HLS0.out
    exact ⟨h0.cr.to_ hr1, h0.blk.grown hr1.only (by simpa using h0.hg), World.ownsRow_nil _ _ _ _, h0.tw.trans (Tw.of_only hr1.only), h0.hib, h0.hg, h0.hc, h0.off, h0.t98, h0.t83, h0.tti⟩)
  have HI1 : Hid (Inv w1) := Lib.hid (HK.out.tw w w1 ib ti _ st HI.out HLS0.out.cr.rd HLS0.out.blk HTI.out.1 HTI.out.2 (Tw.of_only hr1.only))
  clear hr1 HN HI HLS0 cin
  go_wp2_with fail
  go_loopw [8] (fun vn wr => ∃ (kk : Nat) (ys : List ImportD) (v : Value) (sx : St), vn = .int .i64 kk ∧ (kk : Int) ≤ 9223372036854775807 ∧ Hid (LS ImportD.parts 5 127 ti cb g ib off ci w ys v sx wr) ∧ Hid (Came rImport 1048576 nn s1 kk (ys.map ImportD.pl) sx) ∧ Hid sx.Good ∧ Hid (Inv wr)) (fun vn _ => (intOf vn).toNat)
  case atStart => exact ⟨nn, [], _, s1, rfl, hnn, HLS1, Came.start (by omega), HG1, HI1⟩
  case round =>
    clear HLS1 HG1 HI1
    obtain ⟨kk, ys, v, sx, rfl, hkk, HLS, HCA, HG, HI⟩ := hrel
    obtain ⟨A, c, rfl⟩ := own_shape HLS.out.own
    have hyl := HCA.out.len
    rw [List.length_map] at hyl
    have hrl := HCA.out.rest
    have cp := HLS.out.cell
    have HFA := Lib.hid (failed_any cb g sx wr HLS.out.cr HG.out)
    by_cases hk0 : kk = 0
    · have HST := Lib.hid (HCA.out.stop (.inl hk0))
      subst hk0
      go_wp2
      go_end0
      exact ⟨rfl, ⟨A, c, ys⟩, by rw [HRL.out, HST.out], HLS.out.own, HLS.out.blk, by rw [HRL.out, HST.out]; exact HLS.out.cr, HLS.out.tw⟩
    · have hk1 : 1 ≤ kk := by omega
      have hki : (0 : Int) < (kk : Int) := by omega
      cases hb : sx.bad with
      | true =>
        have HST := Lib.hid (HCA.out.stop (.inr hb))
        rw [hb] at HFA
        clear hb hk0
        go_wp2_with fail
        refine (HFA.out).mono ?_
        rintro r w2 ⟨rfl, rfl⟩
        go_wp2
        go_end0
        exact ⟨rfl, ⟨A, c, ys⟩, by rw [HRL.out, HST.out], HLS.out.own, HLS.out.blk, by rw [HRL.out, HST.out]; exact HLS.out.cr, HLS.out.tw⟩
      | false =>
        obtain ⟨k', rfl⟩ : ∃ k', kk = k' + 1 := ⟨kk - 1, by omega⟩
        have HC2 := Lib.hid (HCA.out.step rImport_less rImport_rok.le hb)
        have HG2 := Lib.hid (rImport_rok.good sx HG.out)
        rw [hb] at HFA
        have HXB := Lib.hid (HONE.out (wr.alloc (.cells #[.string ⟨#[]⟩, .string ⟨#[]⟩, .int .i64 0, .bool false, .bool false] 127)) sx wr.heap.size (HK.out.below _ _ HI.out ((Below.refl _ _).alloc (Nat.le_refl _) _)) (HLS.out.cr.alloc _) HG.out hrl (Blk.new _ _ _) (by have := HLS.out.cr.blk.lt; omega) (by have := HLS.out.cr.rd.lt; omega))
        have HIa := Lib.hid (HK.out.below _ _ HI.out ((Below.refl wr.heap.size wr).alloc (Nat.le_refl _) (.cells #[.string ⟨#[]⟩, .string ⟨#[]⟩, .int .i64 0, .bool false, .bool false] 127)))
        have hsz0 := HLS.out.size
        clear hb hk0 HCA HG
        go_wp2_with fail
        refine (HFA.out).mono ?_
        rintro r w2 ⟨rfl, rfl⟩
        go_wp2_with fail
        refine (HXB.out).mono ?_
        rintro r w5 ⟨rfl, y, hpl, hc5, hx5, ht5⟩
        have HLS5 := Lib.hid ((HLS.out.elem hc5 ht5).keep (Below.drew (Below.refl _ _)))
        have HX5 : Hid (Blk w5.drew wr.heap.size 127 y.parts.toArray) := hx5
        have HI5 : Hid (Inv w5.drew) := Lib.hid (HK.out.below _ _ (HK.out.tw _ _ wr.heap.size 127 _ sx HIa.out (Blk.alloc HLS.out.cr.rd _) (Blk.new _ _ _) (by decide) (by decide) ht5) (Below.drew (Below.refl _ _)))
        rw [← hpl] at HC2
        have HPN := Lib.hid (show (ys ++ [y]).map ImportD.pl = ys.map ImportD.pl ++ [y.pl] by simp)
        rw [← HPN.out] at HC2
        have QB := Lib.hid (ImportD.one y)
        have QC : Hid (ys.length + 1 ≤ maxLen) := by show _ ≤ _; unfold maxLen; omega
        have QD : Hid ((ys.length + 1) * 48 ≤ 140737488355328) := by show _ ≤ _; omega
        have QE : Hid (w.heap.size ≤ w5.heap.size) := Lib.hid (Nat.le_trans hsz0 (Nat.le_trans (by simp) ht5.size))
        clear hpl hc5 hx5 ht5 HXB HIa HLS HI cp HFA  
        have cx := HX5.out.cell
        obtain ⟨y0, y1, y2, y3, y4⟩ := y
        simp only [ImportD.parts] at HX5 QB
        have d0 : w5.cell? ⟨wr.heap.size, 0, none⟩ = some (.string ⟨y0.toArray⟩) := HX5.out.cell 0
        have d1 : w5.cell? ⟨wr.heap.size, 1, none⟩ = some (.string ⟨y1.toArray⟩) := HX5.out.cell 1
        have d2 : w5.cell? ⟨wr.heap.size, 2, none⟩ = some (.int .i64 y2) := HX5.out.cell 2
        have d3 : w5.cell? ⟨wr.heap.size, 3, none⟩ = some (.bool y3) := HX5.out.cell 3
        have d4 : w5.cell? ⟨wr.heap.size, 4, none⟩ = some (.bool y4) := HX5.out.cell 4
        clear cx
        have cp5 : w5.cell? ⟨ib, off, none⟩ = some (.slice A ys.length c) := HLS5.out.cell
        have cp6 : (w5.alloc (.cells #[.string ⟨y0.toArray⟩, .string ⟨y1.toArray⟩, .int .i64 y2, .bool y3, .bool y4] 127)).cell? ⟨ib, off, none⟩ = some (.slice A ys.length c) := HLS5.out.cellA _
        go_wp2_with fail
        go_region_law
          ((have h5 := HLS5.out.own.alloc (.cells #[.string ⟨y0.toArray⟩, .string ⟨y1.toArray⟩, .int .i64 y2, .bool y3, .bool y4] 127); refine step_append_own (by rfl) _ _ 35 (by rfl) w.heap.size 127 k0 (.agg #[.string ByteArray.empty, .string ByteArray.empty, .int .i64 0, .bool false, .bool false]) 5 48 Tryd.underlying35 hk hy0 hy1 hy2 rfl (by decide) _ _ _ (by rfl) h5 ⟨w5.heap.size, 0, none⟩ 1 1 [.string ⟨y0.toArray⟩, .string ⟨y1.toArray⟩, .int .i64 y2, .bool y3, .bool y4] (by rfl) (by rfl) (World.news_of_block (heap_alloc_new w5.drew _)) QB.out QC.out QD.out (Nat.le_trans QE.out (by simp [World.drew])) ?_; intro v6 w6 hown6 hgrow6; obtain ⟨A6, c6, rfl⟩ := own_shape hown6; have hap := LS.app (y := ⟨y0, y1, y2, y3, y4⟩) HLS5.out hgrow6 hown6; have HB6 := Lib.hid hap.1; have HLS6 := Lib.hid hap.2; have HI6 := Lib.hid (HK.out.below _ _ HI5.out ((Below.refl _ _).alloc (Nat.le_refl _) (.cells #[.string ⟨y0.toArray⟩, .string ⟨y1.toArray⟩, .int .i64 y2, .bool y3, .bool y4] 127))); have HG6 := Lib.hid hgrow6; have f6 := HB6.out.frozen off; have c6' : w6.cell? ⟨ib, off, none⟩ = some (.slice A ys.length c) := (HB6.out.cell off).trans (by simp [hoff]); clear hown6 hap h5 hgrow6))
        all_goals
          clear cp5 cp6 d0 d1 d2 d3 d4
          have HI7 : Hid (Inv (w6.setCell ⟨ib, off, none⟩ (.slice A6 (ys.length + 1) c6))) := Lib.hid (by
            exact HK.out.app HI6.out HG6.out HLS5.out.own HB6.out HTI.out.1 HTI.out.2 (by decide) (by decide))
          go_wp2
          go_roundw
          case rel => exact ⟨k', ys ++ [⟨y0, y1, y2, y3, y4⟩], _, _, by go_num, by omega, HLS6, HC2, HG2, HI7⟩
          case measure => simp [intOf]

theorem DynInfo : (Tryd.prog.info? 135).map (fun i => (i.zero, i.size, i.bytes)) = some (some (.agg #[.int .i64 0, .int .i64 0, .int .i64 0, .int .i64 0]), 4, 32) := by kernel_rfl
theorem DynD.one (x : DynD) : ∀ v ∈ x.parts, v.oneCell' = true := by
  intro v hv
  simp only [DynD.parts, List.mem_cons, List.not_mem_nil, or_false] at hv
  rcases hv with rfl | rfl | rfl | rfl <;> rfl
/-- What the reading of this list leaves. -/
def GotListDyn (cb g ib off : Nat) (ti : TypeId) (ci : Array Value) (w : World) (st : St) (e : Ending) (wz : World) : Prop :=
  e = .returned (.tuple #[]) ∧ ∃ s : SlD DynD, s.xs.map DynD.pl = (rLst rDyn st).1 ∧ wz.ownsRow w.heap.size 135 4 (.slice s.A s.xs.length s.c) s.xs.length (s.xs.flatMap DynD.parts) ∧
    Blk wz ib ti (ci.setIfInBounds off (.slice s.A s.xs.length s.c)) ∧ CR cb g (rLst rDyn st).2 wz ∧ Tw g ib w wz

set_option maxHeartbeats 8000000 in
set_option maxRecDepth 100000 in
theorem listDyn_r {cb g ib off : Nat} {w : World} {ti : TypeId} {ci : Array Value} {st : St} (Inv : World → Prop) (cap : Addr) (hK : KeepsR g Inv) (hI : Inv w) (h : CR cb g st w) (hg : st.Good) (hl : st.rest.length ≤ 1048576)
    (hp : Blk w ib ti ci) (hti : ti ≠ 135) (ht104 : ti ≠ 104) (ht110 : ti ≠ 110) (hpc : ib ≠ cb) (hpg : ib ≠ g) (hpv : ci[off]? = some (.slice none 0 0))
    (hone : ∀ (wx : World) (sx : St) (xb : Nat), Inv wx → CR cb g sx wx → sx.Good → sx.rest.length ≤ 1048576 → Blk wx xb 135 #[.int .i64 0, .int .i64 0, .int .i64 0, .int .i64 0] → xb ≠ cb → xb ≠ g →
      Calls Tryd.prog 63 #[.pointer (some ⟨xb, 0, none⟩), .pointer (some cap)] wx (fun e w2 => e = .returned (.tuple #[]) ∧ ∃ y : DynD, y.pl = (rDyn sx).1 ∧ CR cb g (rDyn sx).2 w2 ∧ Blk w2 xb 135 y.parts.toArray ∧ Tw g xb wx w2)) :
    Calls Tryd.prog 62 #[.pointer (some ⟨cb, 0, none⟩), .pointer (some ⟨ib, off, none⟩), .func (.func 63) #[] #[.pointer (some cap)]] w (GotListDyn cb g ib off ti ci w st) := by
  obtain ⟨k0, hk, hy0, hy1, hy2⟩ := info_parts DynInfo
  have HONE := Lib.hid hone
  have HK := Lib.hid hK
  have hiblt := hp.lt
  have hoff : off < ci.size := by
    rcases Nat.lt_or_ge off ci.size with h1 | h1
    · exact h1
    · rw [Array.getElem?_eq_none h1] at hpv; cases hpv
  have hci : ci.setIfInBounds off (.slice none 0 0) = ci := by
    apply Array.ext_getElem?
    intro j
    rw [Array.getElem?_setIfInBounds]
    split
    · rename_i hj; subst hj; first | rw [if_pos hoff, hpv] | rw [hpv]
    · rfl
  have HLS0 : Hid (LS DynD.parts 4 135 ti cb g ib off ci w [] (.slice none 0 0) st w) := Lib.hid ⟨h, by rw [hci]; exact hp, World.ownsRow_nil _ _ _ _, Tw.refl _ _ _, hiblt, hpg, hpc, hoff, by decide, by decide, hti⟩
  have HN := Lib.hid (rNum_any g st w h.rd (by omega))
  have hn1 := rNum_lt st
  have hn2 := rNum_rest_le st
  have HG1 := Lib.hid (rNum_good st hg)
  have cin := h.in_
  have HI := Lib.hid hI
  have HRL : Hid (rLst rDyn st = rItems rDyn (rNum st).1 (rNum st).2) := rfl
  unfold GotListDyn
  obtain ⟨RES, hRES⟩ : ∃ R, rLst rDyn st = R := ⟨_, rfl⟩
  rw [hRES] at HRL ⊢
  generalize rNum st = z at HN hn1 hn2 HG1 HRL
  obtain ⟨nn, s1⟩ := z
  simp only at HN hn1 hn2 HG1 HRL
  have hnn : (nn : Int) ≤ 9223372036854775807 := by omega
  have HTI := Lib.hid (And.intro ht104 ht110)
  clear hRES hone hK h hg hp hti ht104 ht110 hpc hpg hpv hci hI hn1
  go_enter Tryd.func62, Tryd.ntmps62
  go_wp2_with fail
  refine (HN.out).mono ?_
  rintro r w1 ⟨rfl, hr1⟩
  have HLS1 : Hid (LS DynD.parts 4 135 ti cb g ib off ci w [] (.slice none 0 0) s1 w1) := Lib.hid (by
    have h0 := HLS0.out
    exact ⟨h0.cr.to_ hr1, h0.blk.grown hr1.only (by simpa using h0.hg), World.ownsRow_nil _ _ _ _, h0.tw.trans (Tw.of_only hr1.only), h0.hib, h0.hg, h0.hc, h0.off, h0.t98, h0.t83, h0.tti⟩)
  have HI1 : Hid (Inv w1) := Lib.hid (HK.out.tw w w1 ib ti _ st HI.out HLS0.out.cr.rd HLS0.out.blk HTI.out.1 HTI.out.2 (Tw.of_only hr1.only))
  clear hr1 HN HI HLS0 cin
  go_wp2_with fail
  go_loopw [8] (fun vn wr => ∃ (kk : Nat) (ys : List DynD) (v : Value) (sx : St), vn = .int .i64 kk ∧ (kk : Int) ≤ 9223372036854775807 ∧ Hid (LS DynD.parts 4 135 ti cb g ib off ci w ys v sx wr) ∧ Hid (Came rDyn 1048576 nn s1 kk (ys.map DynD.pl) sx) ∧ Hid sx.Good ∧ Hid (Inv wr)) (fun vn _ => (intOf vn).toNat)
  case atStart => exact ⟨nn, [], _, s1, rfl, hnn, HLS1, Came.start (by omega), HG1, HI1⟩
  case round =>
    clear HLS1 HG1 HI1
    obtain ⟨kk, ys, v, sx, rfl, hkk, HLS, HCA, HG, HI⟩ := hrel
    obtain ⟨A, c, rfl⟩ := own_shape HLS.out.own
    have hyl := HCA.out.len
    rw [List.length_map] at hyl
    have hrl := HCA.out.rest
    have cp := HLS.out.cell
    have HFA := Lib.hid (failed_any cb g sx wr HLS.out.cr HG.out)
    by_cases hk0 : kk = 0
    · have HST := Lib.hid (HCA.out.stop (.inl hk0))
      subst hk0
      go_wp2
      go_end0
      exact ⟨rfl, ⟨A, c, ys⟩, by rw [HRL.out, HST.out], HLS.out.own, HLS.out.blk, by rw [HRL.out, HST.out]; exact HLS.out.cr, HLS.out.tw⟩
    · have hk1 : 1 ≤ kk := by omega
      have hki : (0 : Int) < (kk : Int) := by omega
      cases hb : sx.bad with
      | true =>
        have HST := Lib.hid (HCA.out.stop (.inr hb))
        rw [hb] at HFA
        clear hb hk0
        go_wp2_with fail
        refine (HFA.out).mono ?_
        rintro r w2 ⟨rfl, rfl⟩
        go_wp2
        go_end0
        exact ⟨rfl, ⟨A, c, ys⟩, by rw [HRL.out, HST.out], HLS.out.own, HLS.out.blk, by rw [HRL.out, HST.out]; exact HLS.out.cr, HLS.out.tw⟩
      | false =>
        obtain ⟨k', rfl⟩ : ∃ k', kk = k' + 1 := ⟨kk - 1, by omega⟩
        have HC2 := Lib.hid (HCA.out.step rDyn_less rDyn_rok.le hb)
        have HG2 := Lib.hid (rDyn_rok.good sx HG.out)
        rw [hb] at HFA
        have HXB := Lib.hid (HONE.out (wr.alloc (.cells #[.int .i64 0, .int .i64 0, .int .i64 0, .int .i64 0] 135)) sx wr.heap.size (HK.out.below _ _ HI.out ((Below.refl _ _).alloc (Nat.le_refl _) _)) (HLS.out.cr.alloc _) HG.out hrl (Blk.new _ _ _) (by have := HLS.out.cr.blk.lt; omega) (by have := HLS.out.cr.rd.lt; omega))
        have HIa := Lib.hid (HK.out.below _ _ HI.out ((Below.refl wr.heap.size wr).alloc (Nat.le_refl _) (.cells #[.int .i64 0, .int .i64 0, .int .i64 0, .int .i64 0] 135)))
        have hsz0 := HLS.out.size
        clear hb hk0 HCA HG
        go_wp2_with fail
        refine (HFA.out).mono ?_
        rintro r w2 ⟨rfl, rfl⟩
        go_wp2_with fail
        refine (HXB.out).mono ?_
        rintro r w5 ⟨rfl, y, hpl, hc5, hx5, ht5⟩
        have HLS5 := Lib.hid ((HLS.out.elem hc5 ht5).keep (Below.drew (Below.refl _ _)))
        have HX5 : Hid (Blk w5.drew wr.heap.size 135 y.parts.toArray) := hx5
        have HI5 : Hid (Inv w5.drew) := Lib.hid (HK.out.below _ _ (HK.out.tw _ _ wr.heap.size 135 _ sx HIa.out (Blk.alloc HLS.out.cr.rd _) (Blk.new _ _ _) (by decide) (by decide) ht5) (Below.drew (Below.refl _ _)))
        rw [← hpl] at HC2
        have HPN := Lib.hid (show (ys ++ [y]).map DynD.pl = ys.map DynD.pl ++ [y.pl] by simp)
        rw [← HPN.out] at HC2
        have QB := Lib.hid (DynD.one y)
        have QC : Hid (ys.length + 1 ≤ maxLen) := by show _ ≤ _; unfold maxLen; omega
        have QD : Hid ((ys.length + 1) * 32 ≤ 140737488355328) := by show _ ≤ _; omega
        have QE : Hid (w.heap.size ≤ w5.heap.size) := Lib.hid (Nat.le_trans hsz0 (Nat.le_trans (by simp) ht5.size))
        clear hpl hc5 hx5 ht5 HXB HIa HLS HI cp HFA  
        have cx := HX5.out.cell
        obtain ⟨y0, y1, y2, y3⟩ := y
        simp only [DynD.parts] at HX5 QB
        have d0 : w5.cell? ⟨wr.heap.size, 0, none⟩ = some (.int .i64 y0) := HX5.out.cell 0
        have d1 : w5.cell? ⟨wr.heap.size, 1, none⟩ = some (.int .i64 y1) := HX5.out.cell 1
        have d2 : w5.cell? ⟨wr.heap.size, 2, none⟩ = some (.int .i64 y2) := HX5.out.cell 2
        have d3 : w5.cell? ⟨wr.heap.size, 3, none⟩ = some (.int .i64 y3) := HX5.out.cell 3
        clear cx
        have cp5 : w5.cell? ⟨ib, off, none⟩ = some (.slice A ys.length c) := HLS5.out.cell
        have cp6 : (w5.alloc (.cells #[.int .i64 y0, .int .i64 y1, .int .i64 y2, .int .i64 y3] 135)).cell? ⟨ib, off, none⟩ = some (.slice A ys.length c) := HLS5.out.cellA _
        go_wp2_with fail
        go_region_law
          ((have h5 := HLS5.out.own.alloc (.cells #[.int .i64 y0, .int .i64 y1, .int .i64 y2, .int .i64 y3] 135); refine step_append_own (by rfl) _ _ 37 (by rfl) w.heap.size 135 k0 (.agg #[.int .i64 0, .int .i64 0, .int .i64 0, .int .i64 0]) 4 32 Tryd.underlying37 hk hy0 hy1 hy2 rfl (by decide) _ _ _ (by rfl) h5 ⟨w5.heap.size, 0, none⟩ 1 1 [.int .i64 y0, .int .i64 y1, .int .i64 y2, .int .i64 y3] (by rfl) (by rfl) (World.news_of_block (heap_alloc_new w5.drew _)) QB.out QC.out QD.out (Nat.le_trans QE.out (by simp [World.drew])) ?_; intro v6 w6 hown6 hgrow6; obtain ⟨A6, c6, rfl⟩ := own_shape hown6; have hap := LS.app (y := ⟨y0, y1, y2, y3⟩) HLS5.out hgrow6 hown6; have HB6 := Lib.hid hap.1; have HLS6 := Lib.hid hap.2; have HI6 := Lib.hid (HK.out.below _ _ HI5.out ((Below.refl _ _).alloc (Nat.le_refl _) (.cells #[.int .i64 y0, .int .i64 y1, .int .i64 y2, .int .i64 y3] 135))); have HG6 := Lib.hid hgrow6; have f6 := HB6.out.frozen off; have c6' : w6.cell? ⟨ib, off, none⟩ = some (.slice A ys.length c) := (HB6.out.cell off).trans (by simp [hoff]); clear hown6 hap h5 hgrow6))
        all_goals
          clear cp5 cp6 d0 d1 d2 d3
          have HI7 : Hid (Inv (w6.setCell ⟨ib, off, none⟩ (.slice A6 (ys.length + 1) c6))) := Lib.hid (by
            exact HK.out.app HI6.out HG6.out HLS5.out.own HB6.out HTI.out.1 HTI.out.2 (by decide) (by decide))
          go_wp2
          go_roundw
          case rel => exact ⟨k', ys ++ [⟨y0, y1, y2, y3⟩], _, _, by go_num, by omega, HLS6, HC2, HG2, HI7⟩
          case measure => simp [intOf]

end Go.Proofs.YtefgajipakjpeaaDoor
