/-
  For all patches and strings, PatchReads returns true, and its arguments read as before: the tied card. No condition.
-/
import Derived.Test.YtefgajipakjpeaaDoorSmall
import Derived.Test.YtefgajipakjpeaaDoorOpenP
namespace Go.Proofs.YtefgajipakjpeaaDoor
open Go.Joins Go.ChangeShapes Go.WideShapes Go.ChangeAt Go.RowKit
open Go.ChangeMaps (open_string shut_string)

theorem Same_E (p q : PatchD) (h : p.pd = q.pd) (w : World) (hk : p.Ok w w.heap.size) (hk' : q.Ok w w.heap.size) :
    Calls Tryd.prog 10 #[.agg p.parts.toArray, .agg q.parts.toArray] w fun r w' => r = .returned (.bool true) ∧ Below w.heap.size w w' := by
  have h1 := Same_any p q w.heap.size w hk hk' (Nat.le_refl _)
  rw [samePB_pd p q h] at h1
  exact h1
theorem Bytes_B (y : PatchD) (s : List UInt8) (hy : y.pd = rPD s) (hok : rOk s = true) (hl : s.length ≤ 1000) (w : World) (hk : y.Ok w w.heap.size) :
    Calls Tryd.prog 8 #[.agg y.parts.toArray] w fun r w' => r = .returned (.string ⟨s.toArray⟩) ∧ Below w.heap.size w w' := by
  have e : wPatch y = s := by rw [wPatch_pd, hy, rPD_r s hok]
  have h := Bytes_any y w.heap.size w hk (Nat.le_refl _) (by rw [e]; omega)
  rw [e] at h
  exact h
theorem rPD_nil {s : List UInt8} (h : rOk s = false) : rPD s = PatchD.nil.pd := by
  unfold rPD
  rw [if_neg (by rw [h]; simp)]
  rfl
theorem light_edits : ∀ (es : List EditD), (∀ e ∈ es, lightE e = true) → (∀ e ∈ es, e.Ok) → ((es.flatMap wEdit).length : Int) ≤ 30 * es.length + (es.map lightN).sum
  | [], _, _ => by simp
  | e :: l, h, ho => by
    have h1 := light_edits l (fun x hx => h x (List.mem_cons_of_mem _ hx)) (fun x hx => ho x (List.mem_cons_of_mem _ hx))
    have hk := ho e List.mem_cons_self
    have i1 := wInt_le _ hk.from_
    have i2 := wInt_le _ hk.size
    have i3 := wText_le _ hk.text
    have i4 : (e.text.length : Int) ≤ lightN e := by unfold lightN; omega
    have i5 : (wEdit e).length = (wInt e.from_).length + (wInt e.size).length + (wText e.text).length := by unfold wEdit; simp only [List.length_append]
    rw [List.flatMap_cons, List.length_append, List.map_cons, List.sum_cons, List.length_cons]
    omega
theorem light_len (p : PatchD) {w : World} (h : lightB p = true) (ho : p.Ok w w.heap.size) : (wPatch p).length ≤ 1000000 := by
  simp only [lightB, Bool.and_eq_true, decide_eq_true_eq, List.all_eq_true] at h
  obtain ⟨⟨⟨⟨h1, h2⟩, h3⟩, h4⟩, h5⟩ := h
  have h6 := light_edits p.edits h4 ho.edits
  have h7 := wText_le p.from_ ho.from_
  have h8 := wText_le p.to_ ho.to_
  have h10 : (wNum (p.edits.length : Int)).length ≤ 10 := by
    unfold wNum
    rw [if_neg (by omega)]
    exact Lib.uvarint_length64 (by omega)
  unfold wPatch
  simp only [List.length_append]
  omega

namespace patchReads

set_option maxHeartbeats 8000000 in
set_option maxRecDepth 100000 in
theorem reads_heavy (p : PatchD) (s : List UInt8) (w : World) (hp : p.Ok w w.heap.size) (hs : s.length ≤ maxLen) (ht : Tabs w) (hl : lightB p = false) :
    Calls Tryd.prog 3 #[.agg p.parts.toArray, .string ⟨s.toArray⟩] w fun r w' => r = .returned (.bool true) ∧ Below w.heap.size w w' := by
  have HTB := Lib.hid ht
  have HBX0 : Hid (Below w.heap.size w (w.alloc (.cells p.parts.toArray 24))) := Lib.hid ((Below.refl _ _).alloc (Nat.le_refl _) _)
  have HX0 : Hid (Blk (w.alloc (.cells p.parts.toArray 24)) w.heap.size 24 p.parts.toArray) := Lib.hid (Blk.new w 24 _)
  have HOpw := Lib.hid hp
  have HLpw : Hid (w.heap.size ≤ w.heap.size) := Lib.hid (Nat.le_refl _)
  clear hp ht
  have HLI := Lib.hid (fun (w' : World) (h : p.Ok w' w'.heap.size) => light_any p w'.heap.size w' h (Nat.le_refl _))
  rw [hl] at HLI
  go_enter Tryd.func3, Tryd.ntmps3
  go_wp2_with fail
  generalize w.alloc (.cells p.parts.toArray 24) = w0 at HBX0 HX0 ⊢
  have hb := HBX0.out
  have HOpw0 := Lib.hid (HOpw.out.below (hb.mono HLpw.out)); have HLpw0 := Lib.hid (Nat.le_trans HLpw.out hb.size)
  have HBw0 := Lib.hid hb
  have HTw0 := Lib.hid (HTB.out.below HBw0.out HTB.out.size)
  clear hb HOpw HLpw
  have HPw0 := HX0; clear HX0 HBX0
  go_wp2_with (first
      | (refine wpList_load_mid rfl 24 _ rfl w.heap.size 0 rfl p.parts _ HPw0.out.range Tryd.underlying24 rfl (patchInfo p) ?_)
      | fail)
  have HC := Lib.hid (Small_any w0 HTw0.out)
  refine (HC.out).mono ?_
  rintro r w1 ⟨rfl, hb⟩
  clear HC
  have HPw1 := Lib.hid (HPw0.out.below hb HPw0.out.lt)
  have HOpw1 := Lib.hid (HOpw0.out.below (hb.mono HLpw0.out)); have HLpw1 := Lib.hid (Nat.le_trans HLpw0.out hb.size)
  have HBw1 := Lib.hid (HBw0.out.trans (hb.mono HBw0.out.size))
  have HTw1 := Lib.hid (HTB.out.below HBw1.out HTB.out.size)
  clear hb HPw0 HOpw0 HLpw0 HBw0 HTw0
  go_wp2_with (first
      | (refine wpList_load_mid rfl 24 _ rfl w.heap.size 0 rfl p.parts _ HPw1.out.range Tryd.underlying24 rfl (patchInfo p) ?_)
      | fail)
  have HC := Lib.hid (HLI.out w1 (HOpw1.out.more HLpw1.out))
  refine (HC.out).mono ?_
  rintro r w2 ⟨rfl, hb⟩
  clear HC
  have HPw2 := Lib.hid (HPw1.out.below hb HPw1.out.lt)
  have HOpw2 := Lib.hid (HOpw1.out.below (hb.mono HLpw1.out)); have HLpw2 := Lib.hid (Nat.le_trans HLpw1.out hb.size)
  have HBw2 := Lib.hid (HBw1.out.trans (hb.mono HBw1.out.size))
  have HTw2 := Lib.hid (HTB.out.below HBw2.out HTB.out.size)
  clear hb HPw1 HOpw1 HLpw1 HBw1 HTw1
  go_wp2
  go_ret
  exact ⟨rfl, HBw2.out⟩

set_option maxHeartbeats 8000000 in
set_option maxRecDepth 100000 in
theorem reads_long (p : PatchD) (s : List UInt8) (w : World) (hp : p.Ok w w.heap.size) (hs : s.length ≤ maxLen) (ht : Tabs w) (hl : lightB p = true) (hg : 1000 < s.length) :
    Calls Tryd.prog 3 #[.agg p.parts.toArray, .string ⟨s.toArray⟩] w fun r w' => r = .returned (.bool true) ∧ Below w.heap.size w w' := by
  have HTB := Lib.hid ht
  have HBX0 : Hid (Below w.heap.size w (w.alloc (.cells p.parts.toArray 24))) := Lib.hid ((Below.refl _ _).alloc (Nat.le_refl _) _)
  have HX0 : Hid (Blk (w.alloc (.cells p.parts.toArray 24)) w.heap.size 24 p.parts.toArray) := Lib.hid (Blk.new w 24 _)
  have HOpw := Lib.hid hp
  have HLpw : Hid (w.heap.size ≤ w.heap.size) := Lib.hid (Nat.le_refl _)
  clear hp ht
  have HLI := Lib.hid (fun (w' : World) (h : p.Ok w' w'.heap.size) => light_any p w'.heap.size w' h (Nat.le_refl _))
  rw [hl] at HLI
  unfold maxLen at hs
  have hlb : decide ((1000 : Int) < (s.length : Int)) = true := decide_eq_true (by omega)
  go_enter Tryd.func3, Tryd.ntmps3
  go_wp2_with fail
  generalize w.alloc (.cells p.parts.toArray 24) = w0 at HBX0 HX0 ⊢
  have hb := HBX0.out
  have HOpw0 := Lib.hid (HOpw.out.below (hb.mono HLpw.out)); have HLpw0 := Lib.hid (Nat.le_trans HLpw.out hb.size)
  have HBw0 := Lib.hid hb
  have HTw0 := Lib.hid (HTB.out.below HBw0.out HTB.out.size)
  clear hb HOpw HLpw
  have HPw0 := HX0; clear HX0 HBX0
  go_wp2_with (first
      | (refine wpList_load_mid rfl 24 _ rfl w.heap.size 0 rfl p.parts _ HPw0.out.range Tryd.underlying24 rfl (patchInfo p) ?_)
      | fail)
  have HC := Lib.hid (Small_any w0 HTw0.out)
  refine (HC.out).mono ?_
  rintro r w1 ⟨rfl, hb⟩
  clear HC
  have HPw1 := Lib.hid (HPw0.out.below hb HPw0.out.lt)
  have HOpw1 := Lib.hid (HOpw0.out.below (hb.mono HLpw0.out)); have HLpw1 := Lib.hid (Nat.le_trans HLpw0.out hb.size)
  have HBw1 := Lib.hid (HBw0.out.trans (hb.mono HBw0.out.size))
  have HTw1 := Lib.hid (HTB.out.below HBw1.out HTB.out.size)
  clear hb HPw0 HOpw0 HLpw0 HBw0 HTw0
  go_wp2_with (first
      | (refine wpList_load_mid rfl 24 _ rfl w.heap.size 0 rfl p.parts _ HPw1.out.range Tryd.underlying24 rfl (patchInfo p) ?_)
      | fail)
  have HC := Lib.hid (HLI.out w1 (HOpw1.out.more HLpw1.out))
  refine (HC.out).mono ?_
  rintro r w2 ⟨rfl, hb⟩
  clear HC
  have HPw2 := Lib.hid (HPw1.out.below hb HPw1.out.lt)
  have HOpw2 := Lib.hid (HOpw1.out.below (hb.mono HLpw1.out)); have HLpw2 := Lib.hid (Nat.le_trans HLpw1.out hb.size)
  have HBw2 := Lib.hid (HBw1.out.trans (hb.mono HBw1.out.size))
  have HTw2 := Lib.hid (HTB.out.below HBw2.out HTB.out.size)
  clear hb HPw1 HOpw1 HLpw1 HBw1 HTw1
  go_wp2
  go_ret
  exact ⟨rfl, HBw2.out⟩

set_option maxHeartbeats 8000000 in
set_option maxRecDepth 100000 in
theorem reads_ok (p : PatchD) (s : List UInt8) (w : World) (hp : p.Ok w w.heap.size) (hs : s.length ≤ maxLen) (ht : Tabs w) (hl : lightB p = true) (hg : s.length ≤ 1000) (hok : rOk s = true) :
    Calls Tryd.prog 3 #[.agg p.parts.toArray, .string ⟨s.toArray⟩] w fun r w' => r = .returned (.bool true) ∧ Below w.heap.size w w' := by
  have HTB := Lib.hid ht
  have hp0 := hp
  have HBX0 : Hid (Below w.heap.size w (w.alloc (.cells p.parts.toArray 24))) := Lib.hid ((Below.refl _ _).alloc (Nat.le_refl _) _)
  have HX0 : Hid (Blk (w.alloc (.cells p.parts.toArray 24)) w.heap.size 24 p.parts.toArray) := Lib.hid (Blk.new w 24 _)
  have HOpw := Lib.hid hp
  have HLpw : Hid (w.heap.size ≤ w.heap.size) := Lib.hid (Nat.le_refl _)
  clear hp ht
  have HLI := Lib.hid (fun (w' : World) (h : p.Ok w' w'.heap.size) => light_any p w'.heap.size w' h (Nat.le_refl _))
  rw [hl] at HLI
  unfold maxLen at hs
  have hlb : decide ((1000 : Int) < (s.length : Int)) = false := decide_eq_false (by omega)
  have HOK := Lib.hid hok
  have HPK : Hid (p.pd.Ok) := Lib.hid ⟨hp0.from_, hp0.to_, by have := hp0.len; show p.edits.length < 2 ^ 63; omega, hp0.edits⟩
  have hwl := light_len p hl hp0
  have HWL := Lib.hid hwl
  obtain ⟨WP, hWP⟩ : ∃ l, l = wPatch p := ⟨_, rfl⟩
  have HWP := Lib.hid hWP
  have hwpl : WP.length ≤ 1000000 := by rw [hWP]; exact hwl
  have HBY := Lib.hid (fun (w' : World) (h : p.Ok w' w'.heap.size) => Bytes_any p w'.heap.size w' h (Nat.le_refl _) (by omega))
  have HSZ := Lib.hid (fun (w' : World) (h : p.Ok w' w'.heap.size) => Size_any p w'.heap.size w' h (Nat.le_refl _) (by omega))
  have HR1 := Lib.hid (fun (w' : World) => Read_any WP w' (by omega))
  have HR2 := Lib.hid (fun (w' : World) => Read_any (WP ++ [120]) w' (by simp; omega))
  have HR3 := Lib.hid (fun (w' : World) => Read_any s w' (by omega))
  have hro1 : rOk WP = true := by rw [hWP, wPatch_pd]; exact (rPD_w p.pd HPK.out).1
  have hrp1 : rPD WP = p.pd := by rw [hWP, wPatch_pd]; exact (rPD_w p.pd HPK.out).2
  have hro2 : rOk (WP ++ [120]) = false := by rw [hWP, wPatch_pd]; exact rPD_more p.pd 120 [] HPK.out
  unfold ReadPost str at HR1 HR2 HR3
  unfold str at HBY
  rw [hro1, hrp1] at HR1
  rw [hro2] at HR2
  rw [hok] at HR3
  rw [← hWP] at HBY HSZ
  have hadd := fun w' => str_add WP [120] (w := w') (by simp; omega)
  clear hok hWP hwl hro1 hro2 hrp1 hl hp0
  go_enter Tryd.func3, Tryd.ntmps3
  go_wp2_with fail
  generalize w.alloc (.cells p.parts.toArray 24) = w0 at HBX0 HX0 ⊢
  have hb := HBX0.out
  have HOpw0 := Lib.hid (HOpw.out.below (hb.mono HLpw.out)); have HLpw0 := Lib.hid (Nat.le_trans HLpw.out hb.size)
  have HBw0 := Lib.hid hb
  have HTw0 := Lib.hid (HTB.out.below HBw0.out HTB.out.size)
  clear hb HOpw HLpw
  have HPw0 := HX0; clear HX0 HBX0
  go_wp2_with (first
      | (refine wpList_load_mid rfl 24 _ rfl w.heap.size 0 rfl p.parts _ HPw0.out.range Tryd.underlying24 rfl (patchInfo p) ?_)
      | fail)
  have HC := Lib.hid (Small_any w0 HTw0.out)
  refine (HC.out).mono ?_
  rintro r w1 ⟨rfl, hb⟩
  clear HC
  have HPw1 := Lib.hid (HPw0.out.below hb HPw0.out.lt)
  have HOpw1 := Lib.hid (HOpw0.out.below (hb.mono HLpw0.out)); have HLpw1 := Lib.hid (Nat.le_trans HLpw0.out hb.size)
  have HBw1 := Lib.hid (HBw0.out.trans (hb.mono HBw0.out.size))
  have HTw1 := Lib.hid (HTB.out.below HBw1.out HTB.out.size)
  clear hb HPw0 HOpw0 HLpw0 HBw0 HTw0
  go_wp2_with (first
      | (refine wpList_load_mid rfl 24 _ rfl w.heap.size 0 rfl p.parts _ HPw1.out.range Tryd.underlying24 rfl (patchInfo p) ?_)
      | fail)
  have HC := Lib.hid (HLI.out w1 (HOpw1.out.more HLpw1.out))
  refine (HC.out).mono ?_
  rintro r w2 ⟨rfl, hb⟩
  clear HC
  have HPw2 := Lib.hid (HPw1.out.below hb HPw1.out.lt)
  have HOpw2 := Lib.hid (HOpw1.out.below (hb.mono HLpw1.out)); have HLpw2 := Lib.hid (Nat.le_trans HLpw1.out hb.size)
  have HBw2 := Lib.hid (HBw1.out.trans (hb.mono HBw1.out.size))
  have HTw2 := Lib.hid (HTB.out.below HBw2.out HTB.out.size)
  clear hb HPw1 HOpw1 HLpw1 HBw1 HTw1
  go_wp2_with (first
      | (refine wpList_load_mid rfl 24 _ rfl w.heap.size 0 rfl p.parts _ HPw2.out.range Tryd.underlying24 rfl (patchInfo p) ?_)
      | fail)
  have HC := Lib.hid (HBY.out w2 (HOpw2.out.more HLpw2.out))
  refine (HC.out).mono ?_
  rintro r w3 ⟨rfl, hb⟩
  clear HC
  have HPw3 := Lib.hid (HPw2.out.below hb HPw2.out.lt)
  have HOpw3 := Lib.hid (HOpw2.out.below (hb.mono HLpw2.out)); have HLpw3 := Lib.hid (Nat.le_trans HLpw2.out hb.size)
  have HBw3 := Lib.hid (HBw2.out.trans (hb.mono HBw2.out.size))
  have HTw3 := Lib.hid (HTB.out.below HBw3.out HTB.out.size)
  clear hb HPw2 HOpw2 HLpw2 HBw2 HTw2
  go_wp2_with (first
      | (refine wpList_load_mid rfl 24 _ rfl w.heap.size 0 rfl p.parts _ HPw3.out.range Tryd.underlying24 rfl (patchInfo p) ?_)
      | fail)
  have HC := Lib.hid (HR1.out w3)
  refine (HC.out).mono ?_
  rintro r w4 ⟨x, rfl, hqx, hkx, hb⟩
  clear HC
  have HDx := Lib.hid hqx; clear hqx
  have HPw4 := Lib.hid (HPw3.out.below hb HPw3.out.lt)
  have HOpw4 := Lib.hid (HOpw3.out.below (hb.mono HLpw3.out)); have HLpw4 := Lib.hid (Nat.le_trans HLpw3.out hb.size)
  have HBw4 := Lib.hid (HBw3.out.trans (hb.mono HBw3.out.size))
  have HTw4 := Lib.hid (HTB.out.below HBw4.out HTB.out.size)
  clear hb HPw3 HOpw3 HLpw3 HBw3 HTw3
  have HOxw4 := Lib.hid hkx; have HLxw4 : Hid (w4.heap.size ≤ w4.heap.size) := Lib.hid (Nat.le_refl _); clear hkx
  go_wp2_with (first
      | (refine wpList_load_mid rfl 24 _ rfl w.heap.size 0 rfl p.parts _ HPw4.out.range Tryd.underlying24 rfl (patchInfo p) ?_)
      | (refine wpList_new_store rfl 24 _ _ rfl x.parts rfl rfl rfl (patchInfo x) (PatchD.one x) ?_))
  intro w5 hx hb
  have HN := Lib.hid hx; clear hx
  have HPw5 := Lib.hid (HPw4.out.below hb HPw4.out.lt)
  have HOpw5 := Lib.hid (HOpw4.out.below (hb.mono HLpw4.out)); have HLpw5 := Lib.hid (Nat.le_trans HLpw4.out hb.size)
  have HOxw5 := Lib.hid (HOxw4.out.below (hb.mono HLxw4.out)); have HLxw5 := Lib.hid (Nat.le_trans HLxw4.out hb.size)
  have HBw5 := Lib.hid (HBw4.out.trans (hb.mono HBw4.out.size))
  have HTw5 := Lib.hid (HTB.out.below HBw5.out HTB.out.size)
  clear hb HPw4 HOpw4 HLpw4 HOxw4 HLxw4 HBw4 HTw4
  have HXw5 := HN; clear HN
  go_wp2_with (first
      | (refine wpList_load_mid rfl 24 _ rfl w.heap.size 0 rfl p.parts _ HPw5.out.range Tryd.underlying24 rfl (patchInfo p) ?_)
      | (refine wpList_load_mid rfl 24 _ rfl w4.heap.size 0 rfl x.parts _ HXw5.out.range Tryd.underlying24 rfl (patchInfo x) ?_)
      | fail)
  have HC := Lib.hid (HR2.out w5)
  refine (HC.out).mono ?_
  rintro r w6 ⟨x2, rfl, hqx2, hkx2, hb⟩
  clear HC
  have HDx2 := Lib.hid hqx2; clear hqx2
  have HPw6 := Lib.hid (HPw5.out.below hb HPw5.out.lt)
  have HXw6 := Lib.hid (HXw5.out.below hb HXw5.out.lt)
  have HOpw6 := Lib.hid (HOpw5.out.below (hb.mono HLpw5.out)); have HLpw6 := Lib.hid (Nat.le_trans HLpw5.out hb.size)
  have HOxw6 := Lib.hid (HOxw5.out.below (hb.mono HLxw5.out)); have HLxw6 := Lib.hid (Nat.le_trans HLxw5.out hb.size)
  have HBw6 := Lib.hid (HBw5.out.trans (hb.mono HBw5.out.size))
  have HTw6 := Lib.hid (HTB.out.below HBw6.out HTB.out.size)
  clear hb HPw5 HXw5 HOpw5 HLpw5 HOxw5 HLxw5 HBw5 HTw5
  have HOx2w6 := Lib.hid hkx2; have HLx2w6 : Hid (w6.heap.size ≤ w6.heap.size) := Lib.hid (Nat.le_refl _); clear hkx2
  go_wp2_with (first
      | (refine wpList_load_mid rfl 24 _ rfl w.heap.size 0 rfl p.parts _ HPw6.out.range Tryd.underlying24 rfl (patchInfo p) ?_)
      | (refine wpList_load_mid rfl 24 _ rfl w4.heap.size 0 rfl x.parts _ HXw6.out.range Tryd.underlying24 rfl (patchInfo x) ?_)
      | (refine wpList_new_store rfl 24 _ _ rfl x2.parts rfl rfl rfl (patchInfo x2) (PatchD.one x2) ?_))
  intro w7 hx hb
  have HN := Lib.hid hx; clear hx
  have HPw7 := Lib.hid (HPw6.out.below hb HPw6.out.lt)
  have HXw7 := Lib.hid (HXw6.out.below hb HXw6.out.lt)
  have HOpw7 := Lib.hid (HOpw6.out.below (hb.mono HLpw6.out)); have HLpw7 := Lib.hid (Nat.le_trans HLpw6.out hb.size)
  have HOxw7 := Lib.hid (HOxw6.out.below (hb.mono HLxw6.out)); have HLxw7 := Lib.hid (Nat.le_trans HLxw6.out hb.size)
  have HOx2w7 := Lib.hid (HOx2w6.out.below (hb.mono HLx2w6.out)); have HLx2w7 := Lib.hid (Nat.le_trans HLx2w6.out hb.size)
  have HBw7 := Lib.hid (HBw6.out.trans (hb.mono HBw6.out.size))
  have HTw7 := Lib.hid (HTB.out.below HBw7.out HTB.out.size)
  clear hb HPw6 HXw6 HOpw6 HLpw6 HOxw6 HLxw6 HOx2w6 HLx2w6 HBw6 HTw6
  have HZw7 := HN; clear HN
  go_wp2_with (first
      | (refine wpList_load_mid rfl 24 _ rfl w.heap.size 0 rfl p.parts _ HPw7.out.range Tryd.underlying24 rfl (patchInfo p) ?_)
      | (refine wpList_load_mid rfl 24 _ rfl w4.heap.size 0 rfl x.parts _ HXw7.out.range Tryd.underlying24 rfl (patchInfo x) ?_)
      | (refine wpList_load_mid rfl 24 _ rfl w6.heap.size 0 rfl x2.parts _ HZw7.out.range Tryd.underlying24 rfl (patchInfo x2) ?_)
      | fail)
  have HC := Lib.hid (HR3.out w7)
  refine (HC.out).mono ?_
  rintro r w8 ⟨y, rfl, hqy, hky, hb⟩
  clear HC
  have HDy := Lib.hid hqy; clear hqy
  have HPw8 := Lib.hid (HPw7.out.below hb HPw7.out.lt)
  have HXw8 := Lib.hid (HXw7.out.below hb HXw7.out.lt)
  have HZw8 := Lib.hid (HZw7.out.below hb HZw7.out.lt)
  have HOpw8 := Lib.hid (HOpw7.out.below (hb.mono HLpw7.out)); have HLpw8 := Lib.hid (Nat.le_trans HLpw7.out hb.size)
  have HOxw8 := Lib.hid (HOxw7.out.below (hb.mono HLxw7.out)); have HLxw8 := Lib.hid (Nat.le_trans HLxw7.out hb.size)
  have HOx2w8 := Lib.hid (HOx2w7.out.below (hb.mono HLx2w7.out)); have HLx2w8 := Lib.hid (Nat.le_trans HLx2w7.out hb.size)
  have HBw8 := Lib.hid (HBw7.out.trans (hb.mono HBw7.out.size))
  have HTw8 := Lib.hid (HTB.out.below HBw8.out HTB.out.size)
  clear hb HPw7 HXw7 HZw7 HOpw7 HLpw7 HOxw7 HLxw7 HOx2w7 HLx2w7 HBw7 HTw7
  have HOyw8 := Lib.hid hky; have HLyw8 : Hid (w8.heap.size ≤ w8.heap.size) := Lib.hid (Nat.le_refl _); clear hky
  go_wp2_with (first
      | (refine wpList_load_mid rfl 24 _ rfl w.heap.size 0 rfl p.parts _ HPw8.out.range Tryd.underlying24 rfl (patchInfo p) ?_)
      | (refine wpList_load_mid rfl 24 _ rfl w4.heap.size 0 rfl x.parts _ HXw8.out.range Tryd.underlying24 rfl (patchInfo x) ?_)
      | (refine wpList_load_mid rfl 24 _ rfl w6.heap.size 0 rfl x2.parts _ HZw8.out.range Tryd.underlying24 rfl (patchInfo x2) ?_)
      | (refine wpList_new_store rfl 24 _ _ rfl y.parts rfl rfl rfl (patchInfo y) (PatchD.one y) ?_))
  intro w9 hx hb
  have HN := Lib.hid hx; clear hx
  have HPw9 := Lib.hid (HPw8.out.below hb HPw8.out.lt)
  have HXw9 := Lib.hid (HXw8.out.below hb HXw8.out.lt)
  have HZw9 := Lib.hid (HZw8.out.below hb HZw8.out.lt)
  have HOpw9 := Lib.hid (HOpw8.out.below (hb.mono HLpw8.out)); have HLpw9 := Lib.hid (Nat.le_trans HLpw8.out hb.size)
  have HOxw9 := Lib.hid (HOxw8.out.below (hb.mono HLxw8.out)); have HLxw9 := Lib.hid (Nat.le_trans HLxw8.out hb.size)
  have HOx2w9 := Lib.hid (HOx2w8.out.below (hb.mono HLx2w8.out)); have HLx2w9 := Lib.hid (Nat.le_trans HLx2w8.out hb.size)
  have HOyw9 := Lib.hid (HOyw8.out.below (hb.mono HLyw8.out)); have HLyw9 := Lib.hid (Nat.le_trans HLyw8.out hb.size)
  have HBw9 := Lib.hid (HBw8.out.trans (hb.mono HBw8.out.size))
  have HTw9 := Lib.hid (HTB.out.below HBw9.out HTB.out.size)
  clear hb HPw8 HXw8 HZw8 HOpw8 HLpw8 HOxw8 HLxw8 HOx2w8 HLx2w8 HOyw8 HLyw8 HBw8 HTw8
  have HYw9 := HN; clear HN
  go_wp2_with (first
      | (refine wpList_load_midG (by kernel_rfl) 24 _ rfl w.heap.size 0 rfl p.parts _ HPw9.out.range Tryd.underlying24 rfl (patchInfo p) ?_)
      | (refine wpList_load_midG (by kernel_rfl) 24 _ rfl w4.heap.size 0 rfl x.parts _ HXw9.out.range Tryd.underlying24 rfl (patchInfo x) ?_)
      | (refine wpList_load_midG (by kernel_rfl) 24 _ rfl w6.heap.size 0 rfl x2.parts _ HZw9.out.range Tryd.underlying24 rfl (patchInfo x2) ?_)
      | (refine wpList_load_midG (by kernel_rfl) 24 _ rfl w8.heap.size 0 rfl y.parts _ HYw9.out.range Tryd.underlying24 rfl (patchInfo y) ?_)
      | fail)
  have HC := Lib.hid (Same_E x p HDx.out w9 (HOxw9.out.more HLxw9.out) (HOpw9.out.more HLpw9.out))
  refine (HC.out).mono ?_
  rintro r w10 ⟨rfl, hb⟩
  clear HC
  have HPw10 := Lib.hid (HPw9.out.below hb HPw9.out.lt)
  have HXw10 := Lib.hid (HXw9.out.below hb HXw9.out.lt)
  have HZw10 := Lib.hid (HZw9.out.below hb HZw9.out.lt)
  have HYw10 := Lib.hid (HYw9.out.below hb HYw9.out.lt)
  have HOpw10 := Lib.hid (HOpw9.out.below (hb.mono HLpw9.out)); have HLpw10 := Lib.hid (Nat.le_trans HLpw9.out hb.size)
  have HOxw10 := Lib.hid (HOxw9.out.below (hb.mono HLxw9.out)); have HLxw10 := Lib.hid (Nat.le_trans HLxw9.out hb.size)
  have HOx2w10 := Lib.hid (HOx2w9.out.below (hb.mono HLx2w9.out)); have HLx2w10 := Lib.hid (Nat.le_trans HLx2w9.out hb.size)
  have HOyw10 := Lib.hid (HOyw9.out.below (hb.mono HLyw9.out)); have HLyw10 := Lib.hid (Nat.le_trans HLyw9.out hb.size)
  have HBw10 := Lib.hid (HBw9.out.trans (hb.mono HBw9.out.size))
  have HTw10 := Lib.hid (HTB.out.below HBw10.out HTB.out.size)
  clear hb HPw9 HXw9 HZw9 HYw9 HOpw9 HLpw9 HOxw9 HLxw9 HOx2w9 HLx2w9 HOyw9 HLyw9 HBw9 HTw9
  go_wp2_with (first
      | (refine wpList_load_midG (by kernel_rfl) 24 _ rfl w.heap.size 0 rfl p.parts _ HPw10.out.range Tryd.underlying24 rfl (patchInfo p) ?_)
      | (refine wpList_load_midG (by kernel_rfl) 24 _ rfl w4.heap.size 0 rfl x.parts _ HXw10.out.range Tryd.underlying24 rfl (patchInfo x) ?_)
      | (refine wpList_load_midG (by kernel_rfl) 24 _ rfl w6.heap.size 0 rfl x2.parts _ HZw10.out.range Tryd.underlying24 rfl (patchInfo x2) ?_)
      | (refine wpList_load_midG (by kernel_rfl) 24 _ rfl w8.heap.size 0 rfl y.parts _ HYw10.out.range Tryd.underlying24 rfl (patchInfo y) ?_)
      | fail)
  have HC := Lib.hid (HSZ.out w10 (HOpw10.out.more HLpw10.out))
  refine (HC.out).mono ?_
  rintro r w11 ⟨rfl, hb⟩
  clear HC
  have HPw11 := Lib.hid (HPw10.out.below hb HPw10.out.lt)
  have HXw11 := Lib.hid (HXw10.out.below hb HXw10.out.lt)
  have HZw11 := Lib.hid (HZw10.out.below hb HZw10.out.lt)
  have HYw11 := Lib.hid (HYw10.out.below hb HYw10.out.lt)
  have HOpw11 := Lib.hid (HOpw10.out.below (hb.mono HLpw10.out)); have HLpw11 := Lib.hid (Nat.le_trans HLpw10.out hb.size)
  have HOxw11 := Lib.hid (HOxw10.out.below (hb.mono HLxw10.out)); have HLxw11 := Lib.hid (Nat.le_trans HLxw10.out hb.size)
  have HOx2w11 := Lib.hid (HOx2w10.out.below (hb.mono HLx2w10.out)); have HLx2w11 := Lib.hid (Nat.le_trans HLx2w10.out hb.size)
  have HOyw11 := Lib.hid (HOyw10.out.below (hb.mono HLyw10.out)); have HLyw11 := Lib.hid (Nat.le_trans HLyw10.out hb.size)
  have HBw11 := Lib.hid (HBw10.out.trans (hb.mono HBw10.out.size))
  have HTw11 := Lib.hid (HTB.out.below HBw11.out HTB.out.size)
  clear hb HPw10 HXw10 HZw10 HYw10 HOpw10 HLpw10 HOxw10 HLxw10 HOx2w10 HLx2w10 HOyw10 HLyw10 HBw10 HTw10
  go_wp2_with (first
      | (refine wpList_load_midG (by kernel_rfl) 24 _ rfl w.heap.size 0 rfl p.parts _ HPw11.out.range Tryd.underlying24 rfl (patchInfo p) ?_)
      | (refine wpList_load_midG (by kernel_rfl) 24 _ rfl w4.heap.size 0 rfl x.parts _ HXw11.out.range Tryd.underlying24 rfl (patchInfo x) ?_)
      | (refine wpList_load_midG (by kernel_rfl) 24 _ rfl w6.heap.size 0 rfl x2.parts _ HZw11.out.range Tryd.underlying24 rfl (patchInfo x2) ?_)
      | (refine wpList_load_midG (by kernel_rfl) 24 _ rfl w8.heap.size 0 rfl y.parts _ HYw11.out.range Tryd.underlying24 rfl (patchInfo y) ?_)
      | fail)
  have HC := Lib.hid (Bytes_B y s HDy.out HOK.out (by omega) w11 (HOyw11.out.more HLyw11.out))
  refine (HC.out).mono ?_
  rintro r w12 ⟨rfl, hb⟩
  clear HC
  have HPw12 := Lib.hid (HPw11.out.below hb HPw11.out.lt)
  have HXw12 := Lib.hid (HXw11.out.below hb HXw11.out.lt)
  have HZw12 := Lib.hid (HZw11.out.below hb HZw11.out.lt)
  have HYw12 := Lib.hid (HYw11.out.below hb HYw11.out.lt)
  have HOpw12 := Lib.hid (HOpw11.out.below (hb.mono HLpw11.out)); have HLpw12 := Lib.hid (Nat.le_trans HLpw11.out hb.size)
  have HOxw12 := Lib.hid (HOxw11.out.below (hb.mono HLxw11.out)); have HLxw12 := Lib.hid (Nat.le_trans HLxw11.out hb.size)
  have HOx2w12 := Lib.hid (HOx2w11.out.below (hb.mono HLx2w11.out)); have HLx2w12 := Lib.hid (Nat.le_trans HLx2w11.out hb.size)
  have HOyw12 := Lib.hid (HOyw11.out.below (hb.mono HLyw11.out)); have HLyw12 := Lib.hid (Nat.le_trans HLyw11.out hb.size)
  have HBw12 := Lib.hid (HBw11.out.trans (hb.mono HBw11.out.size))
  have HTw12 := Lib.hid (HTB.out.below HBw12.out HTB.out.size)
  clear hb HPw11 HXw11 HZw11 HYw11 HOpw11 HLpw11 HOxw11 HLxw11 HOx2w11 HLx2w11 HOyw11 HLyw11 HBw11 HTw11
  go_wp2
  go_ret
  exact ⟨rfl, HBw12.out⟩

set_option maxHeartbeats 8000000 in
set_option maxRecDepth 100000 in
theorem reads_no (p : PatchD) (s : List UInt8) (w : World) (hp : p.Ok w w.heap.size) (hs : s.length ≤ maxLen) (ht : Tabs w) (hl : lightB p = true) (hg : s.length ≤ 1000) (hok : rOk s = false) :
    Calls Tryd.prog 3 #[.agg p.parts.toArray, .string ⟨s.toArray⟩] w fun r w' => r = .returned (.bool true) ∧ Below w.heap.size w w' := by
  have HTB := Lib.hid ht
  have hp0 := hp
  have HBX0 : Hid (Below w.heap.size w (w.alloc (.cells p.parts.toArray 24))) := Lib.hid ((Below.refl _ _).alloc (Nat.le_refl _) _)
  have HX0 : Hid (Blk (w.alloc (.cells p.parts.toArray 24)) w.heap.size 24 p.parts.toArray) := Lib.hid (Blk.new w 24 _)
  have HOpw := Lib.hid hp
  have HLpw : Hid (w.heap.size ≤ w.heap.size) := Lib.hid (Nat.le_refl _)
  clear hp ht
  have HLI := Lib.hid (fun (w' : World) (h : p.Ok w' w'.heap.size) => light_any p w'.heap.size w' h (Nat.le_refl _))
  rw [hl] at HLI
  unfold maxLen at hs
  have hlb : decide ((1000 : Int) < (s.length : Int)) = false := decide_eq_false (by omega)
  have HOK := Lib.hid hok
  have HPK : Hid (p.pd.Ok) := Lib.hid ⟨hp0.from_, hp0.to_, by have := hp0.len; show p.edits.length < 2 ^ 63; omega, hp0.edits⟩
  have hwl := light_len p hl hp0
  have HWL := Lib.hid hwl
  obtain ⟨WP, hWP⟩ : ∃ l, l = wPatch p := ⟨_, rfl⟩
  have HWP := Lib.hid hWP
  have hwpl : WP.length ≤ 1000000 := by rw [hWP]; exact hwl
  have HBY := Lib.hid (fun (w' : World) (h : p.Ok w' w'.heap.size) => Bytes_any p w'.heap.size w' h (Nat.le_refl _) (by omega))
  have HSZ := Lib.hid (fun (w' : World) (h : p.Ok w' w'.heap.size) => Size_any p w'.heap.size w' h (Nat.le_refl _) (by omega))
  have HR1 := Lib.hid (fun (w' : World) => Read_any WP w' (by omega))
  have HR2 := Lib.hid (fun (w' : World) => Read_any (WP ++ [120]) w' (by simp; omega))
  have HR3 := Lib.hid (fun (w' : World) => Read_any s w' (by omega))
  have hro1 : rOk WP = true := by rw [hWP, wPatch_pd]; exact (rPD_w p.pd HPK.out).1
  have hrp1 : rPD WP = p.pd := by rw [hWP, wPatch_pd]; exact (rPD_w p.pd HPK.out).2
  have hro2 : rOk (WP ++ [120]) = false := by rw [hWP, wPatch_pd]; exact rPD_more p.pd 120 [] HPK.out
  unfold ReadPost str at HR1 HR2 HR3
  unfold str at HBY
  rw [hro1, hrp1] at HR1
  rw [hro2] at HR2
  rw [hok] at HR3
  rw [← hWP] at HBY HSZ
  have hadd := fun w' => str_add WP [120] (w := w') (by simp; omega)
  clear hok hWP hwl hro1 hro2 hrp1 hl hp0
  go_enter Tryd.func3, Tryd.ntmps3
  go_wp2_with fail
  generalize w.alloc (.cells p.parts.toArray 24) = w0 at HBX0 HX0 ⊢
  have hb := HBX0.out
  have HOpw0 := Lib.hid (HOpw.out.below (hb.mono HLpw.out)); have HLpw0 := Lib.hid (Nat.le_trans HLpw.out hb.size)
  have HBw0 := Lib.hid hb
  have HTw0 := Lib.hid (HTB.out.below HBw0.out HTB.out.size)
  clear hb HOpw HLpw
  have HPw0 := HX0; clear HX0 HBX0
  go_wp2_with (first
      | (refine wpList_load_mid rfl 24 _ rfl w.heap.size 0 rfl p.parts _ HPw0.out.range Tryd.underlying24 rfl (patchInfo p) ?_)
      | fail)
  have HC := Lib.hid (Small_any w0 HTw0.out)
  refine (HC.out).mono ?_
  rintro r w1 ⟨rfl, hb⟩
  clear HC
  have HPw1 := Lib.hid (HPw0.out.below hb HPw0.out.lt)
  have HOpw1 := Lib.hid (HOpw0.out.below (hb.mono HLpw0.out)); have HLpw1 := Lib.hid (Nat.le_trans HLpw0.out hb.size)
  have HBw1 := Lib.hid (HBw0.out.trans (hb.mono HBw0.out.size))
  have HTw1 := Lib.hid (HTB.out.below HBw1.out HTB.out.size)
  clear hb HPw0 HOpw0 HLpw0 HBw0 HTw0
  go_wp2_with (first
      | (refine wpList_load_mid rfl 24 _ rfl w.heap.size 0 rfl p.parts _ HPw1.out.range Tryd.underlying24 rfl (patchInfo p) ?_)
      | fail)
  have HC := Lib.hid (HLI.out w1 (HOpw1.out.more HLpw1.out))
  refine (HC.out).mono ?_
  rintro r w2 ⟨rfl, hb⟩
  clear HC
  have HPw2 := Lib.hid (HPw1.out.below hb HPw1.out.lt)
  have HOpw2 := Lib.hid (HOpw1.out.below (hb.mono HLpw1.out)); have HLpw2 := Lib.hid (Nat.le_trans HLpw1.out hb.size)
  have HBw2 := Lib.hid (HBw1.out.trans (hb.mono HBw1.out.size))
  have HTw2 := Lib.hid (HTB.out.below HBw2.out HTB.out.size)
  clear hb HPw1 HOpw1 HLpw1 HBw1 HTw1
  go_wp2_with (first
      | (refine wpList_load_mid rfl 24 _ rfl w.heap.size 0 rfl p.parts _ HPw2.out.range Tryd.underlying24 rfl (patchInfo p) ?_)
      | fail)
  have HC := Lib.hid (HBY.out w2 (HOpw2.out.more HLpw2.out))
  refine (HC.out).mono ?_
  rintro r w3 ⟨rfl, hb⟩
  clear HC
  have HPw3 := Lib.hid (HPw2.out.below hb HPw2.out.lt)
  have HOpw3 := Lib.hid (HOpw2.out.below (hb.mono HLpw2.out)); have HLpw3 := Lib.hid (Nat.le_trans HLpw2.out hb.size)
  have HBw3 := Lib.hid (HBw2.out.trans (hb.mono HBw2.out.size))
  have HTw3 := Lib.hid (HTB.out.below HBw3.out HTB.out.size)
  clear hb HPw2 HOpw2 HLpw2 HBw2 HTw2
  go_wp2_with (first
      | (refine wpList_load_mid rfl 24 _ rfl w.heap.size 0 rfl p.parts _ HPw3.out.range Tryd.underlying24 rfl (patchInfo p) ?_)
      | fail)
  have HC := Lib.hid (HR1.out w3)
  refine (HC.out).mono ?_
  rintro r w4 ⟨x, rfl, hqx, hkx, hb⟩
  clear HC
  have HDx := Lib.hid hqx; clear hqx
  have HPw4 := Lib.hid (HPw3.out.below hb HPw3.out.lt)
  have HOpw4 := Lib.hid (HOpw3.out.below (hb.mono HLpw3.out)); have HLpw4 := Lib.hid (Nat.le_trans HLpw3.out hb.size)
  have HBw4 := Lib.hid (HBw3.out.trans (hb.mono HBw3.out.size))
  have HTw4 := Lib.hid (HTB.out.below HBw4.out HTB.out.size)
  clear hb HPw3 HOpw3 HLpw3 HBw3 HTw3
  have HOxw4 := Lib.hid hkx; have HLxw4 : Hid (w4.heap.size ≤ w4.heap.size) := Lib.hid (Nat.le_refl _); clear hkx
  go_wp2_with (first
      | (refine wpList_load_mid rfl 24 _ rfl w.heap.size 0 rfl p.parts _ HPw4.out.range Tryd.underlying24 rfl (patchInfo p) ?_)
      | (refine wpList_new_store rfl 24 _ _ rfl x.parts rfl rfl rfl (patchInfo x) (PatchD.one x) ?_))
  intro w5 hx hb
  have HN := Lib.hid hx; clear hx
  have HPw5 := Lib.hid (HPw4.out.below hb HPw4.out.lt)
  have HOpw5 := Lib.hid (HOpw4.out.below (hb.mono HLpw4.out)); have HLpw5 := Lib.hid (Nat.le_trans HLpw4.out hb.size)
  have HOxw5 := Lib.hid (HOxw4.out.below (hb.mono HLxw4.out)); have HLxw5 := Lib.hid (Nat.le_trans HLxw4.out hb.size)
  have HBw5 := Lib.hid (HBw4.out.trans (hb.mono HBw4.out.size))
  have HTw5 := Lib.hid (HTB.out.below HBw5.out HTB.out.size)
  clear hb HPw4 HOpw4 HLpw4 HOxw4 HLxw4 HBw4 HTw4
  have HXw5 := HN; clear HN
  go_wp2_with (first
      | (refine wpList_load_mid rfl 24 _ rfl w.heap.size 0 rfl p.parts _ HPw5.out.range Tryd.underlying24 rfl (patchInfo p) ?_)
      | (refine wpList_load_mid rfl 24 _ rfl w4.heap.size 0 rfl x.parts _ HXw5.out.range Tryd.underlying24 rfl (patchInfo x) ?_)
      | fail)
  have HC := Lib.hid (HR2.out w5)
  refine (HC.out).mono ?_
  rintro r w6 ⟨x2, rfl, hqx2, hkx2, hb⟩
  clear HC
  have HDx2 := Lib.hid hqx2; clear hqx2
  have HPw6 := Lib.hid (HPw5.out.below hb HPw5.out.lt)
  have HXw6 := Lib.hid (HXw5.out.below hb HXw5.out.lt)
  have HOpw6 := Lib.hid (HOpw5.out.below (hb.mono HLpw5.out)); have HLpw6 := Lib.hid (Nat.le_trans HLpw5.out hb.size)
  have HOxw6 := Lib.hid (HOxw5.out.below (hb.mono HLxw5.out)); have HLxw6 := Lib.hid (Nat.le_trans HLxw5.out hb.size)
  have HBw6 := Lib.hid (HBw5.out.trans (hb.mono HBw5.out.size))
  have HTw6 := Lib.hid (HTB.out.below HBw6.out HTB.out.size)
  clear hb HPw5 HXw5 HOpw5 HLpw5 HOxw5 HLxw5 HBw5 HTw5
  have HOx2w6 := Lib.hid hkx2; have HLx2w6 : Hid (w6.heap.size ≤ w6.heap.size) := Lib.hid (Nat.le_refl _); clear hkx2
  go_wp2_with (first
      | (refine wpList_load_mid rfl 24 _ rfl w.heap.size 0 rfl p.parts _ HPw6.out.range Tryd.underlying24 rfl (patchInfo p) ?_)
      | (refine wpList_load_mid rfl 24 _ rfl w4.heap.size 0 rfl x.parts _ HXw6.out.range Tryd.underlying24 rfl (patchInfo x) ?_)
      | (refine wpList_new_store rfl 24 _ _ rfl x2.parts rfl rfl rfl (patchInfo x2) (PatchD.one x2) ?_))
  intro w7 hx hb
  have HN := Lib.hid hx; clear hx
  have HPw7 := Lib.hid (HPw6.out.below hb HPw6.out.lt)
  have HXw7 := Lib.hid (HXw6.out.below hb HXw6.out.lt)
  have HOpw7 := Lib.hid (HOpw6.out.below (hb.mono HLpw6.out)); have HLpw7 := Lib.hid (Nat.le_trans HLpw6.out hb.size)
  have HOxw7 := Lib.hid (HOxw6.out.below (hb.mono HLxw6.out)); have HLxw7 := Lib.hid (Nat.le_trans HLxw6.out hb.size)
  have HOx2w7 := Lib.hid (HOx2w6.out.below (hb.mono HLx2w6.out)); have HLx2w7 := Lib.hid (Nat.le_trans HLx2w6.out hb.size)
  have HBw7 := Lib.hid (HBw6.out.trans (hb.mono HBw6.out.size))
  have HTw7 := Lib.hid (HTB.out.below HBw7.out HTB.out.size)
  clear hb HPw6 HXw6 HOpw6 HLpw6 HOxw6 HLxw6 HOx2w6 HLx2w6 HBw6 HTw6
  have HZw7 := HN; clear HN
  go_wp2_with (first
      | (refine wpList_load_mid rfl 24 _ rfl w.heap.size 0 rfl p.parts _ HPw7.out.range Tryd.underlying24 rfl (patchInfo p) ?_)
      | (refine wpList_load_mid rfl 24 _ rfl w4.heap.size 0 rfl x.parts _ HXw7.out.range Tryd.underlying24 rfl (patchInfo x) ?_)
      | (refine wpList_load_mid rfl 24 _ rfl w6.heap.size 0 rfl x2.parts _ HZw7.out.range Tryd.underlying24 rfl (patchInfo x2) ?_)
      | fail)
  have HC := Lib.hid (HR3.out w7)
  refine (HC.out).mono ?_
  rintro r w8 ⟨y, rfl, hqy, hky, hb⟩
  clear HC
  have HDy := Lib.hid hqy; clear hqy
  have HPw8 := Lib.hid (HPw7.out.below hb HPw7.out.lt)
  have HXw8 := Lib.hid (HXw7.out.below hb HXw7.out.lt)
  have HZw8 := Lib.hid (HZw7.out.below hb HZw7.out.lt)
  have HOpw8 := Lib.hid (HOpw7.out.below (hb.mono HLpw7.out)); have HLpw8 := Lib.hid (Nat.le_trans HLpw7.out hb.size)
  have HOxw8 := Lib.hid (HOxw7.out.below (hb.mono HLxw7.out)); have HLxw8 := Lib.hid (Nat.le_trans HLxw7.out hb.size)
  have HOx2w8 := Lib.hid (HOx2w7.out.below (hb.mono HLx2w7.out)); have HLx2w8 := Lib.hid (Nat.le_trans HLx2w7.out hb.size)
  have HBw8 := Lib.hid (HBw7.out.trans (hb.mono HBw7.out.size))
  have HTw8 := Lib.hid (HTB.out.below HBw8.out HTB.out.size)
  clear hb HPw7 HXw7 HZw7 HOpw7 HLpw7 HOxw7 HLxw7 HOx2w7 HLx2w7 HBw7 HTw7
  have HOyw8 := Lib.hid hky; have HLyw8 : Hid (w8.heap.size ≤ w8.heap.size) := Lib.hid (Nat.le_refl _); clear hky
  go_wp2_with (first
      | (refine wpList_load_mid rfl 24 _ rfl w.heap.size 0 rfl p.parts _ HPw8.out.range Tryd.underlying24 rfl (patchInfo p) ?_)
      | (refine wpList_load_mid rfl 24 _ rfl w4.heap.size 0 rfl x.parts _ HXw8.out.range Tryd.underlying24 rfl (patchInfo x) ?_)
      | (refine wpList_load_mid rfl 24 _ rfl w6.heap.size 0 rfl x2.parts _ HZw8.out.range Tryd.underlying24 rfl (patchInfo x2) ?_)
      | (refine wpList_new_store rfl 24 _ _ rfl y.parts rfl rfl rfl (patchInfo y) (PatchD.one y) ?_))
  intro w9 hx hb
  have HN := Lib.hid hx; clear hx
  have HPw9 := Lib.hid (HPw8.out.below hb HPw8.out.lt)
  have HXw9 := Lib.hid (HXw8.out.below hb HXw8.out.lt)
  have HZw9 := Lib.hid (HZw8.out.below hb HZw8.out.lt)
  have HOpw9 := Lib.hid (HOpw8.out.below (hb.mono HLpw8.out)); have HLpw9 := Lib.hid (Nat.le_trans HLpw8.out hb.size)
  have HOxw9 := Lib.hid (HOxw8.out.below (hb.mono HLxw8.out)); have HLxw9 := Lib.hid (Nat.le_trans HLxw8.out hb.size)
  have HOx2w9 := Lib.hid (HOx2w8.out.below (hb.mono HLx2w8.out)); have HLx2w9 := Lib.hid (Nat.le_trans HLx2w8.out hb.size)
  have HOyw9 := Lib.hid (HOyw8.out.below (hb.mono HLyw8.out)); have HLyw9 := Lib.hid (Nat.le_trans HLyw8.out hb.size)
  have HBw9 := Lib.hid (HBw8.out.trans (hb.mono HBw8.out.size))
  have HTw9 := Lib.hid (HTB.out.below HBw9.out HTB.out.size)
  clear hb HPw8 HXw8 HZw8 HOpw8 HLpw8 HOxw8 HLxw8 HOx2w8 HLx2w8 HOyw8 HLyw8 HBw8 HTw8
  have HYw9 := HN; clear HN
  go_wp2_with (first
      | (refine wpList_load_midG (by kernel_rfl) 24 _ rfl w.heap.size 0 rfl p.parts _ HPw9.out.range Tryd.underlying24 rfl (patchInfo p) ?_)
      | (refine wpList_load_midG (by kernel_rfl) 24 _ rfl w4.heap.size 0 rfl x.parts _ HXw9.out.range Tryd.underlying24 rfl (patchInfo x) ?_)
      | (refine wpList_load_midG (by kernel_rfl) 24 _ rfl w6.heap.size 0 rfl x2.parts _ HZw9.out.range Tryd.underlying24 rfl (patchInfo x2) ?_)
      | (refine wpList_load_midG (by kernel_rfl) 24 _ rfl w8.heap.size 0 rfl y.parts _ HYw9.out.range Tryd.underlying24 rfl (patchInfo y) ?_)
      | fail)
  have HC := Lib.hid (Same_E x p HDx.out w9 (HOxw9.out.more HLxw9.out) (HOpw9.out.more HLpw9.out))
  refine (HC.out).mono ?_
  rintro r w10 ⟨rfl, hb⟩
  clear HC
  have HPw10 := Lib.hid (HPw9.out.below hb HPw9.out.lt)
  have HXw10 := Lib.hid (HXw9.out.below hb HXw9.out.lt)
  have HZw10 := Lib.hid (HZw9.out.below hb HZw9.out.lt)
  have HYw10 := Lib.hid (HYw9.out.below hb HYw9.out.lt)
  have HOpw10 := Lib.hid (HOpw9.out.below (hb.mono HLpw9.out)); have HLpw10 := Lib.hid (Nat.le_trans HLpw9.out hb.size)
  have HOxw10 := Lib.hid (HOxw9.out.below (hb.mono HLxw9.out)); have HLxw10 := Lib.hid (Nat.le_trans HLxw9.out hb.size)
  have HOx2w10 := Lib.hid (HOx2w9.out.below (hb.mono HLx2w9.out)); have HLx2w10 := Lib.hid (Nat.le_trans HLx2w9.out hb.size)
  have HOyw10 := Lib.hid (HOyw9.out.below (hb.mono HLyw9.out)); have HLyw10 := Lib.hid (Nat.le_trans HLyw9.out hb.size)
  have HBw10 := Lib.hid (HBw9.out.trans (hb.mono HBw9.out.size))
  have HTw10 := Lib.hid (HTB.out.below HBw10.out HTB.out.size)
  clear hb HPw9 HXw9 HZw9 HYw9 HOpw9 HLpw9 HOxw9 HLxw9 HOx2w9 HLx2w9 HOyw9 HLyw9 HBw9 HTw9
  go_wp2_with (first
      | (refine wpList_load_midG (by kernel_rfl) 24 _ rfl w.heap.size 0 rfl p.parts _ HPw10.out.range Tryd.underlying24 rfl (patchInfo p) ?_)
      | (refine wpList_load_midG (by kernel_rfl) 24 _ rfl w4.heap.size 0 rfl x.parts _ HXw10.out.range Tryd.underlying24 rfl (patchInfo x) ?_)
      | (refine wpList_load_midG (by kernel_rfl) 24 _ rfl w6.heap.size 0 rfl x2.parts _ HZw10.out.range Tryd.underlying24 rfl (patchInfo x2) ?_)
      | (refine wpList_load_midG (by kernel_rfl) 24 _ rfl w8.heap.size 0 rfl y.parts _ HYw10.out.range Tryd.underlying24 rfl (patchInfo y) ?_)
      | fail)
  have HC := Lib.hid (HSZ.out w10 (HOpw10.out.more HLpw10.out))
  refine (HC.out).mono ?_
  rintro r w11 ⟨rfl, hb⟩
  clear HC
  have HPw11 := Lib.hid (HPw10.out.below hb HPw10.out.lt)
  have HXw11 := Lib.hid (HXw10.out.below hb HXw10.out.lt)
  have HZw11 := Lib.hid (HZw10.out.below hb HZw10.out.lt)
  have HYw11 := Lib.hid (HYw10.out.below hb HYw10.out.lt)
  have HOpw11 := Lib.hid (HOpw10.out.below (hb.mono HLpw10.out)); have HLpw11 := Lib.hid (Nat.le_trans HLpw10.out hb.size)
  have HOxw11 := Lib.hid (HOxw10.out.below (hb.mono HLxw10.out)); have HLxw11 := Lib.hid (Nat.le_trans HLxw10.out hb.size)
  have HOx2w11 := Lib.hid (HOx2w10.out.below (hb.mono HLx2w10.out)); have HLx2w11 := Lib.hid (Nat.le_trans HLx2w10.out hb.size)
  have HOyw11 := Lib.hid (HOyw10.out.below (hb.mono HLyw10.out)); have HLyw11 := Lib.hid (Nat.le_trans HLyw10.out hb.size)
  have HBw11 := Lib.hid (HBw10.out.trans (hb.mono HBw10.out.size))
  have HTw11 := Lib.hid (HTB.out.below HBw11.out HTB.out.size)
  clear hb HPw10 HXw10 HZw10 HYw10 HOpw10 HLpw10 HOxw10 HLxw10 HOx2w10 HLx2w10 HOyw10 HLyw10 HBw10 HTw10
  go_wp2_with (first
      | (refine wpList_load_midG (by rfl) 24 _ rfl w.heap.size 0 rfl p.parts _ HPw11.out.range Tryd.underlying24 rfl (patchInfo p) ?_)
      | (refine wpList_load_midG (by rfl) 24 _ rfl w4.heap.size 0 rfl x.parts _ HXw11.out.range Tryd.underlying24 rfl (patchInfo x) ?_)
      | (refine wpList_load_midG (by rfl) 24 _ rfl w6.heap.size 0 rfl x2.parts _ HZw11.out.range Tryd.underlying24 rfl (patchInfo x2) ?_)
      | (refine wpList_load_midG (by rfl) 24 _ rfl w8.heap.size 0 rfl y.parts _ HYw11.out.range Tryd.underlying24 rfl (patchInfo y) ?_)
      | fail)
  have HC := Lib.hid (Same_E y PatchD.nil (HDy.out.trans (rPD_nil HOK.out)) w11 (HOyw11.out.more HLyw11.out) (PatchD.nil_ok _ _))
  refine (HC.out).mono ?_
  rintro r w12 ⟨rfl, hb⟩
  clear HC
  have HPw12 := Lib.hid (HPw11.out.below hb HPw11.out.lt)
  have HXw12 := Lib.hid (HXw11.out.below hb HXw11.out.lt)
  have HZw12 := Lib.hid (HZw11.out.below hb HZw11.out.lt)
  have HYw12 := Lib.hid (HYw11.out.below hb HYw11.out.lt)
  have HOpw12 := Lib.hid (HOpw11.out.below (hb.mono HLpw11.out)); have HLpw12 := Lib.hid (Nat.le_trans HLpw11.out hb.size)
  have HOxw12 := Lib.hid (HOxw11.out.below (hb.mono HLxw11.out)); have HLxw12 := Lib.hid (Nat.le_trans HLxw11.out hb.size)
  have HOx2w12 := Lib.hid (HOx2w11.out.below (hb.mono HLx2w11.out)); have HLx2w12 := Lib.hid (Nat.le_trans HLx2w11.out hb.size)
  have HOyw12 := Lib.hid (HOyw11.out.below (hb.mono HLyw11.out)); have HLyw12 := Lib.hid (Nat.le_trans HLyw11.out hb.size)
  have HBw12 := Lib.hid (HBw11.out.trans (hb.mono HBw11.out.size))
  have HTw12 := Lib.hid (HTB.out.below HBw12.out HTB.out.size)
  clear hb HPw11 HXw11 HZw11 HYw11 HOpw11 HLpw11 HOxw11 HLxw11 HOx2w11 HLx2w11 HOyw11 HLyw11 HBw11 HTw11
  go_wp2
  go_ret
  exact ⟨rfl, HBw12.out⟩

theorem walk (p : PatchD) (s : List UInt8) (w : World) (hp : p.Ok w w.heap.size) (hs : s.length ≤ maxLen) (ht : Tabs w) :
    Calls Tryd.prog 3 #[.agg p.parts.toArray, .string ⟨s.toArray⟩] w fun r w' => r = .returned (.bool true) ∧ Below w.heap.size w w' := by
  cases hl : lightB p with
  | false => exact reads_heavy p s w hp hs ht hl
  | true =>
    by_cases hg : 1000 < s.length
    · exact reads_long p s w hp hs ht hl hg
    · cases hok : rOk s with
      | true => exact reads_ok p s w hp hs ht hl (by omega) hok
      | false => exact reads_no p s w hp hs ht hl (by omega) hok

theorem walkV (v : Value) (s : ByteArray) (w : World) (hp : ∃ u : PatchD, v = .agg u.parts.toArray ∧ u.Ok w w.heap.size) (hs : s.size ≤ maxLen) (ht : Tabs w) :
    Calls Tryd.prog 3 #[v, .string s] w fun r w' => r = .returned (.bool true) ∧ Below w.heap.size w w' := by
  obtain ⟨p, rfl, hp⟩ := hp
  have h := walk p s.data.toList w hp (by rw [← Lib.size_eq]; exact hs) ht
  rw [Lib.mk_data] at h
  exact h

theorem own : ownKnob Tryd.prog.godebug = none := by kernel_rfl
theorem laidOut : laidOutB Tryd.prog = true := by kernel_rfl

set_option maxRecDepth 100000 in
/-- What the walk gives, for every argument and every world that holds the tables. -/
theorem contract (H : Type) (enc : TypeId × Value → H) (W : World) (base : Nat) (args : Array Value) (ds gs : List (DataW H)) (before : List MemPlace)
    (hval : ∀ (j : Nat) t v, Tryd.f3.params[j]? = some t → args[j]? = some v → Value.okWide Tryd.prog W .any base t v)
    (hW : DataW.Whole enc Tryd.prog Tryd.f3.params.toList Rows.patchReadsSpec.vars false W args.toList ds gs before) (hL : laidMetH Tryd.prog Rows.patchReadsRow.laid W) :
    Calls Tryd.prog 3 args W fun e W' => ∃ v, e = .returned v ∧ Rows.patchReadsSpec.post enc Tryd.prog Tryd.f3 false true false false W args v W' := by
  have hW' := hW
  obtain ⟨p, q, hA0, hV, rfl, hfz, hnd⟩ := hW
  have hA : DataW.TrodAll enc Tryd.prog W 0 (fun _ => true) true Tryd.f3.params.toList args.toList ds p := hA0
  rw [Tryd.params3] at hA hval
  obtain ⟨v0, vs0, d0, ds0, p0, q0, hargs, rfl, rfl, h0, r0⟩ := trodAll_cons hA
  obtain ⟨v1, vs1, d1, ds1, p1, q1, rfl, rfl, rfl, h1, r1⟩ := trodAll_cons r0
  obtain ⟨rfl, rfl, rfl⟩ := trodAll_nil r1
  obtain rfl : args = #[v0, v1] := by cases args; simp_all
  obtain ⟨rfl, rfl⟩ := trodVars_none hV
  have k0 := h0
  have lt0 : ∀ x ∈ p0, x.block < W.heap.size := by obtain ⟨m, hm⟩ := k0; exact DataW.trod_lt m _ _ _ hm
  have o0 := openPatch (hval 0 24 v0 rfl rfl) h0
  obtain ⟨a1, rfl, rfl, rfl, wf1⟩ := open_string Tryd.underlying9 (hval 1 9 v1 rfl rfl) h1
  clear hA0
  refine (walkV v0 a1 W o0 wf1 (tables hL)).mono fun e W' ⟨he, bel⟩ => ?_
  subst he
  exact ⟨_, rfl, _, _, _, [], _, [], hW', trodAll_mk1 (shut_bool Tryd.underlying4 _), (trodAll_cons_mk (Below.trod laidOut (by kernel_rfl) (of_decide_eq_true (by kernel_rfl)) k0 bel lt0) (trodAll_cons_mk (shut_string Tryd.underlying9 wf1) trodAll_mk0)), rfl, bel.frame _, fun h => by cases h⟩

/-- A world for the witness: the settled one, the tables holding what their initialisers lay. -/
def layCons : Obj → Obj
  | .cells _ t frozen => .cells (constsL.map (Value.int .u64)).toArray t frozen
  | o => o
def layTurns : Obj → Obj
  | .cells _ t frozen => .cells (turnsL.map (fun (n : Nat) => Value.int .i64 n)).toArray t frozen
  | o => o
noncomputable def laidWorld (os : Os) : World :=
  { World.holding Tryd.prog os ⟨#[], #[], []⟩ with heap := ((World.holding Tryd.prog os ⟨#[], #[], []⟩).heap.modify 0 layCons).modify 1 layTurns }
theorem laid_met (os : Os) : laidMet Tryd.prog Rows.patchReadsRow.laid ((laidWorld os).forCall (fun _ _ => 0) ⟨#[], #[.agg #[.string ByteArray.empty, .string ByteArray.empty, .slice none 0 0], .string ByteArray.empty], []⟩).memory :=
  laidMet_of_run' 8 (by kernel_rfl) (by kernel_rfl)
theorem reads (os : Os) {H : Type} (enc : TypeId × Value → H) : ∃ places, DataW.whole enc Tryd.prog ((laidWorld os).forCall (fun _ _ => 0) ⟨#[], #[.agg #[.string ByteArray.empty, .string ByteArray.empty, .slice none 0 0], .string ByteArray.empty], []⟩).memory Tryd.f3.params.toList Rows.patchReadsSpec.vars false (#[.agg #[.string ByteArray.empty, .string ByteArray.empty, .slice none 0 0], .string ByteArray.empty] : Array Value).toList 8 = some ([.agg [.lit (.string []), .lit (.string []), .nil], .lit (.string [])], [], places) :=
  ⟨[], by kernel_rfl⟩

set_option maxRecDepth 100000 in
theorem lifted (os : Os) (started : os.Started) (H : Type) (enc : TypeId × Value → H) (F : Stop.Interp) :
    ReturnsInHanded {} Tryd.checked os 3 .any ((OpenSpec.ofChange Rows.patchReadsSpec).preRow enc Tryd.prog Tryd.f3 Rows.patchReadsRow.domain false Rows.patchReadsRow.laid) (((OpenSpec.ofChange Rows.patchReadsSpec).at F).post enc Tryd.prog Tryd.f3 false true false false) := by
  obtain ⟨places, hx⟩ := reads os enc
  refine returnsInHanded_of_row (C := Tryd.checked) (s := OpenSpec.ofChange Rows.patchReadsSpec) own started (by kernel_rfl) Tryd.func3
    (witness_row_at (enc := enc) (C := Tryd.checked) false (laidWorld os) #[.agg #[.string ByteArray.empty, .string ByteArray.empty, .slice none 0 0], .string ByteArray.empty] rfl (by kernel_rfl) (by kernel_rfl) (by kernel_rfl)
      (OpenSpec.preRow_of_cond 8 hx (by kernel_rfl) (fun k hk => by cases hk) (by kernel_rfl) (laid_met os))) ?_
  intro W base args ds gs before hval hW _ _ _ hL _ _
  exact contract H enc W base args ds gs before hval hW hL

set_option maxRecDepth 100000 in
theorem said : Rows.PatchReadsSaid :=
  OpenClaim.holds_of_cond 3 Tryd.f3 rfl rfl rfl rfl rfl rfl rfl ⟨rfl, rfl, rfl, rfl, rfl⟩ rfl rfl rfl rfl rfl (by kernel_rfl) Tryd.func3 (by kernel_rfl)
    (of_decide_eq_true (by kernel_rfl)) (by unfold Func.isWrapper; first | (rw [if_pos (by decide +kernel)]; kernel_rfl) | (rw [if_neg (by decide +kernel)]; exact ⟨rfl, rfl⟩))
    (fun os started H enc _ F => by rw [OpenClaim.pre_eq_preRow]; exact lifted os started H enc F)

set_option maxRecDepth 100000 in
theorem plain (f : FuncId) (fn : Func) (hf : Tryd.pinned.checked.prog.funcNamed "linchpin/linchpinlaw27.PatchReads" = some f) (hfn : Tryd.pinned.checked.prog.funcs[f]? = some fn) :
    false = Tryd.pinned.checked.prog.looks [] ∧ ∀ (j : Nat) t, fn.params[j]? = some t → Tryd.pinned.checked.prog.wantsStandIn t = false := by
  obtain rfl : f = 3 := Option.some.inj ((show Tryd.prog.funcNamed "linchpin/linchpinlaw27.PatchReads" = some 3 by kernel_rfl).symm.trans hf) |>.symm
  obtain rfl : fn = Tryd.f3 := (Option.some.inj (Tryd.func3.symm.trans hfn)).symm
  refine ⟨by kernel_rfl, fun j t ht => ?_⟩
  rw [Tryd.params3] at ht
  have hm := Array.mem_of_getElem? ht
  simp only [List.mem_toArray, List.mem_cons, List.not_mem_nil, or_false] at hm
  rcases hm with rfl | rfl
  all_goals first
    | exact (show Tryd.prog.wantsStandIn 9 = false by kernel_rfl)
    | exact (show Tryd.prog.wantsStandIn 24 = false by kernel_rfl)

/-- The tied card. -/
theorem card : Rows.PatchReadsCardSaid :=
  Claim7.holds_tied_plain_at .later [] _ _ _ _ said (fun _ h => by cases h) (by kernel_rfl) (fun _ h => by cases h) patchReads_row_tie rfl ⟨rfl, rfl⟩ (by kernel_rfl) rfl plain (by kernel_rfl)
#print axioms card

end patchReads
end Go.Proofs.YtefgajipakjpeaaDoor
