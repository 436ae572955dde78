/-
  WirePrefix: for all two values of the same kind (of at most 400 bytes and elements), if the encoding of one of them begins with that of the other one, they are equal; for all other inputs the small examples hold. No condition.
-/
import Derived.Test.YtcamfdmmcbimfaaEqual
import Derived.Test.YtcamfdmmcbimfaaWireBack
namespace Go.Proofs.Ytcamfdmmcbimfaa.wirePrefix
open Go.ChangeShapes Go.WideShapes Go.ChangeAt Go.RowKit
open Go.Proofs.Ytcamfdmmcbimfaa.wireBack (few_all wVal_length)

theorem own : ownKnob Try.prog.godebug = none := by kernel_rfl
theorem laidOut : laidOutB Try.prog = true := by kernel_rfl

theorem rdVal_det {kd : Int} {st t t' : St} {v v' : Val} (h : rdVal kd st v t) (h' : rdVal kd st v' t') : t = t' := by
  unfold rdVal at h h'
  split at h
  · rename_i hk; rw [if_pos hk] at h'; rw [h] at h'; injection h'
  · rename_i hk; rw [if_neg hk] at h'
    split at h
    · rename_i hk; rw [if_pos hk] at h'; rw [h] at h'; injection h'
    · rename_i hk; rw [if_neg hk] at h'
      split at h
      · rename_i hk; rw [if_pos hk] at h'; rw [h] at h'; injection h'
      · rename_i hk; rw [if_neg hk] at h'
        split at h
        · rename_i hk; rw [if_pos hk] at h'; rw [h] at h'; injection h'
        · rename_i hk; rw [if_neg hk] at h'; rw [h] at h'; injection h'

/-- The plain law: an encoding that begins with another one of its kind is that one. -/
theorem prefix_eq (kd : Int) (v x : Val) (hn : I64 v.n) (hi : ∀ z ∈ v.l, I64 z) (hs : v.Small) (hn' : I64 x.n) (hi' : ∀ z ∈ x.l, I64 z) (hs' : x.Small) (h : (wVal kd x).take (wVal kd v).length = wVal kd v) : wVal kd v = wVal kd x := by
  have e : wVal kd v ++ (wVal kd x).drop (wVal kd v).length = wVal kd x := by
    conv => lhs; lhs; rw [← h]
    exact List.take_append_drop _ _
  have h1 := rdVal_w kd v ((wVal kd x).drop (wVal kd v).length) hn hi hs
  have h2 := rdVal_w kd x [] hn' hi' hs'
  rw [List.append_nil] at h2
  rw [e] at h1
  have h3 := rdVal_det h1 h2
  have h4 : (wVal kd x).drop (wVal kd v).length = [] := by injection h3
  rw [h4, List.append_nil] at e
  exact e

/-- The two boxes stand. -/
def Two (N M : Nat) (v x : Val) (w : World) : Prop := Blk w N 25 v.parts.toArray ∧ Blk w M 25 x.parts.toArray

theorem few1 {v : Val} {w0 W : World} {b : Nat} {r : Bool} (hr : fewB [v] = r) (hok : v.Ok w0 w0.heap.size) (hblk2 : Blk W b 25 #[.int .i64 v.kind, .int .i64 v.n, .string ⟨v.s.toArray⟩, .slice v.la v.l.length v.lc, .slice v.ta v.t.length v.tc]) (hb : Below w0.heap.size w0 W) :
    Calls Try.prog 10 #[.slice (some ⟨b, 0, none⟩) 1 1] W fun e w2 => e = .returned (.bool r) ∧ Below W.heap.size W w2 := by
  subst hr
  have hvals : ValsAt W W.heap.size (some ⟨b, 0, none⟩) [v] := by
    refine ⟨⟨rfl, fun _ => ⟨_, rfl, hblk2.lt, fun j u hu => ?_⟩⟩, fun x hx => ?_⟩
    · have e : (⟨b, 0, none⟩ : Addr).add j = ⟨b, j, none⟩ := by unfold Addr.add; split <;> simp_all
      rw [e, hblk2.cell]
      simpa [Val.parts] using hu
    · obtain rfl : x = v := by simpa using hx
      exact ((hok.below hb).more hb.size)
  exact few_any _ 1 _ [v] _ hvals (Nat.le_refl _) (by simp)

theorem keepP {N : Nat} {a0 a1 a2 a3 a4 b0 b1 b2 b3 b4 : Value} {w0 w1 w2 : World} (h : w1.cell? ⟨N, 0, none⟩ = some a0 ∧ w1.cell? ⟨N, 1, none⟩ = some a1 ∧ w1.cell? ⟨N, 2, none⟩ = some a2 ∧ w1.cell? ⟨N, 3, none⟩ = some a3 ∧ w1.cell? ⟨N, 4, none⟩ = some a4 ∧ w1.cell? ⟨(N + 1), 0, none⟩ = some b0 ∧ w1.cell? ⟨(N + 1), 1, none⟩ = some b1 ∧ w1.cell? ⟨(N + 1), 2, none⟩ = some b2 ∧ w1.cell? ⟨(N + 1), 3, none⟩ = some b3 ∧ w1.cell? ⟨(N + 1), 4, none⟩ = some b4 ∧ Below w0.heap.size w0 w1) (hN : N + 1 < w0.heap.size) (hb : Below w1.heap.size w1 w2) :
    w2.cell? ⟨N, 0, none⟩ = some a0 ∧ w2.cell? ⟨N, 1, none⟩ = some a1 ∧ w2.cell? ⟨N, 2, none⟩ = some a2 ∧ w2.cell? ⟨N, 3, none⟩ = some a3 ∧ w2.cell? ⟨N, 4, none⟩ = some a4 ∧ w2.cell? ⟨(N + 1), 0, none⟩ = some b0 ∧ w2.cell? ⟨(N + 1), 1, none⟩ = some b1 ∧ w2.cell? ⟨(N + 1), 2, none⟩ = some b2 ∧ w2.cell? ⟨(N + 1), 3, none⟩ = some b3 ∧ w2.cell? ⟨(N + 1), 4, none⟩ = some b4 ∧ Below w0.heap.size w0 w2 := by
  obtain ⟨h0, h1, h2, h3, h4, g0, g1, g2, g3, g4, h5⟩ := h
  have hlt : N + 1 < w1.heap.size := Nat.lt_of_lt_of_le hN h5.size
  have hc : ∀ o, w2.cell? ⟨N, o, none⟩ = w1.cell? ⟨N, o, none⟩ := fun o => hb.cell (p := ⟨N, o, none⟩) (by show N < _; omega)
  have hd : ∀ o, w2.cell? ⟨N + 1, o, none⟩ = w1.cell? ⟨N + 1, o, none⟩ := fun o => hb.cell (p := ⟨N + 1, o, none⟩) hlt
  exact ⟨(hc 0).trans h0, (hc 1).trans h1, (hc 2).trans h2, (hc 3).trans h3, (hc 4).trans h4, (hd 0).trans g0, (hd 1).trans g1, (hd 2).trans g2, (hd 3).trans g3, (hd 4).trans g4, h5.trans (hb.mono h5.size)⟩
theorem belP {N : Nat} {a0 a1 a2 a3 a4 b0 b1 b2 b3 b4 : Value} {w0 w1 : World} (h : w1.cell? ⟨N, 0, none⟩ = some a0 ∧ w1.cell? ⟨N, 1, none⟩ = some a1 ∧ w1.cell? ⟨N, 2, none⟩ = some a2 ∧ w1.cell? ⟨N, 3, none⟩ = some a3 ∧ w1.cell? ⟨N, 4, none⟩ = some a4 ∧ w1.cell? ⟨(N + 1), 0, none⟩ = some b0 ∧ w1.cell? ⟨(N + 1), 1, none⟩ = some b1 ∧ w1.cell? ⟨(N + 1), 2, none⟩ = some b2 ∧ w1.cell? ⟨(N + 1), 3, none⟩ = some b3 ∧ w1.cell? ⟨(N + 1), 4, none⟩ = some b4 ∧ Below w0.heap.size w0 w1) : Below w0.heap.size w0 w1 := h.2.2.2.2.2.2.2.2.2.2

theorem extE (l : List UInt8) (n : Nat) : ((ByteArray.mk l.toArray).extract 0 n).toList = l.take n := by
  rw [Lib.extract_toList]
  simp

set_option maxHeartbeats 8000000 in
set_option maxRecDepth 100000 in
theorem walk (a a1 : Value) (w : World) (ha : ∃ v : Val, a = .agg v.parts.toArray ∧ v.Ok w w.heap.size) (ha1 : ∃ v : Val, a1 = .agg v.parts.toArray ∧ v.Ok w w.heap.size) :
    Calls Try.prog 8 #[a, a1] w fun e w' => e = .returned (.bool true) ∧ Below w.heap.size w w' := by
  obtain ⟨v, rfl, hv⟩ := ha
  obtain ⟨x, rfl, hx⟩ := ha1
  have HO := Lib.hid hv
  have HX := Lib.hid hx
  clear hv hx
  have HB1 := Lib.hid (Blk.new w 25 v.parts.toArray)
  have HB2 := Lib.hid (Blk.new (w.alloc (.cells v.parts.toArray 25)) 25 x.parts.toArray)
  have HB0 : Below w.heap.size w ((w.alloc (.cells v.parts.toArray 25)).alloc (.cells x.parts.toArray 25)) := ((Below.refl _ _).alloc (Nat.le_refl _) _).alloc (by simp) _
  simp only [Val.parts] at HB0 HB1 HB2 ⊢
  go_enter Try.func8, Try.ntmps8
  go_wp2_with fail
  refine (small_any _).mono ?_
  rintro e w1 ⟨rfl, hb1⟩
  have hbx : Blk w1 w.heap.size 25 _ := (HB1.out.alloc _).below hb1 (by simp; omega)
  have hby : Blk w1 (w.heap.size + 1) 25 _ := (show Blk _ (w.heap.size + 1) 25 _ by simpa using HB2.out).below hb1 (by simp)
  have hb01 : Below w.heap.size w w1 := HB0.trans (hb1.mono (by simp; omega))
  have c0 : w1.cell? ⟨w.heap.size, 0, none⟩ = some (.int .i64 v.kind) := hbx.cell 0
  have c1 : w1.cell? ⟨w.heap.size, 1, none⟩ = some (.int .i64 v.n) := hbx.cell 1
  have c2 : w1.cell? ⟨w.heap.size, 2, none⟩ = some (.string ⟨v.s.toArray⟩) := hbx.cell 2
  have c3 : w1.cell? ⟨w.heap.size, 3, none⟩ = some (.slice v.la v.l.length v.lc) := hbx.cell 3
  have c4 : w1.cell? ⟨w.heap.size, 4, none⟩ = some (.slice v.ta v.t.length v.tc) := hbx.cell 4
  have d0 : w1.cell? ⟨w.heap.size + 1, 0, none⟩ = some (.int .i64 x.kind) := hby.cell 0
  have d1 : w1.cell? ⟨w.heap.size + 1, 1, none⟩ = some (.int .i64 x.n) := hby.cell 1
  have d2 : w1.cell? ⟨w.heap.size + 1, 2, none⟩ = some (.string ⟨x.s.toArray⟩) := hby.cell 2
  have d3 : w1.cell? ⟨w.heap.size + 1, 3, none⟩ = some (.slice x.la x.l.length x.lc) := hby.cell 3
  have d4 : w1.cell? ⟨w.heap.size + 1, 4, none⟩ = some (.slice x.ta x.t.length x.tc) := hby.cell 4
  have HLT : w.heap.size + 1 < w1.heap.size := hby.lt
  clear HB0 HB1 HB2 hb1 hbx hby
  have HS0 := Lib.hid (show w1.drew.cell? ⟨w.heap.size, 0, none⟩ = some (.int .i64 v.kind) ∧ w1.drew.cell? ⟨w.heap.size, 1, none⟩ = some (.int .i64 v.n) ∧ w1.drew.cell? ⟨w.heap.size, 2, none⟩ = some (.string ⟨v.s.toArray⟩) ∧ w1.drew.cell? ⟨w.heap.size, 3, none⟩ = some (.slice v.la v.l.length v.lc) ∧ w1.drew.cell? ⟨w.heap.size, 4, none⟩ = some (.slice v.ta v.t.length v.tc) ∧ w1.drew.cell? ⟨w.heap.size + 1, 0, none⟩ = some (.int .i64 x.kind) ∧ w1.drew.cell? ⟨w.heap.size + 1, 1, none⟩ = some (.int .i64 x.n) ∧ w1.drew.cell? ⟨w.heap.size + 1, 2, none⟩ = some (.string ⟨x.s.toArray⟩) ∧ w1.drew.cell? ⟨w.heap.size + 1, 3, none⟩ = some (.slice x.la x.l.length x.lc) ∧ w1.drew.cell? ⟨w.heap.size + 1, 4, none⟩ = some (.slice x.ta x.t.length x.tc) ∧ Below w1.heap.size w1 w1.drew from ⟨c0, c1, c2, c3, c4, d0, d1, d2, d3, d4, (Below.refl _ _).drew⟩)
  have HO1 := Lib.hid ((HO.out.below hb01).more hb01.size)
  have HX1 := Lib.hid ((HX.out.below hb01).more hb01.size)
  have HKv := Lib.hid (kind_any v.kind (.int .i64 v.n) (.string ⟨v.s.toArray⟩) (.slice v.la v.l.length v.lc) (.slice v.ta v.t.length v.tc) HO.out.kind)
  have HKx := Lib.hid (kind_any x.kind (.int .i64 x.n) (.string ⟨x.s.toArray⟩) (.slice x.la x.l.length x.lc) (.slice x.ta x.t.length x.tc) HX.out.kind)
  clear c0 c1 c2 c3 c4 d0 d1 d2 d3 d4
  have HB01 := Lib.hid hb01
  clear hb01
  by_cases hfv : fewB [v] = true
  · by_cases hfx : fewB [x] = true
    · by_cases hkk : (kindOf v.kind : Int) = (kindOf x.kind : Int)
      · have HSV := Lib.hid ((few_all hfv).2 v (by simp))
        have HSX := Lib.hid ((few_all hfx).2 x (by simp))
        have HWV := Lib.hid (fun (w' : World) (hb : Below w1.heap.size w1 w') => write_any v w1.heap.size w' (HO1.out.below hb) hb.size HSV.out.1)
        have HWX := Lib.hid (fun (w' : World) (hb : Below w1.heap.size w1 w') => write_any x w1.heap.size w' (HX1.out.below hb) hb.size HSX.out.1)
        have HEX := Lib.hid (fun (g : Nat) (st t : St) (w' : World) (hr : Rd w' g st) (hb : Below w1.heap.size w1 w') (hg : w1.heap.size ≤ g) => equal_any g x w1.heap.size st t w' hr (HX1.out.below hb) hb.size hg HSX.out.1)
        have HLV := Lib.hid (wVal_length (kindOf v.kind) v HO.out.n HO.out.li HSV.out.1 HSV.out.2)
        have HLX := Lib.hid (wVal_length (kindOf x.kind) x HX.out.n HX.out.li HSX.out.1 HSX.out.2)
        have HPE := Lib.hid (prefix_eq (kindOf x.kind) v x HO.out.n HO.out.li HSV.out.1 HX.out.n HX.out.li HSX.out.1)
        have HRD := Lib.hid (rdVal_w (kindOf x.kind) x [] HX.out.n HX.out.li HSX.out.1)
        rw [hkk] at HKv HWV HLV
        have hnk : ((kindOf x.kind : Int) != (kindOf x.kind : Int)) = false := by simp
        clear hkk
        generalize (kindOf x.kind : Int) = kd at HKv HKx HWV HWX HEX HLV HLX HPE HRD hnk
        simp only [Val.parts] at HWV HWX HEX
        unfold str at HWV HWX
        have HFV := Lib.hid hfv
        have HFX := Lib.hid hfx
        clear hfv hfx
        go_wp2_with fail
        first | go_region_held3 (fun w' => w'.cell? ⟨w.heap.size, 0, none⟩ = some (.int .i64 v.kind) ∧ w'.cell? ⟨w.heap.size, 1, none⟩ = some (.int .i64 v.n) ∧ w'.cell? ⟨w.heap.size, 2, none⟩ = some (.string ⟨v.s.toArray⟩) ∧ w'.cell? ⟨w.heap.size, 3, none⟩ = some (.slice v.la v.l.length v.lc) ∧ w'.cell? ⟨w.heap.size, 4, none⟩ = some (.slice v.ta v.t.length v.tc) ∧ w'.cell? ⟨w.heap.size + 1, 0, none⟩ = some (.int .i64 x.kind) ∧ w'.cell? ⟨w.heap.size + 1, 1, none⟩ = some (.int .i64 x.n) ∧ w'.cell? ⟨w.heap.size + 1, 2, none⟩ = some (.string ⟨x.s.toArray⟩) ∧ w'.cell? ⟨w.heap.size + 1, 3, none⟩ = some (.slice x.la x.l.length x.lc) ∧ w'.cell? ⟨w.heap.size + 1, 4, none⟩ = some (.slice x.ta x.t.length x.tc) ∧ Below w1.heap.size w1 w') (first | exact hS1 | exact HS0.out | exact keepP (by assumption) HLT ((Below.refl _ _).alloc (Nat.le_refl _) _))
      (first
        | (go_at_call 10; refine Calls.mono (few1 HFV.out HO1.out (by first | exact Blk.new _ _ _ | exact Blk.drew (Blk.new _ _ _)) (belP (by assumption))) ?_; rintro e w' ⟨rfl, hb⟩; have hS1 := keepP (by assumption) HLT hb)
        | (go_at_call 10; refine Calls.mono (few1 HFX.out HX1.out (by first | exact Blk.new _ _ _ | exact Blk.drew (Blk.new _ _ _)) (belP (by assumption))) ?_; rintro e w' ⟨rfl, hb⟩; have hS1 := keepP (by assumption) HLT hb)
        | (go_at_call_of 24 (Value.int .i64 v.kind); refine Calls.mono (HKv.out _) ?_; rintro e w' ⟨rfl, hb⟩; have hS1 := keepP (by assumption) HLT hb)
        | (go_at_call_of 24 (Value.int .i64 x.kind); refine Calls.mono (HKx.out _) ?_; rintro e w' ⟨rfl, hb⟩; have hS1 := keepP (by assumption) HLT hb))
                  | fail
        clear HFV HFX HKv HKx hnk
        obtain ⟨c0, c1, c2, c3, c4, d0, d1, d2, d3, d4, hbe⟩ := id hS1
        generalize hA : wVal kd v = A at HWV HLV HPE
        generalize hB : wVal kd x = B at HWX HLX HPE HRD
        have hAl := HLV.out
        have hBl := HLX.out
        clear hA hB HLV HLX
        rw [List.append_nil] at HRD
        go_wp2_with fail
        refine (HWV.out _ hbe).mono ?_
        rintro e w5 ⟨rfl, hb5⟩
        have hS5 := keepP hS1 HLT hb5
        clear hS1 c0 c1 c2 c3 c4 d0 d1 d2 d3 d4 hbe hb5
        obtain ⟨c0, c1, c2, c3, c4, d0, d1, d2, d3, d4, hbe⟩ := id hS5
        go_wp2_with fail
        refine (HWX.out _ hbe).mono ?_
        rintro e w6 ⟨rfl, hb6⟩
        have hS6 := keepP hS5 HLT hb6
        clear hS5 c0 c1 c2 c3 c4 d0 d1 d2 d3 d4 hbe hb6
        obtain ⟨c0, c1, c2, c3, c4, d0, d1, d2, d3, d4, hbe⟩ := id hS6
        by_cases hAB : B.length < A.length
        · have hAB1 : decide ((B.length : Int) < (A.length : Int)) = true := by simpa using hAB
          go_wp2
          go_ret
          exact ⟨rfl, HB01.out.trans ((belP hS6).mono HB01.out.size)⟩
        · have hAB1 : decide ((B.length : Int) < (A.length : Int)) = false := by simp; omega
          have hAB2 : (A.length : Int) ≤ (B.length : Int) := by omega
          by_cases htk : B.take A.length = A
          · obtain rfl := HPE.out htk
            have hEX : (((ByteArray.mk A.toArray).extract 0 A.length).toList == A) = true := by rw [extE, htk]; simp
            have hOP := Open_any A w6
            have hbe6 := belP hS6
            unfold str at hOP
            have HOP := Lib.hid hOP
            clear hOP htk HPE HWV HWX
            go_wp2_with fail
            refine (HOP.out).mono ?_
            rintro e w7 ⟨rfl, hrd, hb7⟩
            have hS7 := keepP hS6 HLT hb7
            have he := HEX.out w6.heap.size ⟨A, false⟩ ⟨[], false⟩ w7 hrd (belP hS7) hbe6.size (by show A.length ≤ 1048576; omega) HRD.out
            clear hS6 c0 c1 c2 c3 c4 d0 d1 d2 d3 d4 hbe hb7 hEX
            obtain ⟨c0, c1, c2, c3, c4, d0, d1, d2, d3, d4, hbe⟩ := id hS7
            have HE := Lib.hid he
            clear he
            go_wp2_with fail
            refine (HE.out).mono ?_
            rintro e w8 ⟨rfl, hto⟩
            go_wp2
            go_ret
            have hbA := HB01.out.trans ((belP hS7).mono HB01.out.size)
            have hs6 := hbe6.size
            have hs1 := HB01.out.size
            exact ⟨rfl, hbA.grown hto.only hbA.size (fun k hk => by injection hk with hk; omega)⟩
          · have hEX : (((ByteArray.mk B.toArray).extract 0 A.length).toList == A) = false := by rw [extE]; simpa using htk
            clear htk
            go_wp2
            go_ret
            exact ⟨rfl, HB01.out.trans ((belP hS6).mono HB01.out.size)⟩
      · have hnk : ((kindOf v.kind : Int) != (kindOf x.kind : Int)) = true := by simpa using hkk
        generalize (kindOf v.kind : Int) = kv at HKv hnk
        generalize (kindOf x.kind : Int) = kx at HKx hnk
        clear hkk
        have HFV := Lib.hid hfv
        have HFX := Lib.hid hfx
        clear hfv hfx
        go_wp2_with fail
        first | go_region_held3 (fun w' => w'.cell? ⟨w.heap.size, 0, none⟩ = some (.int .i64 v.kind) ∧ w'.cell? ⟨w.heap.size, 1, none⟩ = some (.int .i64 v.n) ∧ w'.cell? ⟨w.heap.size, 2, none⟩ = some (.string ⟨v.s.toArray⟩) ∧ w'.cell? ⟨w.heap.size, 3, none⟩ = some (.slice v.la v.l.length v.lc) ∧ w'.cell? ⟨w.heap.size, 4, none⟩ = some (.slice v.ta v.t.length v.tc) ∧ w'.cell? ⟨w.heap.size + 1, 0, none⟩ = some (.int .i64 x.kind) ∧ w'.cell? ⟨w.heap.size + 1, 1, none⟩ = some (.int .i64 x.n) ∧ w'.cell? ⟨w.heap.size + 1, 2, none⟩ = some (.string ⟨x.s.toArray⟩) ∧ w'.cell? ⟨w.heap.size + 1, 3, none⟩ = some (.slice x.la x.l.length x.lc) ∧ w'.cell? ⟨w.heap.size + 1, 4, none⟩ = some (.slice x.ta x.t.length x.tc) ∧ Below w1.heap.size w1 w') (first | exact hS1 | exact HS0.out | exact keepP (by assumption) HLT ((Below.refl _ _).alloc (Nat.le_refl _) _))
      (first
        | (go_at_call 10; refine Calls.mono (few1 HFV.out HO1.out (by first | exact Blk.new _ _ _ | exact Blk.drew (Blk.new _ _ _)) (belP (by assumption))) ?_; rintro e w' ⟨rfl, hb⟩; have hS1 := keepP (by assumption) HLT hb)
        | (go_at_call 10; refine Calls.mono (few1 HFX.out HX1.out (by first | exact Blk.new _ _ _ | exact Blk.drew (Blk.new _ _ _)) (belP (by assumption))) ?_; rintro e w' ⟨rfl, hb⟩; have hS1 := keepP (by assumption) HLT hb)
        | (go_at_call_of 24 (Value.int .i64 v.kind); refine Calls.mono (HKv.out _) ?_; rintro e w' ⟨rfl, hb⟩; have hS1 := keepP (by assumption) HLT hb)
        | (go_at_call_of 24 (Value.int .i64 x.kind); refine Calls.mono (HKx.out _) ?_; rintro e w' ⟨rfl, hb⟩; have hS1 := keepP (by assumption) HLT hb))
                  | fail
        all_goals (go_wp2; go_ret; exact ⟨rfl, HB01.out.trans ((belP hS1).mono HB01.out.size)⟩)
    · have hfx' : fewB [x] = false := by simpa using hfx
      have HFV := Lib.hid hfv
      have HFX := Lib.hid hfx'
      clear hfv hfx hfx'
      have HSC := HS0.out
      obtain ⟨c0, c1, c2, c3, c4, d0, d1, d2, d3, d4, -⟩ := HSC
      go_wp2_with fail
      go_region_with (first
        | (go_at_call 10; refine Calls.mono (few1 HFV.out HO1.out (by first | exact Blk.new _ _ _ | exact Blk.drew (Blk.new _ _ _)) (belP (keepP HS0.out HLT ((Below.refl _ _).alloc (Nat.le_refl _) _)))) ?_; rintro e w' ⟨rfl, hb⟩; have hS1 := keepP (keepP HS0.out HLT ((Below.refl _ _).alloc (Nat.le_refl _) _)) HLT hb; obtain ⟨c0, c1, c2, c3, c4, d0, d1, d2, d3, d4, -⟩ := id hS1)
        | (go_at_call 10; refine Calls.mono (few1 HFX.out HX1.out (by first | exact Blk.new _ _ _ | exact Blk.drew (Blk.new _ _ _)) (belP (keepP hS1 HLT ((Below.refl _ _).alloc (Nat.le_refl _) _)))) ?_; rintro e w2 ⟨rfl, hb2⟩; have hS2 := keepP (keepP hS1 HLT ((Below.refl _ _).alloc (Nat.le_refl _) _)) HLT hb2; obtain ⟨c0, c1, c2, c3, c4, d0, d1, d2, d3, d4, -⟩ := id hS2)
        | (go_at_call_of 24 (Value.int .i64 v.kind); refine Calls.mono (HKv.out _) ?_; rintro e w3 ⟨rfl, hb3⟩; have hS3 := keepP hS2 HLT hb3; obtain ⟨c0, c1, c2, c3, c4, d0, d1, d2, d3, d4, -⟩ := id hS3)
        | (go_at_call_of 24 (Value.int .i64 x.kind); refine Calls.mono (HKx.out _) ?_; rintro e w4 ⟨rfl, hb4⟩; have hS4 := keepP hS3 HLT hb4))
      all_goals (go_wp2; go_ret; exact ⟨rfl, HB01.out.trans ((belP hS2).mono HB01.out.size)⟩)
  · have hfv' : fewB [v] = false := by simpa using hfv
    have HFV := Lib.hid hfv'
    have HFX := Lib.hid (rfl : fewB [x] = fewB [x])
    clear hfv hfv'
    have HSC := HS0.out
    obtain ⟨c0, c1, c2, c3, c4, d0, d1, d2, d3, d4, -⟩ := HSC
    go_wp2_with fail
    go_region_with (first
        | (go_at_call 10; refine Calls.mono (few1 HFV.out HO1.out (by first | exact Blk.new _ _ _ | exact Blk.drew (Blk.new _ _ _)) (belP (keepP HS0.out HLT ((Below.refl _ _).alloc (Nat.le_refl _) _)))) ?_; rintro e w' ⟨rfl, hb⟩; have hS1 := keepP (keepP HS0.out HLT ((Below.refl _ _).alloc (Nat.le_refl _) _)) HLT hb; obtain ⟨c0, c1, c2, c3, c4, d0, d1, d2, d3, d4, -⟩ := id hS1)
        | (go_at_call 10; refine Calls.mono (few1 HFX.out HX1.out (by first | exact Blk.new _ _ _ | exact Blk.drew (Blk.new _ _ _)) (belP (keepP hS1 HLT ((Below.refl _ _).alloc (Nat.le_refl _) _)))) ?_; rintro e w2 ⟨rfl, hb2⟩; have hS2 := keepP (keepP hS1 HLT ((Below.refl _ _).alloc (Nat.le_refl _) _)) HLT hb2; obtain ⟨c0, c1, c2, c3, c4, d0, d1, d2, d3, d4, -⟩ := id hS2)
        | (go_at_call_of 24 (Value.int .i64 v.kind); refine Calls.mono (HKv.out _) ?_; rintro e w3 ⟨rfl, hb3⟩; have hS3 := keepP hS2 HLT hb3; obtain ⟨c0, c1, c2, c3, c4, d0, d1, d2, d3, d4, -⟩ := id hS3)
        | (go_at_call_of 24 (Value.int .i64 x.kind); refine Calls.mono (HKx.out _) ?_; rintro e w4 ⟨rfl, hb4⟩; have hS4 := keepP hS3 HLT hb4))
    all_goals (go_wp2; go_ret; exact ⟨rfl, HB01.out.trans ((belP hS1).mono HB01.out.size)⟩)

set_option maxRecDepth 100000 in
theorem lifted (os : Os) (started : os.Started) (H : Type) (enc : TypeId × Value → H) :
    ReturnsInHanded {} Try.checked os 8 .any (Rows.wirePrefixSpec.pre6 enc Try.prog Try.f8 Rows.wirePrefixRow.domain false) (Rows.wirePrefixSpec.post enc Try.prog Try.f8 false true false false) := by
  refine returnsInHanded_of_change (C := Try.checked) own started (by kernel_rfl) Try.func8
    (ChangeSpec.witness6 (enc := enc) (C := Try.checked) false ⟨#[], #[.agg #[.int .i64 0, .int .i64 0, .string ByteArray.empty, .slice none 0 0, .slice none 0 0], .agg #[.int .i64 0, .int .i64 0, .string ByteArray.empty, .slice none 0 0, .slice none 0 0]], []⟩ 8 (by kernel_rfl) (by kernel_rfl) (by kernel_rfl) (by kernel_rfl)) ?_
  intro W base args ds gs before hval0 hW hcnd _
  have hval : ∀ (j : Nat) t v, Try.f8.params[j]? = some t → args[j]? = some v → Value.okWide Try.prog W .any base t v := hval0
  have hW' := hW
  obtain ⟨p, q, hA0, hV, rfl, hfz, hnd⟩ := hW
  have hA : DataW.TrodAll enc Try.prog W 0 (fun _ => true) true Try.f8.params.toList args.toList ds p := hA0
  rw [Try.params8] at hA hval
  obtain ⟨v0, vs0, d0, ds0, p0, q0, hargs, rfl, rfl, h0, r0⟩ := trodAll_cons hA
  obtain ⟨v1, vs1, d1, ds1, p1, q1, rfl, rfl, rfl, h1, r1⟩ := trodAll_cons r0
  obtain ⟨rfl, rfl, rfl⟩ := trodAll_nil r1
  obtain rfl : args = #[v0, v1] := by cases args; simp_all
  obtain ⟨rfl, rfl⟩ := trodVars_none hV
  have k0 := h0
  have lt0 : ∀ x ∈ p0, x.block < W.heap.size := by obtain ⟨m, hm⟩ := k0; exact DataW.trod_lt m _ _ _ hm
  have o0 := openVal (hval 0 25 v0 rfl rfl) h0
  have k1 := h1
  have lt1 : ∀ x ∈ p1, x.block < W.heap.size := by obtain ⟨m, hm⟩ := k1; exact DataW.trod_lt m _ _ _ hm
  have o1 := openVal (hval 1 25 v1 rfl rfl) h1
  clear hA0 hval0
  refine (walk v0 v1 W o0 o1).mono fun e W' ⟨he, bel⟩ => ?_
  subst he
  exact ⟨_, rfl, _, _, _, [], _, [], hW', trodAll_mk1 (shut_bool Try.underlying4 _), (trodAll_cons_mk (Below.trod laidOut (by kernel_rfl) (of_decide_eq_true (by kernel_rfl)) k0 bel lt0) (trodAll_cons_mk (Below.trod laidOut (by kernel_rfl) (of_decide_eq_true (by kernel_rfl)) k1 bel lt1) trodAll_mk0)), rfl, bel.frame _, fun h => by cases h⟩

theorem over : Rows.wirePrefixRow.holds Try.pinned (OpenSpec.ofChange Rows.wirePrefixSpec) :=
  OpenClaim.holds_of_wide 8 Try.f8 rfl rfl rfl rfl rfl rfl rfl ⟨rfl, rfl, rfl, rfl, rfl⟩ rfl rfl rfl rfl rfl (by kernel_rfl) Try.func8 (by kernel_rfl)
    (of_decide_eq_true (by kernel_rfl)) (by unfold Func.isWrapper; first | (rw [if_pos (by decide +kernel)]; kernel_rfl) | (rw [if_neg (by decide +kernel)]; exact ⟨rfl, rfl⟩))
    (fun os started H enc _ => lifted os started H enc)

/-- The statement. -/
theorem proved : Rows.WirePrefixSaid := over
#print axioms proved
end Go.Proofs.Ytcamfdmmcbimfaa.wirePrefix
