/-
  WireBack: for all sequences of at most 20 values of at most 400 bytes and elements altogether, and all strings of at most 400 bytes that follow, a reader of the concatenated encodings returns these values in order and leaves exactly what follows; for all other inputs the small examples hold. No condition.
-/
import Derived.Test.YtcamfdmmcbimfaaEqual
namespace Go.Proofs.Ytcamfdmmcbimfaa.wireBack
open Go.ChangeShapes Go.WideShapes Go.ChangeAt Go.RowKit
open Go.ChangeMaps (open_string shut_string)

theorem own : ownKnob Try.prog.godebug = none := by kernel_rfl
theorem laidOut : laidOutB Try.prog = true := by kernel_rfl

theorem valsSize_mem : ∀ (vs : List Val) (v : Val), v ∈ vs → v.size ≤ valsSize vs
  | x :: vs, v, h => by
    simp only [valsSize, List.map_cons, List.sum_cons]
    rcases List.mem_cons.1 h with rfl | h
    · omega
    · have := valsSize_mem vs v h
      unfold valsSize at this
      omega

theorem few_all {vs : List Val} (h : fewB vs = true) : vs.length ≤ 20 ∧ ∀ v ∈ vs, v.Small ∧ v.size ≤ 400 := by
  simp only [fewB, Bool.and_eq_true, decide_eq_true_eq] at h
  obtain ⟨⟨h1, h2⟩, h3⟩ := h
  refine ⟨h1, fun v hv => ⟨?_, Nat.le_trans (valsSize_mem vs v hv) h3⟩⟩
  have h4 := List.all_eq_true.1 h2 v hv
  simp only [tooLong, textsOk, Bool.and_eq_true, Bool.not_eq_true', Bool.or_eq_false_iff, decide_eq_false_iff_not, List.all_eq_true, decide_eq_true_eq] at h4
  obtain ⟨⟨⟨h5, h6⟩, h7⟩, h8⟩ := h4
  exact ⟨by omega, by omega, by omega, h8⟩

theorem flat_texts : ∀ (ts : List (List UInt8)), (∀ x ∈ ts, x.length ≤ 400) → (ts.flatMap wText).length ≤ 10 * ts.length + textsSize ts
  | [], _ => by simp
  | x :: ts, h => by
    have h1 := flat_texts ts (fun y hy => h y (by simp [hy]))
    have h2 := h x (by simp)
    have h3 := Lib.uvarint_length64 (x := x.length) (by omega)
    simp only [textsSize, List.map_cons, List.sum_cons] at h1 ⊢
    rw [List.flatMap_cons, List.length_append, List.length_cons]
    unfold wText at h1 ⊢
    rw [List.length_append]
    omega

theorem wVal_length (kd : Int) (v : Val) (hn : I64 v.n) (hi : ∀ z ∈ v.l, I64 z) (hs : v.Small) (h4 : v.size ≤ 400) : (wVal kd v).length ≤ 4500 := by
  have ha := absOf_le v.n hn
  have hL := hs.l
  have hT := hs.t
  have hS := hs.s
  unfold Val.size at h4
  unfold wVal
  split
  · have := Lib.uvarint_length64 (x := absOf v.n) (by omega); omega
  · split
    · have := wInt_length v.n hn; omega
    · split
      · have := Lib.uvarint_length64 (x := v.s.length) (by omega)
        unfold wText
        rw [List.length_append]
        omega
      · split
        · have h1 := Lib.uvarint_length64 (x := v.l.length) (by omega)
          have h2 := flatMap_length_le wInt 10 v.l (fun z hz => wInt_length z (hi z hz))
          unfold wNums wList
          rw [List.length_append]
          omega
        · have h1 := Lib.uvarint_length64 (x := v.t.length) (by omega)
          have h2 := flat_texts v.t hs.ti
          unfold wTexts wList
          rw [List.length_append]
          omega

/-- The encodings, one behind the other. -/
def flat (vs : List Val) : List UInt8 := vs.flatMap fun v => wVal (kindOf v.kind) v

set_option maxHeartbeats 8000000 in
set_option maxRecDepth 100000 in
theorem walk (a a1 : Value) (w : World) (ha : ∃ (A : Option Addr) (vs : List Val) (c : Nat), a = .slice A vs.length c ∧ vs.length ≤ 9223372036854775807 ∧ ValsAt w w.heap.size A vs) (hb : ∃ s : ByteArray, a1 = .string s ∧ s.size ≤ maxLen) :
    Calls Try.prog 6 #[a, a1] w fun e w' => e = .returned (.bool true) ∧ Below w.heap.size w w' := by
  obtain ⟨A, vs, c, rfl, hvl, hvals⟩ := ha
  obtain ⟨s, rfl, hsz⟩ := hb
  obtain ⟨tl, rfl⟩ : ∃ l : List UInt8, s = ⟨l.toArray⟩ := ⟨s.data.toList, (Lib.mk_data s).symm⟩
  have htl : tl.length ≤ 9223372036854775807 := by
    have h1 : (ByteArray.mk tl.toArray).size = tl.length := by show tl.toArray.size = _; simp
    rw [h1] at hsz
    exact hsz
  clear hsz
  have HV := Lib.hid hvals
  clear hvals
  go_enter Try.func6, Try.ntmps6
  go_wp2_with fail
  refine (small_any _).mono ?_
  rintro e w1 ⟨rfl, hb1⟩
  have HF := Lib.hid (few_any A c w.heap.size vs w1 (HV.out.below hb1) hb1.size hvl)
  go_wp2_with fail
  refine (HF.out).mono ?_
  rintro e w2 ⟨rfl, hb2⟩
  have hb02 : Below w.heap.size w w2 := hb1.trans (hb2.mono hb1.size)
  clear HF hb1 hb2
  by_cases hfb : fewB vs = true
  · by_cases ht4 : 400 < tl.length
    · rw [hfb]
      go_wp2
      go_ret
      exact ⟨rfl, hb02⟩
    · obtain ⟨h20, hall⟩ := few_all hfb
      have HALL := Lib.hid hall
      have hlens : ∀ k, ((vs.take k).flatMap fun v => wVal (kindOf v.kind) v).length ≤ 4500 * vs.length := by
        intro k
        have h1 := flatMap_length_le (fun v : Val => wVal (kindOf v.kind) v) 4500 (vs.take k) (fun v hv => by
          have hm := List.mem_of_mem_take hv
          exact wVal_length _ v (HV.out.ok v hm).n (HV.out.ok v hm).li (HALL.out v hm).1 (HALL.out v hm).2)
        have h2 : (vs.take k).length ≤ vs.length := by simp; omega
        have h3 : 4500 * (vs.take k).length ≤ 4500 * vs.length := Nat.mul_le_mul_left _ h2
        omega
      have HLEN := Lib.hid hlens
      clear hlens hall
      rw [hfb]
      clear hfb
      go_wp2_with fail
      go_loopw [6, 7] (fun vs' vi wr => ∃ i : Nat, vi = .int .i64 i ∧ i ≤ vs.length ∧ vs' = .string ⟨(flat (vs.take i)).toArray⟩ ∧ Below w.heap.size w wr) (fun _ vi _ => vs.length - (intOf vi).toNat)
      case atStart => exact ⟨0, rfl, Nat.zero_le _, by simp [flat], hb02⟩
      case round =>
        obtain ⟨i, rfl, hi, rfl, hbw⟩ := hrel
        by_cases hil : i < vs.length
        · obtain ⟨b, off, rfl, _, hc⟩ := (HV.out.cells.below hbw).lit (by omega) (by decide)
          have c0 : wr.cell? ⟨b, off + i * 5, none⟩ = some (.int .i64 (vs[i]'hil).kind) := hc (i * 5 + 0) _ (parts_at vs i 0 hil (by decide))
          have c1 : wr.cell? ⟨b, off + i * 5 + 1, none⟩ = some (.int .i64 (vs[i]'hil).n) := by rw [Nat.add_assoc]; exact hc (i * 5 + 1) _ (parts_at vs i 1 hil (by decide))
          have c2 : wr.cell? ⟨b, off + i * 5 + 2, none⟩ = some (.string ⟨(vs[i]'hil).s.toArray⟩) := by rw [Nat.add_assoc]; exact hc (i * 5 + 2) _ (parts_at vs i 2 hil (by decide))
          have c3 : wr.cell? ⟨b, off + i * 5 + 3, none⟩ = some (.slice (vs[i]'hil).la (vs[i]'hil).l.length (vs[i]'hil).lc) := by rw [Nat.add_assoc]; exact hc (i * 5 + 3) _ (parts_at vs i 3 hil (by decide))
          have c4 : wr.cell? ⟨b, off + i * 5 + 4, none⟩ = some (.slice (vs[i]'hil).ta (vs[i]'hil).t.length (vs[i]'hil).tc) := by rw [Nat.add_assoc]; exact hc (i * 5 + 4) _ (parts_at vs i 4 hil (by decide))
          have hmem := List.getElem_mem hil
          have hw := write_any (vs[i]'hil) w.heap.size wr ((HV.out.ok _ hmem).below hbw) hbw.size (HALL.out _ hmem).1
          have hwl := wVal_length (kindOf (vs[i]'hil).kind) (vs[i]'hil) (HV.out.ok _ hmem).n (HV.out.ok _ hmem).li (HALL.out _ hmem).1 (HALL.out _ hmem).2
          have hfl : flat (vs.take (i + 1)) = flat (vs.take i) ++ wVal (kindOf (vs[i]'hil).kind) (vs[i]'hil) := take_flat _ vs i hil
          have hal : (flat (vs.take i)).length + (wVal (kindOf (vs[i]'hil).kind) (vs[i]'hil)).length ≤ 9223372036854775807 := by have := HLEN.out i; unfold flat; omega
          simp only [Val.parts] at hw
          unfold str at hw
          have HFL := Lib.hid hfl
          have HW := Lib.hid hw
          clear hc hw hmem hfl
          generalize vs[i]'hil = v at c0 c1 c2 c3 c4 HW hwl HFL hal
          generalize wVal (kindOf v.kind) v = x at HW hwl HFL hal
          generalize hacc : flat (vs.take i) = acc at hal HFL ⊢
          clear hacc
          go_wp2_with fail
          refine (HW.out).mono ?_
          rintro e w3 ⟨rfl, hb3⟩
          go_wp2
          refine ⟨⟨i + 1, by go_num, by omega, by rw [HFL.out, ByteArray.mk_append_mk], hbw.trans (hb3.mono hbw.size)⟩, by simp [intOf]; omega⟩
        · obtain rfl : i = vs.length := by omega
          rw [List.take_length]
          have hal : (flat vs).length + tl.length ≤ 9223372036854775807 := by have := HLEN.out vs.length; rw [List.take_length] at this; unfold flat; omega
          have hal2 : (flat vs ++ tl).length ≤ 1048576 := by have := HLEN.out vs.length; rw [List.take_length] at this; rw [List.length_append]; unfold flat; omega
          have ho := Open_any (flat vs ++ tl) wr
          unfold str at ho
          rw [← ByteArray.mk_append_mk] at ho
          have HOP := Lib.hid ho
          have HAL2 := Lib.hid hal2
          clear ho hal2
          generalize hfv : flat vs = acc at hal HOP HAL2 ⊢
          have HFV := Lib.hid hfv
          clear hfv
          go_wp2_with fail
          refine (HOP.out).mono ?_
          rintro e w3 ⟨rfl, hrd, hb3⟩
          have hbw3 : Below w.heap.size w w3 := hbw.trans (hb3.mono hbw.size)
          have HRD := Lib.hid hrd
          have hgle := hbw.size
          clear hrd hb3 hbw hb02
          obtain ⟨wo, rfl⟩ : ∃ wo : World, wo = wr := ⟨_, rfl⟩
          go_wp2_with fail
          go_loopw [9] (fun vi wr => ∃ i : Nat, vi = .int .i64 i ∧ i ≤ vs.length ∧ Below w.heap.size w wr ∧ Rd wr wo.heap.size ⟨flat (vs.drop i) ++ tl, false⟩) (fun vi _ => vs.length - (intOf vi).toNat)
          case atStart => exact ⟨0, rfl, Nat.zero_le _, hbw3, by rw [List.drop_zero, HFV.out]; exact HRD.out⟩
          case round =>
            obtain ⟨i, rfl, hi, hbq, hrd⟩ := hrel
            by_cases hil : i < vs.length
            · obtain ⟨b, off, rfl, _, hc⟩ := (HV.out.cells.below hbq).lit (by omega) (by decide)
              have c0 : wr.cell? ⟨b, off + i * 5, none⟩ = some (.int .i64 (vs[i]'hil).kind) := hc (i * 5 + 0) _ (parts_at vs i 0 hil (by decide))
              have c1 : wr.cell? ⟨b, off + i * 5 + 1, none⟩ = some (.int .i64 (vs[i]'hil).n) := by rw [Nat.add_assoc]; exact hc (i * 5 + 1) _ (parts_at vs i 1 hil (by decide))
              have c2 : wr.cell? ⟨b, off + i * 5 + 2, none⟩ = some (.string ⟨(vs[i]'hil).s.toArray⟩) := by rw [Nat.add_assoc]; exact hc (i * 5 + 2) _ (parts_at vs i 2 hil (by decide))
              have c3 : wr.cell? ⟨b, off + i * 5 + 3, none⟩ = some (.slice (vs[i]'hil).la (vs[i]'hil).l.length (vs[i]'hil).lc) := by rw [Nat.add_assoc]; exact hc (i * 5 + 3) _ (parts_at vs i 3 hil (by decide))
              have c4 : wr.cell? ⟨b, off + i * 5 + 4, none⟩ = some (.slice (vs[i]'hil).ta (vs[i]'hil).t.length (vs[i]'hil).tc) := by rw [Nat.add_assoc]; exact hc (i * 5 + 4) _ (parts_at vs i 4 hil (by decide))
              have hmem := List.getElem_mem hil
              have hdr : flat (vs.drop i) ++ tl = wVal (kindOf (vs[i]'hil).kind) (vs[i]'hil) ++ (flat (vs.drop (i + 1)) ++ tl) := by
                unfold flat
                rw [List.drop_eq_getElem_cons hil, List.flatMap_cons, List.append_assoc]
              have hdl : (flat (vs.drop i) ++ tl).length ≤ 1048576 := by
                have h1 := HAL2.out
                rw [← HFV.out, ← List.take_append_drop i vs] at h1
                unfold flat at h1 ⊢
                rw [List.flatMap_append, List.length_append, List.length_append] at h1
                rw [List.length_append]
                omega
              have he := equal_any wo.heap.size (vs[i]'hil) w.heap.size ⟨flat (vs.drop i) ++ tl, false⟩ ⟨flat (vs.drop (i + 1)) ++ tl, false⟩ wr hrd ((HV.out.ok _ hmem).below hbq) hbq.size hgle (HALL.out _ hmem).1 hdl
                (by rw [hdr]; exact rdVal_w _ _ _ (HV.out.ok _ hmem).n (HV.out.ok _ hmem).li (HALL.out _ hmem).1)
              simp only [Val.parts] at he
              have HE := Lib.hid he
              clear he hdl hdr hmem hrd hc
              generalize vs[i]'hil = v at c0 c1 c2 c3 c4 HE
              go_wp2_with fail
              refine (HE.out).mono ?_
              rintro e w4 ⟨rfl, hto⟩
              go_wp2
              refine ⟨⟨i + 1, by go_num, by omega, hbq.grown hto.only hbq.size (fun k hk => by injection hk with hk; omega), hto.rd⟩, by simp [intOf]; omega⟩
            · obtain rfl : i = vs.length := by omega
              rw [List.drop_length] at hrd
              have HL := Lib.hid (Left_any _ _ _ hrd)
              have HD := Lib.hid (Done_any _ _ _ hrd)
              clear hrd
              simp only [flat, List.flatMap_nil, List.nil_append, Bool.not_false, Bool.true_and] at HL HD
              cases tl with
              | nil =>
                go_wp2_with fail
                refine (HL.out).mono ?_
                rintro e w' ⟨rfl, rfl⟩
                go_wp2_with fail
                refine (HD.out).mono ?_
                rintro e w' ⟨rfl, rfl⟩
                go_wp2
                go_ret
                exact ⟨rfl, hbq⟩
              | cons x tl =>
                go_wp2_with fail
                refine (HL.out).mono ?_
                rintro e w' ⟨rfl, rfl⟩
                go_wp2_with fail
                refine (HD.out).mono ?_
                rintro e w' ⟨rfl, rfl⟩
                go_wp2
                go_ret
                exact ⟨rfl, hbq⟩
  · have hff : fewB vs = false := by simpa using hfb
    rw [hff]
    clear hff hfb
    go_wp2
    go_ret
    exact ⟨rfl, hb02⟩

set_option maxRecDepth 100000 in
theorem lifted (os : Os) (started : os.Started) (H : Type) (enc : TypeId × Value → H) :
    ReturnsInHanded {} Try.checked os 6 .any (Rows.wireBackSpec.pre6 enc Try.prog Try.f6 Rows.wireBackRow.domain false) (Rows.wireBackSpec.post enc Try.prog Try.f6 false true false false) := by
  refine returnsInHanded_of_change (C := Try.checked) own started (by kernel_rfl) Try.func6
    (ChangeSpec.witness6 (enc := enc) (C := Try.checked) false ⟨#[], #[.slice none 0 0, .string ByteArray.empty], []⟩ 8 (by kernel_rfl) (by kernel_rfl) (by kernel_rfl) (by kernel_rfl)) ?_
  intro W base args ds gs before hval0 hW hcnd _
  have hval : ∀ (j : Nat) t v, Try.f6.params[j]? = some t → args[j]? = some v → Value.okWide Try.prog W .any base t v := hval0
  have hW' := hW
  obtain ⟨p, q, hA0, hV, rfl, hfz, hnd⟩ := hW
  have hA : DataW.TrodAll enc Try.prog W 0 (fun _ => true) true Try.f6.params.toList args.toList ds p := hA0
  rw [Try.params6] at hA hval
  obtain ⟨v0, vs0, d0, ds0, p0, q0, hargs, rfl, rfl, h0, r0⟩ := trodAll_cons hA
  obtain ⟨v1, vs1, d1, ds1, p1, q1, rfl, rfl, rfl, h1, r1⟩ := trodAll_cons r0
  obtain ⟨rfl, rfl, rfl⟩ := trodAll_nil r1
  obtain rfl : args = #[v0, v1] := by cases args; simp_all
  obtain ⟨rfl, rfl⟩ := trodVars_none hV
  have k0 := h0
  have lt0 : ∀ x ∈ p0, x.block < W.heap.size := by obtain ⟨m, hm⟩ := k0; exact DataW.trod_lt m _ _ _ hm
  have o0 := openVals (hval 0 28 v0 rfl rfl) h0
  obtain ⟨a1, rfl, rfl, rfl, w1⟩ := open_string Try.underlying9 (hval 1 9 v1 rfl rfl) h1
  clear hA0 hval0
  refine (walk v0 (.string a1) W o0 ⟨a1, rfl, w1⟩).mono fun e W' ⟨he, bel⟩ => ?_
  subst he
  exact ⟨_, rfl, _, _, _, [], _, [], hW', trodAll_mk1 (shut_bool Try.underlying4 _), (trodAll_cons_mk (Below.trod laidOut (by kernel_rfl) (of_decide_eq_true (by kernel_rfl)) k0 bel lt0) (trodAll_cons_mk (shut_string Try.underlying9 w1) trodAll_mk0)), rfl, bel.frame _, fun h => by cases h⟩

theorem over : Rows.wireBackRow.holds Try.pinned (OpenSpec.ofChange Rows.wireBackSpec) :=
  OpenClaim.holds_of_wide 6 Try.f6 rfl rfl rfl rfl rfl rfl rfl ⟨rfl, rfl, rfl, rfl, rfl⟩ rfl rfl rfl rfl rfl (by kernel_rfl) Try.func6 (by kernel_rfl)
    (of_decide_eq_true (by kernel_rfl)) (by unfold Func.isWrapper; first | (rw [if_pos (by decide +kernel)]; kernel_rfl) | (rw [if_neg (by decide +kernel)]; exact ⟨rfl, rfl⟩))
    (fun os started H enc _ => lifted os started H enc)

/-- The statement. -/
theorem proved : Rows.WireBackSaid := over
#print axioms proved
end Go.Proofs.Ytcamfdmmcbimfaa.wireBack
