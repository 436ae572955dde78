/-
  The statements' type Value in memory, and the contract of 'few': it tells whether the values are at most 20 and small, at every slice of values.
-/
import Derived.Test.YtcamfdmmcbimfaaSmall
import Derived.Deep.RegionHeld3
namespace Go.Proofs.Ytcamfdmmcbimfaa
open Go.RowKit

theorem Reads.lit {w : World} {B size n : Nat} {A : Option Addr} {xs : List Value} (h : Reads w B size A n xs) (hn : 0 < n) (hs : 0 < size) :
    ∃ b off, A = some ⟨b, off, none⟩ ∧ b < B ∧ ∀ j u, xs[j]? = some u → w.cell? ⟨b, off + j, none⟩ = some u := by
  obtain ⟨⟨b, off, spot⟩, rfl, hb, hc⟩ := h.2 hn
  have hl : 0 < xs.length := by rw [h.1]; exact Nat.mul_pos hn hs
  have h0 := hc 0 _ (List.getElem?_eq_getElem hl)
  have hspot : spot = none := by simpa [Addr.add] using World.cell?_spot h0
  subst hspot
  refine ⟨b, off, rfl, hb, fun j u hu => ?_⟩
  have := hc j u hu
  have e : (⟨b, off, none⟩ : Addr).add j = ⟨b, off + j, none⟩ := by unfold Addr.add; split <;> simp_all
  rw [← e]
  exact this

/-- A value of the statements' type, and where its two slices lie. -/
structure Val where
  kind : Int
  n : Int
  s : List UInt8
  la : Option Addr
  lc : Nat
  l : List Int
  ta : Option Addr
  tc : Nat
  t : List (List UInt8)

def Val.parts (v : Val) : List Value := [.int .i64 v.kind, .int .i64 v.n, .string ⟨v.s.toArray⟩, .slice v.la v.l.length v.lc, .slice v.ta v.t.length v.tc]
theorem Val.parts_length (v : Val) : v.parts.length = 5 := rfl

/-- It can be read in w, below block B. -/
structure Val.Ok (w : World) (B : Nat) (v : Val) : Prop where
  kind : I64 v.kind
  n : I64 v.n
  sl : v.s.length ≤ 9223372036854775807
  ll : v.l.length ≤ 9223372036854775807
  tl : v.t.length ≤ 9223372036854775807
  l : Reads w B 1 v.la v.l.length (intCells v.l)
  li : ∀ z ∈ v.l, I64 z
  t : Reads w B 1 v.ta v.t.length (strCellsL v.t)
  ti : ∀ x ∈ v.t, x.length ≤ 9223372036854775807

theorem Val.Ok.below {w w' : World} {B : Nat} {v : Val} (h : v.Ok w B) (hb : Below B w w') : v.Ok w' B :=
  ⟨h.kind, h.n, h.sl, h.ll, h.tl, h.l.below hb, h.li, h.t.below hb, h.ti⟩
theorem Val.Ok.more {w : World} {B B' : Nat} {v : Val} (h : v.Ok w B) (hb : B ≤ B') : v.Ok w B' :=
  ⟨h.kind, h.n, h.sl, h.ll, h.tl, h.l.more hb, h.li, h.t.more hb, h.ti⟩

/-- A slice of values. -/
structure ValsAt (w : World) (B : Nat) (A : Option Addr) (vs : List Val) : Prop where
  cells : Reads w B 5 A vs.length (vs.flatMap Val.parts)
  ok : ∀ v ∈ vs, v.Ok w B

theorem ValsAt.below {w w' : World} {B : Nat} {A : Option Addr} {vs : List Val} (h : ValsAt w B A vs) (hb : Below B w w') : ValsAt w' B A vs :=
  ⟨h.cells.below hb, fun v hv => (h.ok v hv).below hb⟩

theorem parts_at : ∀ (vs : List Val) (i j : Nat) (hi : i < vs.length), j < 5 → (vs.flatMap Val.parts)[i * 5 + j]? = ((vs[i]'hi).parts)[j]?
  | [], i, j, hi, _ => by simp at hi
  | v :: vs, 0, j, _, hj => by
    rw [List.flatMap_cons, Nat.zero_mul, Nat.zero_add, List.getElem?_append_left (by rw [Val.parts_length]; exact hj)]
    rfl
  | v :: vs, i + 1, j, hi, hj => by
    rw [List.flatMap_cons, List.getElem?_append_right (by rw [Val.parts_length]; omega), Val.parts_length, show (i + 1) * 5 + j - 5 = i * 5 + j by omega, parts_at vs i j (by simpa using hi) hj]
    rfl

def tooLong (v : Val) : Bool := decide (400 < v.l.length) || decide (400 < v.t.length) || decide (400 < v.s.length)
def textsOk (ts : List (List UInt8)) : Bool := ts.all fun x => decide (x.length ≤ 400)
def textsSize (ts : List (List UInt8)) : Nat := (ts.map List.length).sum
def Val.size (v : Val) : Nat := v.s.length + v.l.length + v.t.length + textsSize v.t
def valsOk (vs : List Val) : Bool := vs.all fun v => !tooLong v && textsOk v.t
def valsSize (vs : List Val) : Nat := (vs.map Val.size).sum
def fewB (vs : List Val) : Bool := decide (vs.length ≤ 20) && valsOk vs && decide (valsSize vs ≤ 400)

theorem textsOk_take {ts : List (List UInt8)} {k : Nat} (hk : k < ts.length) (h : textsOk (ts.take k) = true) : textsOk (ts.take (k + 1)) = decide ((ts[k]'hk).length ≤ 400) := by
  unfold textsOk at *
  rw [List.take_succ_eq_append_getElem hk, List.all_append, h]
  simp
theorem textsSize_take {ts : List (List UInt8)} {k : Nat} (hk : k < ts.length) : textsSize (ts.take (k + 1)) = textsSize (ts.take k) + (ts[k]'hk).length := by
  unfold textsSize
  rw [List.take_succ_eq_append_getElem hk, List.map_append, List.sum_append]
  simp only [List.map_cons, List.map_nil, List.sum_cons, List.sum_nil, Nat.add_zero]
theorem textsSize_le {ts : List (List UInt8)} (h : textsOk ts = true) : textsSize ts ≤ 400 * ts.length := by
  induction ts with
  | nil => simp [textsSize]
  | cons t ts ih =>
    simp only [textsOk, List.all_cons, Bool.and_eq_true, decide_eq_true_eq] at h
    have h2 := ih h.2
    simp only [textsSize, List.map_cons, List.sum_cons, List.length_cons] at *
    omega
theorem textsOk_of_take {ts : List (List UInt8)} (k : Nat) (h : textsOk (ts.take k) = false) : textsOk ts = false := by
  unfold textsOk at *
  rw [← List.take_append_drop k ts, List.all_append, h]
  rfl
theorem valsOk_take {vs : List Val} {k : Nat} (hk : k < vs.length) (h : valsOk (vs.take k) = true) : valsOk (vs.take (k + 1)) = (!tooLong (vs[k]'hk) && textsOk (vs[k]'hk).t) := by
  unfold valsOk at *
  rw [List.take_succ_eq_append_getElem hk, List.all_append, h]
  simp
theorem valsSize_take {vs : List Val} {k : Nat} (hk : k < vs.length) : valsSize (vs.take (k + 1)) = valsSize (vs.take k) + (vs[k]'hk).size := by
  unfold valsSize
  rw [List.take_succ_eq_append_getElem hk, List.map_append, List.sum_append]
  simp only [List.map_cons, List.map_nil, List.sum_cons, List.sum_nil, Nat.add_zero]
theorem valsOk_of_take {vs : List Val} (k : Nat) (h : valsOk (vs.take k) = false) : valsOk vs = false := by
  unfold valsOk at *
  rw [← List.take_append_drop k vs, List.all_append, h]
  rfl
theorem few_bad {vs : List Val} (h : valsOk vs = false) : fewB vs = false := by simp [fewB, h]

set_option maxHeartbeats 8000000 in
set_option maxRecDepth 100000 in
theorem few_any (A : Option Addr) (c B : Nat) (vs : List Val) (w : World) (h : ValsAt w B A vs) (hB : B ≤ w.heap.size) (hl : vs.length ≤ 9223372036854775807) :
    Calls Try.prog 10 #[.slice A vs.length c] w fun e w' => e = .returned (.bool (fewB vs)) ∧ Below w.heap.size w w' := by
  by_cases h20 : 20 < vs.length
  · have e1 : fewB vs = false := by unfold fewB; rw [decide_eq_false (by omega)]; rfl
    rw [e1]
    clear h e1
    go_enter Try.func10, Try.ntmps10
    go_wp2
    go_ret
    exact ⟨rfl, Below.refl _ _⟩
  · have HV := Lib.hid h
    clear h
    go_enter Try.func10, Try.ntmps10
    go_wp2
    go_loopw [3, 4] (fun vn vi wr => ∃ i n : Nat, vi = .int .i64 i ∧ vn = .int .i64 n ∧ i ≤ vs.length ∧ n ≤ 161200 * i ∧ Hid (valsOk (vs.take i) = true ∧ n = valsSize (vs.take i)) ∧ Below w.heap.size w wr) (fun _ vi _ => vs.length - (intOf vi).toNat)
    case atStart => exact ⟨0, 0, rfl, rfl, Nat.zero_le _, by omega, ⟨rfl, rfl⟩, Below.refl _ _⟩
    case round =>
      obtain ⟨i, n, rfl, rfl, hi, hn, HS, hbw⟩ := hrel
      by_cases hil : i < vs.length
      · obtain ⟨b, off, rfl, _, hc⟩ := (HV.out.cells.below (hbw.mono hB)).lit (by omega) (by decide)
        have c2 : wr.cell? ⟨b, off + i * 5 + 2, none⟩ = some (.string ⟨(vs[i]'hil).s.toArray⟩) := by rw [Nat.add_assoc]; exact hc (i * 5 + 2) _ (parts_at vs i 2 hil (by decide))
        have c3 : wr.cell? ⟨b, off + i * 5 + 3, none⟩ = some (.slice (vs[i]'hil).la (vs[i]'hil).l.length (vs[i]'hil).lc) := by rw [Nat.add_assoc]; exact hc (i * 5 + 3) _ (parts_at vs i 3 hil (by decide))
        have c4 : wr.cell? ⟨b, off + i * 5 + 4, none⟩ = some (.slice (vs[i]'hil).ta (vs[i]'hil).t.length (vs[i]'hil).tc) := by rw [Nat.add_assoc]; exact hc (i * 5 + 4) _ (parts_at vs i 4 hil (by decide))
        have HO := Lib.hid (HV.out.ok _ (List.getElem_mem hil))
        clear hc
        generalize hv : vs[i]'hil = v at c2 c3 c4 HO
        have HVE := Lib.hid hv
        clear hv
        have hbad : tooLong v = true → fewB vs = false := by
          intro ht
          refine few_bad (valsOk_of_take (i + 1) ?_)
          rw [valsOk_take hil HS.out.1, HVE.out, ht]
          rfl
        have HB := Lib.hid hbad
        clear hbad
        by_cases hl4 : 400 < v.l.length
        · have HX := Lib.hid (HB.out (by simp [tooLong, hl4]))
          clear HB
          go_wp2
          go_ret
          exact ⟨by rw [HX.out]; rfl, hbw⟩
        · by_cases ht4 : 400 < v.t.length
          · have HX := Lib.hid (HB.out (by simp [tooLong, ht4]))
            clear HB
            go_wp2
            go_ret
            exact ⟨by rw [HX.out]; rfl, hbw⟩
          · by_cases hs4 : 400 < v.s.length
            · have HX := Lib.hid (HB.out (by simp [tooLong, hs4]))
              clear HB
              go_wp2
              go_ret
              exact ⟨by rw [HX.out]; rfl, hbw⟩
            · clear HB
              have HTL := Lib.hid (show tooLong v = false by simp [tooLong]; omega)
              have hix : (i : Int) < (vs.length : Int) := by omega
              have hi0 : (0 : Int) ≤ (i : Int) := by omega
              have HRT := Lib.hid ((HO.out.t.below (hbw.mono hB)))
              go_wp2
              go_quiet (fail)
              go_wp2
              go_loop [3, 5] (fun vn vk => ∃ k m : Nat, vk = .int .i64 k ∧ vn = .int .i64 m ∧ k ≤ v.t.length ∧ m ≤ n + 1200 + 400 * k ∧ Hid (textsOk (v.t.take k) = true ∧ m = n + v.s.length + v.l.length + v.t.length + textsSize (v.t.take k))) (fun _ vk => v.t.length - (intOf vk).toNat)
              case atStart => exact ⟨0, n + v.s.length + v.l.length + v.t.length, rfl, by go_num, Nat.zero_le _, by omega, ⟨rfl, rfl⟩⟩
              case round =>
                obtain ⟨k, m, rfl, rfl, hk, hm, HT⟩ := hrel
                by_cases hkt : k < v.t.length
                · obtain ⟨tb, toff, hta, _, htc⟩ := HRT.out.lit (by omega) (by decide)
                  have ct : wr.cell? ⟨tb, toff + k, none⟩ = some (.string ⟨(v.t[k]'hkt).toArray⟩) := htc k _ (by simp [strCellsL, hkt])
                  have hok := Lib.hid (textsOk_take hkt HT.out.1)
                  have hsz := Lib.hid (textsSize_take hkt)
                  have hti := HO.out.ti _ (List.getElem_mem hkt)
                  rw [hta] at c4
                  clear htc hta
                  generalize v.t[k]'hkt = x at ct hok hsz hti
                  by_cases hx : 400 < x.length
                  · have hfin : fewB vs = false := by
                      refine few_bad (valsOk_of_take (i + 1) ?_)
                      rw [valsOk_take hil HS.out.1, HVE.out, HTL.out, textsOk_of_take (k + 1) (by rw [hok.out]; simp; omega)]
                      rfl
                    have HX := Lib.hid hfin
                    clear hfin
                    go_wp2
                    go_ret
                    exact ⟨by rw [HX.out]; rfl, hbw.trans (only_drewN (World.grownBy.refl wr none) _ |> fun h => ⟨h.os, h.tape, h.output, h.size, fun k _ => rfl⟩)⟩
                  · go_wp2
                    go_round
                    case rel =>
                      refine ⟨k + 1, m + x.length, by go_num, by go_num, by omega, by omega, ?_, ?_⟩
                      · rw [hok.out]; simp; omega
                      · rw [hsz.out]; have := HT.out.2; omega
                    case measure => simp [intOf]; omega
                · obtain rfl : k = v.t.length := by omega
                  have HT2 : Hid (textsOk v.t = true ∧ m = n + v.size) := by
                    have h1 := HT.out
                    rw [List.take_of_length_le (Nat.le_refl _)] at h1
                    exact ⟨h1.1, by unfold Val.size; omega⟩
                  have hmb : m ≤ n + 161200 := by omega
                  clear hm HT
                  go_wp2
                  go_roundw
                  case rel =>
                    refine ⟨i + 1, m, by go_num, rfl, by omega, by omega, ⟨?_, ?_⟩, ?_⟩
                    · rw [valsOk_take hil HS.out.1, HVE.out, HTL.out, HT2.out.1]; rfl
                    · rw [valsSize_take hil, HVE.out, ← HS.out.2]; exact HT2.out.2
                    · exact hbw.trans ⟨rfl, rfl, rfl, Nat.le_refl _, fun _ _ => rfl⟩
                  case measure => simp [intOf]; omega
      · obtain rfl : i = vs.length := by omega
        have hfin : fewB vs = decide (n ≤ 400) := by
          have h1 := HS.out
          rw [List.take_of_length_le (Nat.le_refl _)] at h1
          unfold fewB
          rw [h1.1, h1.2, decide_eq_true (show vs.length ≤ 20 by omega)]
          rfl
        have HX := Lib.hid hfin
        clear hfin
        by_cases hn4 : n ≤ 400
        · have hd : decide ((n : Int) ≤ 400) = true := by simp; omega
          go_wp2
          go_ret
          exact ⟨by rw [HX.out, decide_eq_true hn4]; rfl, hbw⟩
        · have hd : decide ((n : Int) ≤ 400) = false := by simp; omega
          go_wp2
          go_ret
          exact ⟨by rw [HX.out, decide_eq_false hn4]; rfl, hbw⟩

end Go.Proofs.Ytcamfdmmcbimfaa
