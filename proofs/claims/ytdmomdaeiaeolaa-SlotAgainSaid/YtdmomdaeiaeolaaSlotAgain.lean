/-
  SlotAgain: for all units of at most 10 different imports (and at most 10 nodes with at most 20 refs each), and a slot for each import, if the unit follows itself, exactly the needed imports keep their slots; after that, all of them keep them again; for all other inputs the small example holds. No condition.
-/
import Derived.Test.YtdmomdaeiaeolaaBoxes
namespace Go.Proofs.Ytdmomdaeiaeolaa.slotAgain
open Go.ChangeShapes Go.WideShapes Go.ChangeAt Go.RowKit

theorem own : ownKnob Try.prog.godebug = none := by kernel_rfl

/-- A layout of slots alone. -/
def layOf (A : Option Addr) (c : Nat) (zs : List Int) : LayD := ⟨⟨none, 0, 0⟩, A, c, zs, ⟨none, 0, 0⟩, 0, 0, 0, 0⟩

theorem upTo_self (u : UnitD) (l : LayD) (hd : (u.imps.map ImpD.key).Nodup) (hl : l.slots.length = u.imps.length) (n : Nat) (hn : n < u.imps.length) (hs : n < l.slots.length) : ∀ k, k ≤ u.imps.length →
    upTo u l (u.imps[n]'hn).key k = if n < k ∧ 0 ≤ l.slots[n]'hs then l.slots[n]'hs else -1
  | 0, _ => by rw [upTo_zero, if_neg (by omega)]
  | k + 1, hk => by
    have h1 : k < u.imps.length := by omega
    have h2 : k < l.slots.length := by omega
    have ih := upTo_self u l hd hl n hn hs k (by omega)
    by_cases hkn : k = n
    · subst hkn
      by_cases hz : 0 ≤ l.slots[k]'h2
      · rw [upTo_hit u l _ k h1 h2 hd rfl hz, if_pos ⟨by omega, hz⟩]
      · rw [upTo_miss u l _ k h1 h2 (fun c => hz c.2), ih, if_neg (by omega), if_neg (fun c => hz c.2)]
    · have hne : (u.imps[k]'h1).key ≠ (u.imps[n]'hn).key := by
        intro e
        rcases Nat.lt_or_ge k n with h | h
        · have := List.pairwise_iff_getElem.1 hd k n (by simpa using h1) (by simpa using hn) h
          rw [List.getElem_map, List.getElem_map] at this
          exact this e
        · have := List.pairwise_iff_getElem.1 hd n k (by simpa using hn) (by simpa using h1) (by omega)
          rw [List.getElem_map, List.getElem_map] at this
          exact this e.symm
      rw [upTo_miss u l _ k h1 h2 (fun c => hne c.1), ih]
      have : (n < k + 1) = (n < k) := by simp only [eq_iff_iff]; omega
      simp only [this]

theorem keepL_self (u : UnitD) (l : LayD) (hd : (u.imps.map ImpD.key).Nodup) (hl : l.slots.length = u.imps.length) (n : Nat) (hn : n < u.imps.length) (hs : n < l.slots.length) (hk : n < (keepL u l u).length) :
    (keepL u l u)[n]'hk = if (n : Int) ∈ u.need ∧ 0 ≤ l.slots[n]'hs then l.slots[n]'hs else -1 := by
  rw [keepL_at u l u n hn hl, upTo_self u l hd hl n hn hs _ (Nat.le_refl _)]
  by_cases h1 : (n : Int) ∈ u.need <;> by_cases h2 : 0 ≤ l.slots[n]'hs <;> simp [h1, h2, hn]

theorem keepL_again (u : UnitD) (l l' : LayD) (hd : (u.imps.map ImpD.key).Nodup) (hl : l.slots.length = u.imps.length) (hl' : l'.slots = keepL u l u) : keepL u l' u = keepL u l u := by
  have hll : l'.slots.length = u.imps.length := by rw [hl', keepL_length]
  apply List.ext_getElem (by rw [keepL_length, keepL_length])
  intro n h1 h2
  have hn : n < u.imps.length := by rwa [keepL_length] at h1
  rw [keepL_self u l' hd hll n hn (by omega) h1]
  have e : l'.slots[n]'(by omega) = (keepL u l u)[n]'h2 := by simp only [hl']
  rw [e, keepL_self u l hd hl n hn (by omega) h2]
  by_cases h3 : (n : Int) ∈ u.need <;> by_cases h4 : 0 ≤ l.slots[n]'(by omega) <;> simp [h3, h4]

set_option maxHeartbeats 16000000 in
set_option maxRecDepth 100000 in
theorem walk (a a1 : Value) (w : World) (ha : ∃ u : UnitD, a = .agg u.parts.toArray ∧ u.Ok w w.heap.size)
    (ha1 : ∃ (A : Option Addr) (zs : List Int) (c : Nat), a1 = .slice A zs.length c ∧ zs.length ≤ 9223372036854775807 ∧ Reads w w.heap.size 1 A zs.length (intCells zs) ∧ ∀ z ∈ zs, I64 z) :
    Calls Try.prog 6 #[a, a1] w fun e w' => e = .returned (.bool true) ∧ Below w.heap.size w w' := by
  obtain ⟨u, rfl, hu⟩ := ha
  obtain ⟨A, zs, c, rfl, hzl, hzr, hzi⟩ := ha1
  have HU := Lib.hid hu
  have HZR := Lib.hid hzr
  have HZI := Lib.hid hzi
  have hul := hu.ilen
  clear hu hzr hzi
  have HX0 := Lib.hid (Blk.new w 32 u.parts.toArray)
  have HB0 := Lib.hid ((Below.refl w.heap.size w).alloc (Nat.le_refl _) (.cells u.parts.toArray 32))
  have HF := Lib.hid (fun (w' : World) (hb : Below w.heap.size w w') => few_any u w.heap.size w' (HU.out.below hb) hb.size)
  have HD2 := Lib.hid (fun (w' : World) (hb : Below w.heap.size w w') => different_any u.imps u.iA u.ic w.heap.size w' (HU.out.icells.below hb) hb.size hul)
  simp only [UnitD.parts] at HF
  simp only [UnitD.parts]
  go_enter Try.func6, Try.ntmps6
  go_wp2_with fail
  refine (small_any _).mono ?_
  rintro e w1 ⟨rfl, hb1⟩
  have HX1 := Lib.hid (HX0.out.below hb1 HX0.out.lt)
  have HB1 := Lib.hid (HB0.out.trans (hb1.mono (by simp)))
  clear hb1 HX0 HB0
  have p0 : w1.cell? ⟨w.heap.size, 0, none⟩ = some (.string u.u0) := HX1.out.cell 0
  have p1 : w1.cell? ⟨w.heap.size, 1, none⟩ = some (.bool u.u1) := HX1.out.cell 1
  have p2 : w1.cell? ⟨w.heap.size, 2, none⟩ = some (.slice u.nA u.nodes.length u.nc) := HX1.out.cell 2
  have p3 : w1.cell? ⟨w.heap.size, 3, none⟩ = some (.slice u.iA u.imps.length u.ic) := HX1.out.cell 3
  have p4 : w1.cell? ⟨w.heap.size, 4, none⟩ = some (.slice u.u4.A u.u4.n u.u4.c) := HX1.out.cell 4
  have p5 : w1.cell? ⟨w.heap.size, 5, none⟩ = some (.slice u.u5.A u.u5.n u.u5.c) := HX1.out.cell 5
  have p6 : w1.cell? ⟨w.heap.size, 6, none⟩ = some (.slice u.u6.A u.u6.n u.u6.c) := HX1.out.cell 6
  have p7 : w1.cell? ⟨w.heap.size, 7, none⟩ = some (.slice u.u7.A u.u7.n u.u7.c) := HX1.out.cell 7
  have p8 : w1.cell? ⟨w.heap.size, 8, none⟩ = some (.int .i64 u.u8) := HX1.out.cell 8
  have p9 : w1.cell? ⟨w.heap.size, 9, none⟩ = some (.int .i64 u.u9) := HX1.out.cell 9
  have p10 : w1.cell? ⟨w.heap.size, 10, none⟩ = some (.int .i64 u.u10) := HX1.out.cell 10
  have p11 : w1.cell? ⟨w.heap.size, 11, none⟩ = some (.int .i64 u.u11) := HX1.out.cell 11
  have p12 : w1.cell? ⟨w.heap.size, 12, none⟩ = some (.slice u.u12.A u.u12.n u.u12.c) := HX1.out.cell 12
  have p13 : w1.cell? ⟨w.heap.size, 13, none⟩ = some (.slice u.u13.A u.u13.n u.u13.c) := HX1.out.cell 13
  have HFX := Lib.hid (HF.out w1 HB1.out)
  cases hf : fewB u with
  | false =>
    rw [hf] at HFX
    clear hf
    go_wp2_with fail
    refine (HFX.out).mono ?_
    rintro e w2 ⟨rfl, hb2⟩
    have HB2 := Lib.hid (HB1.out.trans (hb2.mono HB1.out.size))
    clear hb2
    go_wp2
    go_ret
    exact ⟨rfl, HB2.out⟩
  | true =>
    have him := few_imps hf
    rw [hf] at HFX
    clear hf
    go_wp2_with fail
    refine (HFX.out).mono ?_
    rintro e w2 ⟨rfl, hb2⟩
    have HX2 := Lib.hid (HX1.out.below hb2 HX1.out.lt)
    have HB2 := Lib.hid (HB1.out.trans (hb2.mono HB1.out.size))
    clear hb2 p0 p1 p2 p3 p4 p5 p6 p7 p8 p9 p10 p11 p12 p13 HX1 HB1 HFX HF
    have p3 : w2.cell? ⟨w.heap.size, 3, none⟩ = some (.slice u.iA u.imps.length u.ic) := HX2.out.cell 3
    have HDY := Lib.hid (HD2.out w2 HB2.out)
    cases hd2 : diffB u.imps with
    | false =>
      rw [hd2] at HDY
      clear hd2
      go_wp2_with fail
      refine (HDY.out).mono ?_
      rintro e w3 ⟨rfl, hb3⟩
      have HB3 := Lib.hid (HB2.out.trans (hb3.mono HB2.out.size))
      clear hb3
      go_wp2
      go_ret
      exact ⟨rfl, HB3.out⟩
    | true =>
      have HND := Lib.hid (diffB_nodup hd2)
      rw [hd2] at HDY
      clear hd2
      go_wp2_with fail
      refine (HDY.out).mono ?_
      rintro e w3 ⟨rfl, hb3⟩
      have HX3 := Lib.hid (HX2.out.below hb3 HX2.out.lt)
      have HB3 := Lib.hid (HB2.out.trans (hb3.mono HB2.out.size))
      clear hb3 p3 HX2 HB2 HDY HD2
      have p3 : w3.cell? ⟨w.heap.size, 3, none⟩ = some (.slice u.iA u.imps.length u.ic) := HX3.out.cell 3
      by_cases hle : zs.length = u.imps.length
      · have hq1 : ((zs.length : Int) != (u.imps.length : Int)) = false := by simp [hle]
        have hq2 : (zs.length != u.imps.length) = false := by simp [hle]
        have hq3 : ((zs.length : Int) == (u.imps.length : Int)) = true := by simp [hle]
        have hq4 : (zs.length == u.imps.length) = true := by simp [hle]
        have hq5 : ((u.imps.length : Int) != (zs.length : Int)) = false := by simp [hle]
        have hq6 : (u.imps.length != zs.length) = false := by simp [hle]
        have HLE := Lib.hid hle
        have hlo : ∀ (w' : World), Below w.heap.size w w' → (layOf A c zs).Ok w' w.heap.size := fun w' hb => ⟨hzl, HZR.out.below hb, HZI.out⟩
        have HN := Lib.hid (fun (w' : World) (hb : Below w.heap.size w w') => Need_any u w.heap.size w' (HU.out.below hb) hb.size (by omega))
        have HK := Lib.hid (fun (w' : World) (hb : Below w.heap.size w w') => Keep_any u (layOf A c zs) u w.heap.size w' (HU.out.below hb) (hlo w' hb) (HU.out.below hb) hb.size (by omega) (show zs.length ≤ _ by omega))
        have HKA : Hid (∀ n (hn : n < zs.length) (hk : n < (keepL u (layOf A c zs) u).length), (keepL u (layOf A c zs) u)[n]'hk = if (n : Int) ∈ u.need ∧ 0 ≤ zs[n]'hn then zs[n]'hn else -1) := fun n hn hk => keepL_self u (layOf A c zs) HND.out HLE.out n (by omega) hn hk
        have HKG : Hid (∀ A' c', keepL u (layOf A' c' (keepL u (layOf A c zs) u)) u = keepL u (layOf A c zs) u) := fun A' c' => keepL_again u (layOf A c zs) _ HND.out HLE.out rfl
        have HKI : Hid (∀ z ∈ keepL u (layOf A c zs) u, I64 z) := fun z hz => by
          obtain ⟨n, hn, rfl⟩ := List.getElem_of_mem hz
          have hn2 : n < zs.length := by rw [keepL_length] at hn; omega
          rw [keepL_self u (layOf A c zs) HND.out HLE.out n (by omega) hn2 hn]
          split
          · exact HZI.out _ (List.getElem_mem hn2)
          · unfold I64; omega
        have HK2 : Hid (∀ (g : Nat) (w' : World), Below w.heap.size w w' → Blk w' g 3 (intCells (keepL u (layOf A c zs) u)).toArray → ∀ L, L = keepL u (layOf A c zs) u → Calls Try.prog 13 #[.agg u.parts.toArray, .agg (layOf (some ⟨g, 0, none⟩) u.imps.length L).parts.toArray, .agg u.parts.toArray] w' fun e w'' => ∃ g', e = .returned (.slice (some ⟨g', 0, none⟩) u.imps.length u.imps.length) ∧ w'.heap.size ≤ g' ∧ Blk w'' g' 3 (intCells (keepL u (layOf A c zs) u)).toArray ∧ Below w'.heap.size w' w'') := fun g w' hb hg L hL => by
          subst hL
          have hkl := keepL_length u (layOf A c zs) u
          have h := Keep_any u (layOf (some ⟨g, 0, none⟩) u.imps.length (keepL u (layOf A c zs) u)) u w'.heap.size w' ((HU.out.below hb).more hb.size) ⟨by show List.length (keepL u (layOf A c zs) u) ≤ _; omega, Reads.of_blk hg (by rw [intCells_length]; exact (Nat.mul_one _).symm), HKI.out⟩ ((HU.out.below hb).more hb.size) (Nat.le_refl _) (by omega) (by show List.length (keepL u (layOf A c zs) u) ≤ _; omega)
          rw [HKG.out] at h
          exact h
        have hkl := keepL_length u (layOf A c zs) u
        have hnl : u.need.length ≤ u.imps.length := needL_length u.refs u.imps.length
        generalize keepL u (layOf A c zs) u = KL at HK HKA HK2 hkl HKG HKI
        generalize u.need = NL at HN HKA hnl
        simp only [UnitD.parts, LayD.parts, layOf] at HN HK HK2
        clear hlo HKG HKI hle
        have HKL := Lib.hid hkl
        clear hkl
        clear p3
        have p0 : w3.cell? ⟨w.heap.size, 0, none⟩ = some (.string u.u0) := HX3.out.cell 0
        have p1 : w3.cell? ⟨w.heap.size, 1, none⟩ = some (.bool u.u1) := HX3.out.cell 1
        have p2 : w3.cell? ⟨w.heap.size, 2, none⟩ = some (.slice u.nA u.nodes.length u.nc) := HX3.out.cell 2
        have p3 : w3.cell? ⟨w.heap.size, 3, none⟩ = some (.slice u.iA u.imps.length u.ic) := HX3.out.cell 3
        have p4 : w3.cell? ⟨w.heap.size, 4, none⟩ = some (.slice u.u4.A u.u4.n u.u4.c) := HX3.out.cell 4
        have p5 : w3.cell? ⟨w.heap.size, 5, none⟩ = some (.slice u.u5.A u.u5.n u.u5.c) := HX3.out.cell 5
        have p6 : w3.cell? ⟨w.heap.size, 6, none⟩ = some (.slice u.u6.A u.u6.n u.u6.c) := HX3.out.cell 6
        have p7 : w3.cell? ⟨w.heap.size, 7, none⟩ = some (.slice u.u7.A u.u7.n u.u7.c) := HX3.out.cell 7
        have p8 : w3.cell? ⟨w.heap.size, 8, none⟩ = some (.int .i64 u.u8) := HX3.out.cell 8
        have p9 : w3.cell? ⟨w.heap.size, 9, none⟩ = some (.int .i64 u.u9) := HX3.out.cell 9
        have p10 : w3.cell? ⟨w.heap.size, 10, none⟩ = some (.int .i64 u.u10) := HX3.out.cell 10
        have p11 : w3.cell? ⟨w.heap.size, 11, none⟩ = some (.int .i64 u.u11) := HX3.out.cell 11
        have p12 : w3.cell? ⟨w.heap.size, 12, none⟩ = some (.slice u.u12.A u.u12.n u.u12.c) := HX3.out.cell 12
        have p13 : w3.cell? ⟨w.heap.size, 13, none⟩ = some (.slice u.u13.A u.u13.n u.u13.c) := HX3.out.cell 13
        have HNX := Lib.hid (HN.out w3 HB3.out)
        go_wp2_with fail
        refine (HNX.out).mono ?_
        rintro e w4 ⟨v4, rfl, hown4, hb4⟩
        obtain ⟨A4, c4, rfl, _⟩ := own_reads hown4
        have HW4 := Lib.hid hown4
        have HX4 := Lib.hid (HX3.out.below hb4 HX3.out.lt)
        have HB4 := Lib.hid (HB3.out.trans (hb4.mono HB3.out.size))
        clear hown4 hb4 p0 p1 p2 p3 p4 p5 p6 p7 p8 p9 p10 p11 p12 p13 HX3 HB3 HNX HN
        have p0 : w4.cell? ⟨w.heap.size, 0, none⟩ = some (.string u.u0) := HX4.out.cell 0
        have p1 : w4.cell? ⟨w.heap.size, 1, none⟩ = some (.bool u.u1) := HX4.out.cell 1
        have p2 : w4.cell? ⟨w.heap.size, 2, none⟩ = some (.slice u.nA u.nodes.length u.nc) := HX4.out.cell 2
        have p3 : w4.cell? ⟨w.heap.size, 3, none⟩ = some (.slice u.iA u.imps.length u.ic) := HX4.out.cell 3
        have p4 : w4.cell? ⟨w.heap.size, 4, none⟩ = some (.slice u.u4.A u.u4.n u.u4.c) := HX4.out.cell 4
        have p5 : w4.cell? ⟨w.heap.size, 5, none⟩ = some (.slice u.u5.A u.u5.n u.u5.c) := HX4.out.cell 5
        have p6 : w4.cell? ⟨w.heap.size, 6, none⟩ = some (.slice u.u6.A u.u6.n u.u6.c) := HX4.out.cell 6
        have p7 : w4.cell? ⟨w.heap.size, 7, none⟩ = some (.slice u.u7.A u.u7.n u.u7.c) := HX4.out.cell 7
        have p8 : w4.cell? ⟨w.heap.size, 8, none⟩ = some (.int .i64 u.u8) := HX4.out.cell 8
        have p9 : w4.cell? ⟨w.heap.size, 9, none⟩ = some (.int .i64 u.u9) := HX4.out.cell 9
        have p10 : w4.cell? ⟨w.heap.size, 10, none⟩ = some (.int .i64 u.u10) := HX4.out.cell 10
        have p11 : w4.cell? ⟨w.heap.size, 11, none⟩ = some (.int .i64 u.u11) := HX4.out.cell 11
        have p12 : w4.cell? ⟨w.heap.size, 12, none⟩ = some (.slice u.u12.A u.u12.n u.u12.c) := HX4.out.cell 12
        have p13 : w4.cell? ⟨w.heap.size, 13, none⟩ = some (.slice u.u13.A u.u13.n u.u13.c) := HX4.out.cell 13
        have HKX := Lib.hid (HK.out w4 HB4.out)
        go_wp2_with fail
        refine (HKX.out).mono ?_
        rintro e w5 ⟨g, rfl, hg, hblk, hb5⟩
        have HX5 := Lib.hid (HX4.out.below hb5 HX4.out.lt)
        have HB5 := Lib.hid (HB4.out.trans (hb5.mono HB4.out.size))
        have HG5 := Lib.hid hblk
        have HR5 := Lib.hid (Reads.of_own (ownsRow_below HW4.out hb5))
        clear hg hblk hb5 p0 p1 p2 p3 p4 p5 p6 p7 p8 p9 p10 p11 p12 p13 HX4 HB4 HW4 HKX HK
        go_wp2_with fail
        go_loop [8] (fun vn => ∃ n : Nat, vn = .int .i64 n ∧ n ≤ u.imps.length) (fun vn => u.imps.length - (intOf vn).toNat)
        case atStart => exact ⟨0, rfl, Nat.zero_le _⟩
        case round =>
          obtain ⟨n, rfl, hnm⟩ := hrel
          by_cases hn : n < u.imps.length
          · have hnz : n < zs.length := by rw [HLE.out]; exact hn
            have hnk : n < KL.length := by rw [HKL.out]; exact hn
            obtain ⟨b, off, rfl, _, hc⟩ := (HZR.out.below HB5.out).lit (by omega) (by decide)
            have c0 : w5.cell? ⟨b, off + n, none⟩ = some (.int .i64 (zs[n]'hnz)) := hc n _ (by simp [intCells, hnz])
            have g0 : w5.cell? ⟨g, n, none⟩ = some (.int .i64 (KL[n]'hnk)) := (HG5.out.cell n).trans (by simp [intCells, hnk])
            have HKN := Lib.hid (HKA.out n hnz hnk)
            clear hc
            generalize zs[n]'hnz = z at c0 HKN
            generalize KL[n]'hnk = kn at g0 HKN
            have hn0 : (0 : Int) ≤ (n : Int) := by omega
            have hnI : (n : Int) < (u.imps.length : Int) := by omega
            have hnI2 : (n : Int) < (zs.length : Int) := by omega
            have HINX := Lib.hid ((in_any A4 c4 w5.heap.size NL n w5 HR5.out (by omega)))
            cases hd : decide ((n : Int) ∈ NL) with
            | false =>
              rw [hd] at HINX
              obtain rfl : kn = -1 := by rw [HKN.out, if_neg (fun h => of_decide_eq_false hd h.1)]
              clear hd HKN
              go_wp2_with fail
              refine (HINX.out).mono ?_
              rintro e w' ⟨rfl, rfl⟩
              go_wp2
              go_round
              case rel => exact ⟨n + 1, by go_num, by omega⟩
              case measure => simp [intOf]; omega
            | true =>
              rw [hd] at HINX
              by_cases hz : z < 0
              · obtain rfl : kn = -1 := by rw [HKN.out, if_neg (fun h => absurd h.2 (by omega))]
                clear hd HKN
                go_wp2_with fail
                refine (HINX.out).mono ?_
                rintro e w' ⟨rfl, rfl⟩
                go_wp2
                go_round
                case rel => exact ⟨n + 1, by go_num, by omega⟩
                case measure => simp [intOf]; omega
              · obtain rfl : kn = z := by rw [HKN.out, if_pos ⟨of_decide_eq_true hd, by omega⟩]
                clear hd HKN
                go_wp2_with fail
                refine (HINX.out).mono ?_
                rintro e w' ⟨rfl, rfl⟩
                go_wp2
                go_round
                case rel => exact ⟨n + 1, by go_num, by omega⟩
                case measure => simp [intOf]; omega
          · obtain rfl : n = u.imps.length := by omega
            have HK2X := Lib.hid (HK2.out g w5 HB5.out HG5.out KL rfl)
            rw [HKL.out] at HK2X
            have p0 : w5.cell? ⟨w.heap.size, 0, none⟩ = some (.string u.u0) := HX5.out.cell 0
            have p1 : w5.cell? ⟨w.heap.size, 1, none⟩ = some (.bool u.u1) := HX5.out.cell 1
            have p2 : w5.cell? ⟨w.heap.size, 2, none⟩ = some (.slice u.nA u.nodes.length u.nc) := HX5.out.cell 2
            have p3 : w5.cell? ⟨w.heap.size, 3, none⟩ = some (.slice u.iA u.imps.length u.ic) := HX5.out.cell 3
            have p4 : w5.cell? ⟨w.heap.size, 4, none⟩ = some (.slice u.u4.A u.u4.n u.u4.c) := HX5.out.cell 4
            have p5 : w5.cell? ⟨w.heap.size, 5, none⟩ = some (.slice u.u5.A u.u5.n u.u5.c) := HX5.out.cell 5
            have p6 : w5.cell? ⟨w.heap.size, 6, none⟩ = some (.slice u.u6.A u.u6.n u.u6.c) := HX5.out.cell 6
            have p7 : w5.cell? ⟨w.heap.size, 7, none⟩ = some (.slice u.u7.A u.u7.n u.u7.c) := HX5.out.cell 7
            have p8 : w5.cell? ⟨w.heap.size, 8, none⟩ = some (.int .i64 u.u8) := HX5.out.cell 8
            have p9 : w5.cell? ⟨w.heap.size, 9, none⟩ = some (.int .i64 u.u9) := HX5.out.cell 9
            have p10 : w5.cell? ⟨w.heap.size, 10, none⟩ = some (.int .i64 u.u10) := HX5.out.cell 10
            have p11 : w5.cell? ⟨w.heap.size, 11, none⟩ = some (.int .i64 u.u11) := HX5.out.cell 11
            have p12 : w5.cell? ⟨w.heap.size, 12, none⟩ = some (.slice u.u12.A u.u12.n u.u12.c) := HX5.out.cell 12
            have p13 : w5.cell? ⟨w.heap.size, 13, none⟩ = some (.slice u.u13.A u.u13.n u.u13.c) := HX5.out.cell 13
            go_wp2_with fail
            refine (HK2X.out).mono ?_
            rintro e w6 ⟨g', rfl, hg', hblk', hb6⟩
            have HB6 := Lib.hid (HB5.out.trans (hb6.mono HB5.out.size))
            have HG6 := Lib.hid (HG5.out.below hb6 HG5.out.lt)
            have HG6' := Lib.hid hblk'
            have hkl2 : KL.length ≤ 9223372036854775807 := by rw [HKL.out]; omega
            have HSR := Lib.hid (Same_refl (some ⟨g', 0, none⟩) (some ⟨g, 0, none⟩) u.imps.length u.imps.length w6.heap.size w6.heap.size KL w6 (Reads.of_blk HG6'.out (by rw [intCells_length]; omega)) (Reads.of_blk HG6.out (by rw [intCells_length]; omega)) hkl2 (Nat.le_refl _) (Nat.le_refl _))
            rw [HKL.out] at HSR
            clear hg' hblk' hb6 hkl2 p0 p1 p2 p3 p4 p5 p6 p7 p8 p9 p10 p11 p12 p13
            go_wp2_with fail
            refine (HSR.out).mono ?_
            rintro e w7 ⟨rfl, hb7⟩
            have HB7 := Lib.hid (HB6.out.trans (hb7.mono HB6.out.size))
            clear hb7
            go_wp2
            go_ret
            exact ⟨rfl, HB7.out⟩
      · have hq1 : ((zs.length : Int) != (u.imps.length : Int)) = true := by simp; omega
        have hq2 : (zs.length != u.imps.length) = true := by simp; omega
        have hq3 : ((zs.length : Int) == (u.imps.length : Int)) = false := by simp; omega
        have hq4 : (zs.length == u.imps.length) = false := by simp; omega
        clear hle
        go_wp2
        go_ret
        exact ⟨rfl, HB3.out⟩

set_option maxRecDepth 100000 in
theorem lifted (os : Os) (started : os.Started) (H : Type) (enc : TypeId × Value → H) :
    ReturnsInHanded {} Try.checked os 6 .any (Rows.slotAgainSpec.pre6 enc Try.prog Try.f6 Rows.slotAgainRow.domain false) (Rows.slotAgainSpec.post enc Try.prog Try.f6 false true false false) := by
  refine returnsInHanded_of_change (C := Try.checked) own started (by kernel_rfl) Try.func6
    (ChangeSpec.witness6 (enc := enc) (C := Try.checked) false ⟨#[], #[.agg #[.string ByteArray.empty, .bool false, .slice none 0 0, .slice none 0 0, .slice none 0 0, .slice none 0 0, .slice none 0 0, .slice none 0 0, .int .i64 0, .int .i64 0, .int .i64 0, .int .i64 0, .slice none 0 0, .slice none 0 0], .slice none 0 0], []⟩ 8 (by kernel_rfl) (by kernel_rfl) (by kernel_rfl) (by kernel_rfl)) ?_
  intro W base args ds gs before hval0 hW hcnd _
  have hval : ∀ (j : Nat) t v, Try.f6.params[j]? = some t → args[j]? = some v → Value.okWide Try.prog W .any base t v := hval0
  have hW' := hW
  obtain ⟨p, q, hA0, hV, rfl, hfz, hnd⟩ := hW
  have hA : DataW.TrodAll enc Try.prog W 0 (fun _ => true) true Try.f6.params.toList args.toList ds p := hA0
  rw [Try.params6] at hA hval
  obtain ⟨v0, vs0, d0, ds0, p0, q0, hargs, rfl, rfl, h0, r0⟩ := trodAll_cons hA
  obtain ⟨v1, vs1, d1, ds1, p1, q1, rfl, rfl, rfl, h1, r1⟩ := trodAll_cons r0
  obtain ⟨rfl, rfl, rfl⟩ := trodAll_nil r1
  obtain rfl : args = #[v0, v1] := by cases args; simp_all
  obtain ⟨rfl, rfl⟩ := trodVars_none hV
  have k0 := h0
  have lt0 : ∀ x ∈ p0, x.block < W.heap.size := by obtain ⟨m, hm⟩ := k0; exact DataW.trod_lt m _ _ _ hm
  have o0 := openUnit (hval 0 32 v0 rfl rfl) h0
  have k1 := h1
  have lt1 : ∀ x ∈ p1, x.block < W.heap.size := by obtain ⟨m, hm⟩ := k1; exact DataW.trod_lt m _ _ _ hm
  have o1 := openSlots (hval 1 33 v1 rfl rfl) h1
  clear hA0 hval0
  refine (walk v0 v1 W o0 o1).mono fun e W' ⟨he, bel⟩ => ?_
  subst he
  exact ⟨_, rfl, _, _, _, [], _, [], hW', trodAll_mk1 (shut_bool Try.underlying4 _), (trodAll_cons_mk (Below.trod laidOut (by kernel_rfl) (of_decide_eq_true (by kernel_rfl)) k0 bel lt0) (trodAll_cons_mk (Below.trod laidOut (by kernel_rfl) (of_decide_eq_true (by kernel_rfl)) k1 bel lt1) trodAll_mk0)), rfl, bel.frame _, fun h => by cases h⟩

theorem over : Rows.slotAgainRow.holds Try.pinned (OpenSpec.ofChange Rows.slotAgainSpec) :=
  OpenClaim.holds_of_wide 6 Try.f6 rfl rfl rfl rfl rfl rfl rfl ⟨rfl, rfl, rfl, rfl, rfl⟩ rfl rfl rfl rfl rfl (by kernel_rfl) Try.func6 (by kernel_rfl)
    (of_decide_eq_true (by kernel_rfl)) (by unfold Func.isWrapper; first | (rw [if_pos (by decide +kernel)]; kernel_rfl) | (rw [if_neg (by decide +kernel)]; exact ⟨rfl, rfl⟩))
    (fun os started H enc _ => lifted os started H enc)

/-- The statement. -/
theorem proved : Rows.SlotAgainSaid := over
#print axioms proved
end Go.Proofs.Ytdmomdaeiaeolaa.slotAgain
