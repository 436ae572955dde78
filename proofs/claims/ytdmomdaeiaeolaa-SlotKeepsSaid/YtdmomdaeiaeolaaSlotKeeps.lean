/-
  SlotKeeps: for all two units of at most 10 imports and nodes with at most 20 refs each, whose imports are different, and layouts of at most 20 slots that are different, an import keeps a slot exactly if it needs one and the same import had one; it keeps that slot, and no two imports keep the same one; for all other inputs the small example holds. No condition.
-/
import Derived.Test.YtdmomdaeiaeolaaBoxes
namespace Go.Proofs.Ytdmomdaeiaeolaa.slotKeeps
open Go.ChangeShapes Go.WideShapes Go.ChangeAt Go.RowKit

theorem own : ownKnob Try.prog.godebug = none := by kernel_rfl

set_option maxHeartbeats 16000000 in
set_option maxRecDepth 100000 in
theorem walk (a a1 a2 : Value) (w : World) (ha : ∃ u : UnitD, a = .agg u.parts.toArray ∧ u.Ok w w.heap.size) (ha1 : ∃ l : LayD, a1 = .agg l.parts.toArray ∧ l.Ok w w.heap.size ∧ l.slots.length ≤ l.sc) (ha2 : ∃ u : UnitD, a2 = .agg u.parts.toArray ∧ u.Ok w w.heap.size) :
    Calls Try.prog 5 #[a, a1, a2] w fun e w' => e = .returned (.bool true) ∧ Below w.heap.size w w' := by
  obtain ⟨old, rfl, ho⟩ := ha
  obtain ⟨l, rfl, hl, hcap⟩ := ha1
  obtain ⟨u, rfl, hu⟩ := ha2
  have HO := Lib.hid ho
  have HL := Lib.hid hl
  have HU := Lib.hid hu
  have hsl := hl.len
  have hol := ho.ilen
  have hul := hu.ilen
  clear ho hl hu
  have HX0 : Hid (Boxes w.heap.size old l u w (((w.alloc (.cells old.parts.toArray 32)).alloc (.cells l.parts.toArray 36)).alloc (.cells u.parts.toArray 32))) :=
    ⟨((Blk.new w 32 _).alloc _).alloc _, (Blk.newAt (by simp)).alloc _, Blk.newAt (by simp), (((Below.refl w.heap.size w).alloc (Nat.le_refl _) _).alloc (by simp) _).alloc (by simp; omega) _⟩
  have HF0 := Lib.hid (fun (w' : World) (hb : Below w.heap.size w w') => few_any old w.heap.size w' (HO.out.below hb) hb.size)
  have HF2 := Lib.hid (fun (w' : World) (hb : Below w.heap.size w w') => few_any u w.heap.size w' (HU.out.below hb) hb.size)
  have HD0 := Lib.hid (fun (w' : World) (hb : Below w.heap.size w w') => different_any old.imps old.iA old.ic w.heap.size w' (HO.out.icells.below hb) hb.size hol)
  have HD2 := Lib.hid (fun (w' : World) (hb : Below w.heap.size w w') => different_any u.imps u.iA u.ic w.heap.size w' (HU.out.icells.below hb) hb.size hul)
  simp only [UnitD.parts] at HF0 HF2
  simp only [UnitD.parts, LayD.parts]
  go_enter Try.func5, Try.ntmps5
  go_wp2_with fail
  refine (small_any _).mono ?_
  rintro e w1 ⟨rfl, hb1⟩
  have HX1 := Lib.hid (HX0.out.below hb1)
  clear hb1 HX0
  have p0 : w1.cell? ⟨w.heap.size, 0, none⟩ = some (.string old.u0) := HX1.out.b0.cell 0
  have p1 : w1.cell? ⟨w.heap.size, 1, none⟩ = some (.bool old.u1) := HX1.out.b0.cell 1
  have p2 : w1.cell? ⟨w.heap.size, 2, none⟩ = some (.slice old.nA old.nodes.length old.nc) := HX1.out.b0.cell 2
  have p3 : w1.cell? ⟨w.heap.size, 3, none⟩ = some (.slice old.iA old.imps.length old.ic) := HX1.out.b0.cell 3
  have p4 : w1.cell? ⟨w.heap.size, 4, none⟩ = some (.slice old.u4.A old.u4.n old.u4.c) := HX1.out.b0.cell 4
  have p5 : w1.cell? ⟨w.heap.size, 5, none⟩ = some (.slice old.u5.A old.u5.n old.u5.c) := HX1.out.b0.cell 5
  have p6 : w1.cell? ⟨w.heap.size, 6, none⟩ = some (.slice old.u6.A old.u6.n old.u6.c) := HX1.out.b0.cell 6
  have p7 : w1.cell? ⟨w.heap.size, 7, none⟩ = some (.slice old.u7.A old.u7.n old.u7.c) := HX1.out.b0.cell 7
  have p8 : w1.cell? ⟨w.heap.size, 8, none⟩ = some (.int .i64 old.u8) := HX1.out.b0.cell 8
  have p9 : w1.cell? ⟨w.heap.size, 9, none⟩ = some (.int .i64 old.u9) := HX1.out.b0.cell 9
  have p10 : w1.cell? ⟨w.heap.size, 10, none⟩ = some (.int .i64 old.u10) := HX1.out.b0.cell 10
  have p11 : w1.cell? ⟨w.heap.size, 11, none⟩ = some (.int .i64 old.u11) := HX1.out.b0.cell 11
  have p12 : w1.cell? ⟨w.heap.size, 12, none⟩ = some (.slice old.u12.A old.u12.n old.u12.c) := HX1.out.b0.cell 12
  have p13 : w1.cell? ⟨w.heap.size, 13, none⟩ = some (.slice old.u13.A old.u13.n old.u13.c) := HX1.out.b0.cell 13
  have HFX := Lib.hid (HF0.out w1 HX1.out.bel)
  cases hf0 : fewB old with
  | false =>
    rw [hf0] at HFX
    clear hf0
    go_wp2_with fail
    refine (HFX.out).mono ?_
    rintro e w2 ⟨rfl, hb2⟩
    have HX2 := Lib.hid (HX1.out.below hb2)
    clear hb2
    go_wp2
    go_ret
    exact ⟨rfl, HX2.out.bel⟩
  | true =>
    have hi0 := few_imps hf0
    rw [hf0] at HFX
    clear hf0
    go_wp2_with fail
    refine (HFX.out).mono ?_
    rintro e w2 ⟨rfl, hb2⟩
    have HX2 := Lib.hid (HX1.out.below hb2)
    clear hb2 p0 p1 p2 p3 p4 p5 p6 p7 p8 p9 p10 p11 p12 p13 HX1 HFX
    have q0 : w2.cell? ⟨w.heap.size + 1 + 1, 0, none⟩ = some (.string u.u0) := HX2.out.b2.cell 0
    have q1 : w2.cell? ⟨w.heap.size + 1 + 1, 1, none⟩ = some (.bool u.u1) := HX2.out.b2.cell 1
    have q2 : w2.cell? ⟨w.heap.size + 1 + 1, 2, none⟩ = some (.slice u.nA u.nodes.length u.nc) := HX2.out.b2.cell 2
    have q3 : w2.cell? ⟨w.heap.size + 1 + 1, 3, none⟩ = some (.slice u.iA u.imps.length u.ic) := HX2.out.b2.cell 3
    have q4 : w2.cell? ⟨w.heap.size + 1 + 1, 4, none⟩ = some (.slice u.u4.A u.u4.n u.u4.c) := HX2.out.b2.cell 4
    have q5 : w2.cell? ⟨w.heap.size + 1 + 1, 5, none⟩ = some (.slice u.u5.A u.u5.n u.u5.c) := HX2.out.b2.cell 5
    have q6 : w2.cell? ⟨w.heap.size + 1 + 1, 6, none⟩ = some (.slice u.u6.A u.u6.n u.u6.c) := HX2.out.b2.cell 6
    have q7 : w2.cell? ⟨w.heap.size + 1 + 1, 7, none⟩ = some (.slice u.u7.A u.u7.n u.u7.c) := HX2.out.b2.cell 7
    have q8 : w2.cell? ⟨w.heap.size + 1 + 1, 8, none⟩ = some (.int .i64 u.u8) := HX2.out.b2.cell 8
    have q9 : w2.cell? ⟨w.heap.size + 1 + 1, 9, none⟩ = some (.int .i64 u.u9) := HX2.out.b2.cell 9
    have q10 : w2.cell? ⟨w.heap.size + 1 + 1, 10, none⟩ = some (.int .i64 u.u10) := HX2.out.b2.cell 10
    have q11 : w2.cell? ⟨w.heap.size + 1 + 1, 11, none⟩ = some (.int .i64 u.u11) := HX2.out.b2.cell 11
    have q12 : w2.cell? ⟨w.heap.size + 1 + 1, 12, none⟩ = some (.slice u.u12.A u.u12.n u.u12.c) := HX2.out.b2.cell 12
    have q13 : w2.cell? ⟨w.heap.size + 1 + 1, 13, none⟩ = some (.slice u.u13.A u.u13.n u.u13.c) := HX2.out.b2.cell 13
    have HFY := Lib.hid (HF2.out w2 HX2.out.bel)
    cases hf2 : fewB u with
    | false =>
      rw [hf2] at HFY
      clear hf2
      go_wp2_with fail
      refine (HFY.out).mono ?_
      rintro e w3 ⟨rfl, hb3⟩
      have HX3 := Lib.hid (HX2.out.below hb3)
      clear hb3
      go_wp2
      go_ret
      exact ⟨rfl, HX3.out.bel⟩
    | true =>
      have hi2 := few_imps hf2
      rw [hf2] at HFY
      clear hf2
      go_wp2_with fail
      refine (HFY.out).mono ?_
      rintro e w3 ⟨rfl, hb3⟩
      have HX3 := Lib.hid (HX2.out.below hb3)
      clear hb3 q0 q1 q2 q3 q4 q5 q6 q7 q8 q9 q10 q11 q12 q13 HX2 HFY HF0 HF2
      have r1 : w3.cell? ⟨w.heap.size + 1, 1, none⟩ = some (.slice l.sA l.slots.length l.sc) := HX3.out.b1.cell 1
      have p3 : w3.cell? ⟨w.heap.size, 3, none⟩ = some (.slice old.iA old.imps.length old.ic) := HX3.out.b0.cell 3
      by_cases h20 : (20 : Int) < (l.slots.length : Int)
      · go_wp2
        go_ret
        exact ⟨rfl, HX3.out.bel⟩
      · have h20' : (l.slots.length : Int) ≤ 20 := by omega
        by_cases hle : l.slots.length = old.imps.length
        · have hq1 : ((l.slots.length : Int) != (old.imps.length : Int)) = false := by simp [hle]
          have hq2 : (l.slots.length != old.imps.length) = false := by simp [hle]
          have hq3 : ((l.slots.length : Int) == (old.imps.length : Int)) = true := by simp [hle]
          have hq4 : (l.slots.length == old.imps.length) = true := by simp [hle]
          have HLE := Lib.hid hle
          clear hle
          have HDX := Lib.hid (HD0.out w3 HX3.out.bel)
          cases hd0 : diffB old.imps with
          | false =>
            rw [hd0] at HDX
            clear hd0
            go_wp2_with fail
            refine (HDX.out).mono ?_
            rintro e w4 ⟨rfl, hb4⟩
            have HX4 := Lib.hid (HX3.out.below hb4)
            clear hb4
            go_wp2
            go_ret
            exact ⟨rfl, HX4.out.bel⟩
          | true =>
            have HND0 := Lib.hid (diffB_nodup hd0)
            rw [hd0] at HDX
            clear hd0
            go_wp2_with fail
            refine (HDX.out).mono ?_
            rintro e w4 ⟨rfl, hb4⟩
            have HX4 := Lib.hid (HX3.out.below hb4)
            clear hb4 r1 p3 HX3 HDX HD0 hq1 hq2 hq3 hq4
            have q3 : w4.cell? ⟨w.heap.size + 1 + 1, 3, none⟩ = some (.slice u.iA u.imps.length u.ic) := HX4.out.b2.cell 3
            have HDY := Lib.hid (HD2.out w4 HX4.out.bel)
            cases hd2 : diffB u.imps with
            | false =>
              rw [hd2] at HDY
              clear hd2
              go_wp2_with fail
              refine (HDY.out).mono ?_
              rintro e w5 ⟨rfl, hb5⟩
              have HX5 := Lib.hid (HX4.out.below hb5)
              clear hb5
              go_wp2
              go_ret
              exact ⟨rfl, HX5.out.bel⟩
            | true =>
              have HND2 := Lib.hid (diffB_nodup hd2)
              rw [hd2] at HDY
              clear hd2
              go_wp2_with fail
              refine (HDY.out).mono ?_
              rintro e w5 ⟨rfl, hb5⟩
              have HX5 := Lib.hid (HX4.out.below hb5)
              clear hb5 q3 HX4 HDY HD2
              go_wp2_with fail
              go_loopw [8] (fun vi wr => ∃ i : Nat, vi = .int .i64 i ∧ i ≤ l.slots.length ∧ Hid (∀ j (hj : j < i) (hx : j < l.slots.length), 0 ≤ l.slots[j]'hx → l.slots[j]'hx ∉ l.slots.take j) ∧ Hid (Boxes w.heap.size old l u w wr)) (fun vi _ => l.slots.length - (intOf vi).toNat)
              case atStart => exact ⟨0, rfl, Nat.zero_le _, Lib.hid (fun j hj => absurd hj (by omega)), HX5⟩
              case round =>
                clear HX5
                obtain ⟨i, rfl, hi, HDS, HX⟩ := hrel
                have l1 : wr.cell? ⟨w.heap.size + 1, 1, none⟩ = some (.slice l.sA l.slots.length l.sc) := HX.out.b1.cell 1
                by_cases hil : i < l.slots.length
                · obtain ⟨b, off, hA, _, hc⟩ := (HL.out.cells.below HX.out.bel).lit (by omega) (by decide)
                  have c0 : wr.cell? ⟨b, off + i, none⟩ = some (.int .i64 (l.slots[i]'hil)) := hc i _ (by simp [intCells, hil])
                  have HRT := Lib.hid (HL.out.cells.below HX.out.bel)
                  rw [hA] at HRT l1
                  have HDJ : Hid ((0 ≤ l.slots[i]'hil → l.slots[i]'hil ∉ l.slots.take i) → ∀ j (hj : j < i + 1) (hx : j < l.slots.length), 0 ≤ l.slots[j]'hx → l.slots[j]'hx ∉ l.slots.take j) := fun hne j hj hx => by
                    by_cases hjk : j = i
                    · subst hjk; exact hne
                    · exact HDS.out j (by omega) hx
                  clear hA hc HDS
                  generalize l.slots[i]'hil = z at c0 HDJ
                  have hi0 : (0 : Int) ≤ (i : Int) := by omega
                  have hii : (i : Int) < (l.slots.length : Int) := by omega
                  have hic : (i : Int) ≤ (l.sc : Int) := by omega
                  by_cases hz : 0 ≤ z
                  · have hz1 : decide ((0 : Int) ≤ z) = true := decide_eq_true hz
                    have HIN : Hid (∀ n, Calls Try.prog 15 #[.slice (some ⟨b, off, none⟩) i l.sc, .int .i64 z] (wr.drewN n) fun e w' => e = .returned (.bool (decide (z ∈ l.slots.take i))) ∧ w' = wr.drewN n) := fun n => in_take hi (HRT.out.drewN n) hsl z
                    cases hd : decide (z ∈ l.slots.take i) with
                    | true =>
                      rw [hd] at HIN
                      clear hd
                      go_wp2_with fail
                      go_quiet ((go_at_call 15; exact Calls.quiet_of_same (HIN.out _)))
                      go_wp2
                      go_ret
                      exact ⟨rfl, below_drewN HX.out.bel _⟩
                    | false =>
                      rw [hd] at HIN
                      have HDN := Lib.hid (HDJ.out (fun _ => of_decide_eq_false hd))
                      clear hd
                      go_wp2_with fail
                      go_quiet ((go_at_call 15; exact Calls.quiet_of_same (HIN.out _)))
                      go_wp2
                      exact ⟨⟨i + 1, by go_num, by omega, HDN, HX.out.drewN _⟩, by simp [intOf]; omega⟩
                  · have hz1 : decide ((0 : Int) ≤ z) = false := decide_eq_false hz
                    have HDN := Lib.hid (HDJ.out (fun h => absurd h hz))
                    clear hz
                    go_wp2_with fail
                    go_quiet (fail)
                    go_wp2
                    exact ⟨⟨i + 1, by go_num, by omega, HDN, HX.out.drewN _⟩, by simp [intOf]; omega⟩
                · obtain rfl : i = l.slots.length := by omega
                  have HDIST : Hid (DistS l.slots) := fun j hj => HDS.out j hj hj
                  clear HDS
                  have HN := Lib.hid (fun (w' : World) (hb : Below w.heap.size w w') => Need_any u w.heap.size w' (HU.out.below hb) hb.size (by omega))
                  have HK := Lib.hid (fun (w' : World) (hb : Below w.heap.size w w') => Keep_any old l u w.heap.size w' (HO.out.below hb) (HL.out.below hb) (HU.out.below hb) hb.size (by omega) (by omega))
                  have HKA : Hid (∀ n (hn : n < u.imps.length) (hk : n < (keepL old l u).length), (keepL old l u)[n]'hk = if (n : Int) ∈ u.need then upTo old l (u.imps[n]'hn).key old.imps.length else -1) := fun n hn _ => keepL_at old l u n hn HLE.out
                  have HKD := Lib.hid (keepL_dist old l u HND2.out HDIST.out)
                  have hkl := keepL_length old l u
                  have hnl : u.need.length ≤ u.imps.length := needL_length u.refs u.imps.length
                  generalize keepL old l u = KL at HK HKA HKD hkl
                  generalize u.need = NL at HN HKA hnl
                  simp only [UnitD.parts, LayD.parts] at HN HK
                  have HKL := Lib.hid hkl
                  clear hkl
                  have q0 : wr.cell? ⟨w.heap.size + 1 + 1, 0, none⟩ = some (.string u.u0) := HX.out.b2.cell 0
                  have q1 : wr.cell? ⟨w.heap.size + 1 + 1, 1, none⟩ = some (.bool u.u1) := HX.out.b2.cell 1
                  have q2 : wr.cell? ⟨w.heap.size + 1 + 1, 2, none⟩ = some (.slice u.nA u.nodes.length u.nc) := HX.out.b2.cell 2
                  have q3 : wr.cell? ⟨w.heap.size + 1 + 1, 3, none⟩ = some (.slice u.iA u.imps.length u.ic) := HX.out.b2.cell 3
                  have q4 : wr.cell? ⟨w.heap.size + 1 + 1, 4, none⟩ = some (.slice u.u4.A u.u4.n u.u4.c) := HX.out.b2.cell 4
                  have q5 : wr.cell? ⟨w.heap.size + 1 + 1, 5, none⟩ = some (.slice u.u5.A u.u5.n u.u5.c) := HX.out.b2.cell 5
                  have q6 : wr.cell? ⟨w.heap.size + 1 + 1, 6, none⟩ = some (.slice u.u6.A u.u6.n u.u6.c) := HX.out.b2.cell 6
                  have q7 : wr.cell? ⟨w.heap.size + 1 + 1, 7, none⟩ = some (.slice u.u7.A u.u7.n u.u7.c) := HX.out.b2.cell 7
                  have q8 : wr.cell? ⟨w.heap.size + 1 + 1, 8, none⟩ = some (.int .i64 u.u8) := HX.out.b2.cell 8
                  have q9 : wr.cell? ⟨w.heap.size + 1 + 1, 9, none⟩ = some (.int .i64 u.u9) := HX.out.b2.cell 9
                  have q10 : wr.cell? ⟨w.heap.size + 1 + 1, 10, none⟩ = some (.int .i64 u.u10) := HX.out.b2.cell 10
                  have q11 : wr.cell? ⟨w.heap.size + 1 + 1, 11, none⟩ = some (.int .i64 u.u11) := HX.out.b2.cell 11
                  have q12 : wr.cell? ⟨w.heap.size + 1 + 1, 12, none⟩ = some (.slice u.u12.A u.u12.n u.u12.c) := HX.out.b2.cell 12
                  have q13 : wr.cell? ⟨w.heap.size + 1 + 1, 13, none⟩ = some (.slice u.u13.A u.u13.n u.u13.c) := HX.out.b2.cell 13
                  have HNX := Lib.hid (HN.out wr HX.out.bel)
                  go_wp2_with fail
                  refine (HNX.out).mono ?_
                  rintro e w6 ⟨v6, rfl, hown6, hb6⟩
                  obtain ⟨A6, c6, rfl, _⟩ := own_reads hown6
                  have HX6 := Lib.hid (HX.out.below hb6)
                  have HW6 := Lib.hid hown6
                  clear hown6 hb6 q0 q1 q2 q3 q4 q5 q6 q7 q8 q9 q10 q11 q12 q13 HX l1 HNX HN
                  have p0 : w6.cell? ⟨w.heap.size, 0, none⟩ = some (.string old.u0) := HX6.out.b0.cell 0
                  have p1 : w6.cell? ⟨w.heap.size, 1, none⟩ = some (.bool old.u1) := HX6.out.b0.cell 1
                  have p2 : w6.cell? ⟨w.heap.size, 2, none⟩ = some (.slice old.nA old.nodes.length old.nc) := HX6.out.b0.cell 2
                  have p3 : w6.cell? ⟨w.heap.size, 3, none⟩ = some (.slice old.iA old.imps.length old.ic) := HX6.out.b0.cell 3
                  have p4 : w6.cell? ⟨w.heap.size, 4, none⟩ = some (.slice old.u4.A old.u4.n old.u4.c) := HX6.out.b0.cell 4
                  have p5 : w6.cell? ⟨w.heap.size, 5, none⟩ = some (.slice old.u5.A old.u5.n old.u5.c) := HX6.out.b0.cell 5
                  have p6 : w6.cell? ⟨w.heap.size, 6, none⟩ = some (.slice old.u6.A old.u6.n old.u6.c) := HX6.out.b0.cell 6
                  have p7 : w6.cell? ⟨w.heap.size, 7, none⟩ = some (.slice old.u7.A old.u7.n old.u7.c) := HX6.out.b0.cell 7
                  have p8 : w6.cell? ⟨w.heap.size, 8, none⟩ = some (.int .i64 old.u8) := HX6.out.b0.cell 8
                  have p9 : w6.cell? ⟨w.heap.size, 9, none⟩ = some (.int .i64 old.u9) := HX6.out.b0.cell 9
                  have p10 : w6.cell? ⟨w.heap.size, 10, none⟩ = some (.int .i64 old.u10) := HX6.out.b0.cell 10
                  have p11 : w6.cell? ⟨w.heap.size, 11, none⟩ = some (.int .i64 old.u11) := HX6.out.b0.cell 11
                  have p12 : w6.cell? ⟨w.heap.size, 12, none⟩ = some (.slice old.u12.A old.u12.n old.u12.c) := HX6.out.b0.cell 12
                  have p13 : w6.cell? ⟨w.heap.size, 13, none⟩ = some (.slice old.u13.A old.u13.n old.u13.c) := HX6.out.b0.cell 13
                  have r0 : w6.cell? ⟨w.heap.size + 1, 0, none⟩ = some (.slice l.l0.A l.l0.n l.l0.c) := HX6.out.b1.cell 0
                  have r1 : w6.cell? ⟨w.heap.size + 1, 1, none⟩ = some (.slice l.sA l.slots.length l.sc) := HX6.out.b1.cell 1
                  have r2 : w6.cell? ⟨w.heap.size + 1, 2, none⟩ = some (.slice l.l2.A l.l2.n l.l2.c) := HX6.out.b1.cell 2
                  have r3 : w6.cell? ⟨w.heap.size + 1, 3, none⟩ = some (.int .i64 l.l3) := HX6.out.b1.cell 3
                  have r4 : w6.cell? ⟨w.heap.size + 1, 4, none⟩ = some (.int .i64 l.l4) := HX6.out.b1.cell 4
                  have r5 : w6.cell? ⟨w.heap.size + 1, 5, none⟩ = some (.int .i64 l.l5) := HX6.out.b1.cell 5
                  have r6 : w6.cell? ⟨w.heap.size + 1, 6, none⟩ = some (.int .i64 l.l6) := HX6.out.b1.cell 6
                  have q0 : w6.cell? ⟨w.heap.size + 1 + 1, 0, none⟩ = some (.string u.u0) := HX6.out.b2.cell 0
                  have q1 : w6.cell? ⟨w.heap.size + 1 + 1, 1, none⟩ = some (.bool u.u1) := HX6.out.b2.cell 1
                  have q2 : w6.cell? ⟨w.heap.size + 1 + 1, 2, none⟩ = some (.slice u.nA u.nodes.length u.nc) := HX6.out.b2.cell 2
                  have q3 : w6.cell? ⟨w.heap.size + 1 + 1, 3, none⟩ = some (.slice u.iA u.imps.length u.ic) := HX6.out.b2.cell 3
                  have q4 : w6.cell? ⟨w.heap.size + 1 + 1, 4, none⟩ = some (.slice u.u4.A u.u4.n u.u4.c) := HX6.out.b2.cell 4
                  have q5 : w6.cell? ⟨w.heap.size + 1 + 1, 5, none⟩ = some (.slice u.u5.A u.u5.n u.u5.c) := HX6.out.b2.cell 5
                  have q6 : w6.cell? ⟨w.heap.size + 1 + 1, 6, none⟩ = some (.slice u.u6.A u.u6.n u.u6.c) := HX6.out.b2.cell 6
                  have q7 : w6.cell? ⟨w.heap.size + 1 + 1, 7, none⟩ = some (.slice u.u7.A u.u7.n u.u7.c) := HX6.out.b2.cell 7
                  have q8 : w6.cell? ⟨w.heap.size + 1 + 1, 8, none⟩ = some (.int .i64 u.u8) := HX6.out.b2.cell 8
                  have q9 : w6.cell? ⟨w.heap.size + 1 + 1, 9, none⟩ = some (.int .i64 u.u9) := HX6.out.b2.cell 9
                  have q10 : w6.cell? ⟨w.heap.size + 1 + 1, 10, none⟩ = some (.int .i64 u.u10) := HX6.out.b2.cell 10
                  have q11 : w6.cell? ⟨w.heap.size + 1 + 1, 11, none⟩ = some (.int .i64 u.u11) := HX6.out.b2.cell 11
                  have q12 : w6.cell? ⟨w.heap.size + 1 + 1, 12, none⟩ = some (.slice u.u12.A u.u12.n u.u12.c) := HX6.out.b2.cell 12
                  have q13 : w6.cell? ⟨w.heap.size + 1 + 1, 13, none⟩ = some (.slice u.u13.A u.u13.n u.u13.c) := HX6.out.b2.cell 13
                  have HKX := Lib.hid (HK.out w6 HX6.out.bel)
                  go_wp2_with fail
                  refine (HKX.out).mono ?_
                  rintro e w7 ⟨g, rfl, hg, hblk, hb7⟩
                  have HX7 := Lib.hid (HX6.out.below hb7)
                  have HG7 := Lib.hid hblk
                  have HR7 := Lib.hid (Reads.of_own (ownsRow_below HW6.out hb7))
                  clear hg hblk hb7 p0 p1 p2 p3 p4 p5 p6 p7 p8 p9 p10 p11 p12 p13 r0 r1 r2 r3 r4 r5 r6 q0 q1 q2 q3 q4 q5 q6 q7 q8 q9 q10 q11 q12 q13 HX6 HW6 HKX HK
                  generalize w7.heap.size = B7 at HR7
                  have q3 : w7.cell? ⟨w.heap.size + 1 + 1, 3, none⟩ = some (.slice u.iA u.imps.length u.ic) := HX7.out.b2.cell 3
                  go_wp2_with fail
                  clear q3
                  go_loopw [11] (fun vn wr => ∃ n : Nat, vn = .int .i64 n ∧ n ≤ u.imps.length ∧ Hid (Boxes w.heap.size old l u w wr) ∧ Hid (Reads wr B7 1 A6 NL.length (intCells NL)) ∧ Hid (Blk wr g 3 (intCells KL).toArray)) (fun vn _ => u.imps.length - (intOf vn).toNat)
                  case atStart => exact ⟨0, rfl, Nat.zero_le _, HX7, HR7, HG7⟩
                  case round =>
                    clear HX7 HR7 HG7
                    obtain ⟨n, rfl, hnm, HX, HR, HG⟩ := hrel
                    by_cases hnl2 : n < u.imps.length
                    · have hnk : n < KL.length := by rw [HKL.out]; exact hnl2
                      have HKN := Lib.hid (HKA.out n hnl2 hnk)
                      have HKDN := Lib.hid (HKD.out n hnk)
                      have HCI : Hid (∀ wr, Below w.heap.size w wr → ∃ b off, u.iA = some ⟨b, off, none⟩ ∧ wr.cell? ⟨b, off + n * 5, none⟩ = some (.string ⟨(u.imps[n]'hnl2).name.toArray⟩) ∧ wr.cell? ⟨b, off + n * 5 + 1, none⟩ = some (.string ⟨(u.imps[n]'hnl2).ver.toArray⟩)) := fun wr hb => by
                        obtain ⟨b, off, h1, h2, h3, -⟩ := cells_of_row5 (HU.out.icells.below hb) hnl2
                        exact ⟨b, off, h1, h2, h3⟩
                      have HGC : Hid (∀ wr, Blk wr g 3 (intCells KL).toArray → wr.cell? ⟨g, n, none⟩ = some (.int .i64 (KL[n]'hnk))) := fun wr h => (h.cell n).trans (by simp [intCells, hnk])
                      generalize u.imps[n]'hnl2 = x at HKN HCI
                      generalize KL[n]'hnk = kn at HKN HKDN HGC
                      have hn0 : (0 : Int) ≤ (n : Int) := by omega
                      have hnI : (n : Int) < (u.imps.length : Int) := by omega
                      have hnI2 : (n : Int) ≤ (u.imps.length : Int) := by omega
                      obtain ⟨wo, rfl⟩ : ∃ wo : World, wo = wr := ⟨_, rfl⟩
                      go_wp2_with fail
                      go_loopw [12, 13] (fun vw vk wr => ∃ (k : Nat) (s : Int), vk = .int .i64 k ∧ vw = .int .i64 s ∧ k ≤ old.imps.length ∧ Hid (s = if (n : Int) ∈ NL then upTo old l x.key k else -1) ∧ Hid (Boxes w.heap.size old l u w wr) ∧ Hid (Reads wr B7 1 A6 NL.length (intCells NL)) ∧ Hid (Blk wr g 3 (intCells KL).toArray)) (fun _ vk _ => old.imps.length - (intOf vk).toNat)
                      case atStart => exact ⟨0, -1, rfl, rfl, Nat.zero_le _, Lib.hid (by rw [upTo_zero]; split <;> rfl), HX, HR, HG⟩
                      case round =>
                        clear HX HR HG
                        obtain ⟨k, s, rfl, rfl, hk, HS, HX, HR, HG⟩ := hrel
                        have o3 : wr.cell? ⟨w.heap.size, 3, none⟩ = some (.slice old.iA old.imps.length old.ic) := HX.out.b0.cell 3
                        by_cases hko : k < old.imps.length
                        · have hks : k < l.slots.length := by rw [HLE.out]; exact hko
                          have HINX : Hid (∀ m, Calls Try.prog 15 #[.slice A6 NL.length c6, .int .i64 (n : Int)] (wr.drewN m) fun e w' => e = .returned (.bool (decide ((n : Int) ∈ NL))) ∧ w' = wr.drewN m) := fun m => (in_any A6 c6 B7 NL n (wr.drewN m) (HR.out.drewN m) (by omega)).mono fun _ _ ⟨h1, h2⟩ => ⟨h1, h2.symm⟩
                          have HSTEP : Hid (∀ s', (s' = if (n : Int) ∈ NL then upTo old l x.key (k + 1) else -1) → ∀ m, (∃ (k' : Nat) (s'' : Int), Value.int .i64 ((k : Int) + 1) = .int .i64 k' ∧ Value.int .i64 s' = .int .i64 s'' ∧ k' ≤ old.imps.length ∧ Hid (s'' = if (n : Int) ∈ NL then upTo old l x.key k' else -1) ∧ Hid (Boxes w.heap.size old l u w (wr.drewN m)) ∧ Hid (Reads (wr.drewN m) B7 1 A6 NL.length (intCells NL)) ∧ Hid (Blk (wr.drewN m) g 3 (intCells KL).toArray))) := fun s' h m =>
                            ⟨k + 1, s', by go_num, rfl, by omega, h, HX.out.drewN m, HR.out.drewN m, HG⟩
                          cases hd : decide ((n : Int) ∈ NL) with
                          | false =>
                            rw [hd] at HINX
                            have HM := Lib.hid (HSTEP.out s (by rw [HS.out, if_neg (of_decide_eq_false hd), if_neg (of_decide_eq_false hd)]))
                            clear hd HSTEP
                            go_wp2_with fail
                            go_quiet ((go_at_call 15; exact Calls.quiet_of_same (HINX.out _)))
                            go_wp2
                            exact ⟨HM.out _, by simp [intOf]; omega⟩
                          | true =>
                            rw [hd] at HINX
                            have hdp := of_decide_eq_true hd
                            rw [if_pos hdp] at HS
                            have HSTEP2 : Hid (∀ s', s' = upTo old l x.key (k + 1) → _) := fun s' h => HSTEP.out s' (by rw [if_pos hdp]; exact h)
                            clear hd hdp HSTEP
                            have HHIT := Lib.hid (upTo_hit old l x.key k hko hks HND0.out)
                            have HMISS := Lib.hid (upTo_miss old l x.key k hko hks)
                            obtain ⟨ob, oo, hAo, d0, d1, -⟩ := cells_of_row5 (HO.out.icells.below HX.out.bel) hko
                            obtain ⟨xb, xo, hAx, n0, n1⟩ := HCI.out wr HX.out.bel
                            obtain ⟨sb, so, hAs, _, hc⟩ := (HL.out.cells.below HX.out.bel).lit (by omega) (by decide)
                            have s0 : wr.cell? ⟨sb, so + k, none⟩ = some (.int .i64 (l.slots[k]'hks)) := hc k _ (by simp [intCells, hks])
                            have q3 : wr.cell? ⟨w.heap.size + 1 + 1, 3, none⟩ = some (.slice u.iA u.imps.length u.ic) := HX.out.b2.cell 3
                            have l1 : wr.cell? ⟨w.heap.size + 1, 1, none⟩ = some (.slice l.sA l.slots.length l.sc) := HX.out.b1.cell 1
                            rw [hAo] at o3
                            rw [hAx] at q3
                            rw [hAs] at l1
                            clear hAo hAx hAs hc
                            generalize old.imps[k]'hko = y at d0 d1 HHIT HMISS
                            generalize l.slots[k]'hks = t at s0 HHIT HMISS
                            have hk0 : (0 : Int) ≤ (k : Int) := by omega
                            have hkI : (k : Int) < (old.imps.length : Int) := by omega
                            have hkI2 : (k : Int) < (l.slots.length : Int) := by omega
                            by_cases h1 : y.name = x.name
                            · have h1b : (y.name == x.name) = true := by simpa using h1
                              by_cases h2 : y.ver = x.ver
                              · have h2b : (y.ver == x.ver) = true := by simpa using h2
                                by_cases h3 : 0 ≤ t
                                · have h3b : decide ((0 : Int) ≤ t) = true := decide_eq_true h3
                                  have HM := Lib.hid (HSTEP2.out t (HHIT.out (Prod.ext h1 h2) h3).symm)
                                  clear h1 h2
                                  go_wp2_with fail
                                  go_quiet ((go_at_call 15; exact Calls.quiet_of_same (HINX.out _)))
                                  go_wp2
                                  exact ⟨HM.out _, by simp [intOf]; omega⟩
                                · have h3b : decide ((0 : Int) ≤ t) = false := decide_eq_false h3
                                  have HM := Lib.hid (HSTEP2.out s (HS.out.trans (HMISS.out (fun c => h3 c.2)).symm))
                                  clear h1 h2 h3
                                  go_wp2_with fail
                                  go_quiet ((go_at_call 15; exact Calls.quiet_of_same (HINX.out _)))
                                  go_wp2
                                  exact ⟨HM.out _, by simp [intOf]; omega⟩
                              · have HM := Lib.hid (HSTEP2.out s (HS.out.trans (HMISS.out (fun c => h2 (congrArg Prod.snd c.1))).symm))
                                have h2b : (y.ver == x.ver) = false := by simpa using h2
                                clear h1 h2
                                go_wp2_with fail
                                go_quiet ((go_at_call 15; exact Calls.quiet_of_same (HINX.out _)))
                                go_wp2
                                exact ⟨HM.out _, by simp [intOf]; omega⟩
                            · have HM := Lib.hid (HSTEP2.out s (HS.out.trans (HMISS.out (fun c => h1 (congrArg Prod.fst c.1))).symm))
                              have h1b : (y.name == x.name) = false := by simpa using h1
                              clear h1
                              go_wp2_with fail
                              go_quiet ((go_at_call 15; exact Calls.quiet_of_same (HINX.out _)))
                              go_wp2
                              exact ⟨HM.out _, by simp [intOf]; omega⟩
                        · obtain rfl : k = old.imps.length := by omega
                          obtain rfl : s = kn := HS.out.trans HKN.out.symm
                          have g0 := HGC.out wr HG.out
                          have hsk : ((s : Int) != s) = false := by simp
                          have HGR : Hid (Reads wr wr.heap.size 1 (some ⟨g, 0, none⟩) KL.length (intCells KL)) := Reads.of_blk HG.out (by rw [intCells_length]; omega)
                          have HINX : Hid (∀ m, Calls Try.prog 15 #[.slice (some ⟨g, 0, none⟩) n u.imps.length, .int .i64 s] (wr.drewN m) fun e w' => e = .returned (.bool (decide (s ∈ KL.take n))) ∧ w' = wr.drewN m) := fun m => in_take (by omega) (HGR.out.drewN m) (by have := HKL.out; omega) s
                          by_cases h3 : 0 ≤ s
                          · have h3b : decide ((0 : Int) ≤ s) = true := decide_eq_true h3
                            rw [decide_eq_false (HKDN.out h3)] at HINX
                            clear HKN HKDN HS
                            go_wp2_with fail
                            go_quiet ((go_at_call 15; exact Calls.quiet_of_same (HINX.out _)))
                            go_wp2
                            exact ⟨⟨n + 1, by go_num, by omega, HX.out.drewN _, HR.out.drewN _, HG⟩, by simp [intOf]; omega⟩
                          · have h3b : decide ((0 : Int) ≤ s) = false := decide_eq_false h3
                            clear HKN HKDN HS h3
                            go_wp2_with fail
                            go_quiet (fail)
                            go_wp2
                            exact ⟨⟨n + 1, by go_num, by omega, HX.out.drewN _, HR.out.drewN _, HG⟩, by simp [intOf]; omega⟩
                    · obtain rfl : n = u.imps.length := by omega
                      go_wp2
                      go_ret
                      exact ⟨rfl, HX.out.bel⟩
        · have hq1 : ((l.slots.length : Int) != (old.imps.length : Int)) = true := by simp; omega
          have hq2 : (l.slots.length != old.imps.length) = true := by simp; omega
          have hq3 : ((l.slots.length : Int) == (old.imps.length : Int)) = false := by simp; omega
          have hq4 : (l.slots.length == old.imps.length) = false := by simp; omega
          clear hle
          go_wp2
          go_ret
          exact ⟨rfl, HX3.out.bel⟩

set_option maxRecDepth 100000 in
theorem lifted (os : Os) (started : os.Started) (H : Type) (enc : TypeId × Value → H) :
    ReturnsInHanded {} Try.checked os 5 .any (Rows.slotKeepsSpec.pre6 enc Try.prog Try.f5 Rows.slotKeepsRow.domain false) (Rows.slotKeepsSpec.post enc Try.prog Try.f5 false true false false) := by
  refine returnsInHanded_of_change (C := Try.checked) own started (by kernel_rfl) Try.func5
    (ChangeSpec.witness6 (enc := enc) (C := Try.checked) false ⟨#[], #[.agg #[.string ByteArray.empty, .bool false, .slice none 0 0, .slice none 0 0, .slice none 0 0, .slice none 0 0, .slice none 0 0, .slice none 0 0, .int .i64 0, .int .i64 0, .int .i64 0, .int .i64 0, .slice none 0 0, .slice none 0 0], .agg #[.slice none 0 0, .slice none 0 0, .slice none 0 0, .int .i64 0, .int .i64 0, .int .i64 0, .int .i64 0], .agg #[.string ByteArray.empty, .bool false, .slice none 0 0, .slice none 0 0, .slice none 0 0, .slice none 0 0, .slice none 0 0, .slice none 0 0, .int .i64 0, .int .i64 0, .int .i64 0, .int .i64 0, .slice none 0 0, .slice none 0 0]], []⟩ 8 (by kernel_rfl) (by kernel_rfl) (by kernel_rfl) (by kernel_rfl)) ?_
  intro W base args ds gs before hval0 hW hcnd _
  have hval : ∀ (j : Nat) t v, Try.f5.params[j]? = some t → args[j]? = some v → Value.okWide Try.prog W .any base t v := hval0
  have hW' := hW
  obtain ⟨p, q, hA0, hV, rfl, hfz, hnd⟩ := hW
  have hA : DataW.TrodAll enc Try.prog W 0 (fun _ => true) true Try.f5.params.toList args.toList ds p := hA0
  rw [Try.params5] at hA hval
  obtain ⟨v0, vs0, d0, ds0, p0, q0, hargs, rfl, rfl, h0, r0⟩ := trodAll_cons hA
  obtain ⟨v1, vs1, d1, ds1, p1, q1, rfl, rfl, rfl, h1, r1⟩ := trodAll_cons r0
  obtain ⟨v2, vs2, d2, ds2, p2, q2, rfl, rfl, rfl, h2, r2⟩ := trodAll_cons r1
  obtain ⟨rfl, rfl, rfl⟩ := trodAll_nil r2
  obtain rfl : args = #[v0, v1, v2] := by cases args; simp_all
  obtain ⟨rfl, rfl⟩ := trodVars_none hV
  have k0 := h0
  have lt0 : ∀ x ∈ p0, x.block < W.heap.size := by obtain ⟨m, hm⟩ := k0; exact DataW.trod_lt m _ _ _ hm
  have o0 := openUnit (hval 0 32 v0 rfl rfl) h0
  have k1 := h1
  have lt1 : ∀ x ∈ p1, x.block < W.heap.size := by obtain ⟨m, hm⟩ := k1; exact DataW.trod_lt m _ _ _ hm
  have o1 := openLayC (hval 1 36 v1 rfl rfl) h1
  have k2 := h2
  have lt2 : ∀ x ∈ p2, x.block < W.heap.size := by obtain ⟨m, hm⟩ := k2; exact DataW.trod_lt m _ _ _ hm
  have o2 := openUnit (hval 2 32 v2 rfl rfl) h2
  clear hA0 hval0
  refine (walk v0 v1 v2 W o0 o1 o2).mono fun e W' ⟨he, bel⟩ => ?_
  subst he
  exact ⟨_, rfl, _, _, _, [], _, [], hW', trodAll_mk1 (shut_bool Try.underlying4 _), (trodAll_cons_mk (Below.trod laidOut (by kernel_rfl) (of_decide_eq_true (by kernel_rfl)) k0 bel lt0) (trodAll_cons_mk (Below.trod laidOut (by kernel_rfl) (of_decide_eq_true (by kernel_rfl)) k1 bel lt1) (trodAll_cons_mk (Below.trod laidOut (by kernel_rfl) (of_decide_eq_true (by kernel_rfl)) k2 bel lt2) trodAll_mk0))), rfl, bel.frame _, fun h => by cases h⟩

theorem over : Rows.slotKeepsRow.holds Try.pinned (OpenSpec.ofChange Rows.slotKeepsSpec) :=
  OpenClaim.holds_of_wide 5 Try.f5 rfl rfl rfl rfl rfl rfl rfl ⟨rfl, rfl, rfl, rfl, rfl⟩ rfl rfl rfl rfl rfl (by kernel_rfl) Try.func5 (by kernel_rfl)
    (of_decide_eq_true (by kernel_rfl)) (by unfold Func.isWrapper; first | (rw [if_pos (by decide +kernel)]; kernel_rfl) | (rw [if_neg (by decide +kernel)]; exact ⟨rfl, rfl⟩))
    (fun os started H enc _ => lifted os started H enc)

/-- The statement. -/
theorem proved : Rows.SlotKeepsSaid := over
#print axioms proved
end Go.Proofs.Ytdmomdaeiaeolaa.slotKeeps
