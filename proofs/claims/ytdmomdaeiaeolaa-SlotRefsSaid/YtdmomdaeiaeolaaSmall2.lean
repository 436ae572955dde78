/-
  Contract of the statements' small example: it tells true.
-/
import Derived.Test.YtdmomdaeiaeolaaSmall
namespace Go.Proofs.Ytdmomdaeiaeolaa
open Go.RowKit

theorem three_u (w : World) : Calls Try.prog 17 #[] w fun e w' => ∃ u : UnitD, e = .returned (.agg u.parts.toArray) ∧ u.Ok w' w'.heap.size ∧ Below w.heap.size w w' ∧ u.need = [0, 2] ∧ u.imps.length = 3 ∧ ∀ ib sb, keepL (old3 ib) (lay3 sb) u = [-1, -1, 264] := by
  refine (three_any w).mono ?_
  rintro e w' ⟨nb, rb, ib, rfl, hok, hb⟩
  exact ⟨_, rfl, hok, hb, three_need nb rb ib, rfl, fun ib' sb => keep3 nb rb ib ib' sb⟩

theorem Same_refl (A A' : Option Addr) (c c' B B' : Nat) (xs : List Int) (w : World) (h : Reads w B 1 A xs.length (intCells xs)) (h' : Reads w B' 1 A' xs.length (intCells xs)) (hl : xs.length ≤ 9223372036854775807)
    (hB : B ≤ w.heap.size) (hB' : B' ≤ w.heap.size) :
    Calls Try.prog 10 #[.slice A xs.length c, .slice A' xs.length c'] w fun e w' => e = .returned (.bool true) ∧ Below w.heap.size w w' := by
  have hd : decide (xs = xs) = true := decide_eq_true rfl
  have h1 := Same_any A A' c c' B B' xs xs w h h' hl hB hB'
  rw [hd] at h1
  exact h1

set_option maxHeartbeats 8000000 in
set_option maxRecDepth 100000 in
theorem small_any (w : World) : Calls Try.prog 8 #[] w fun e w' => e = .returned (.bool true) ∧ Below w.heap.size w w' := by
  have HT := Lib.hid (three_u w)
  have HN0 := Lib.hid (fun w' => Need_any unit0 w'.heap.size w' unit0_ok (Nat.le_refl _) (by decide))
  simp only [UnitD.parts, unit0, nilS] at HT HN0
  go_enter Try.func8, Try.ntmps8
  go_wp2_with fail
  refine (HT.out).mono ?_
  rintro e w1 ⟨u, rfl, hok, hb1, hneed, hilen, hkeep⟩
  have HOK := Lib.hid hok
  have HB1 := Lib.hid hb1
  have HK := Lib.hid hkeep
  have HN := Lib.hid (fun (w' : World) (hb : Below w1.heap.size w1 w') => Need_any u w1.heap.size w' (hok.below hb) hb.size (by omega))
  have HND := Lib.hid hneed
  have HIL := Lib.hid hilen
  clear hok hb1 hkeep hneed hilen HT
  simp only [UnitD.parts] at HN
  rw [HND.out] at HN
  go_wp2_with fail
  refine Calls.mono (HN.out _ (((((((Below.refl _ _).alloc (Nat.le_refl _) _).alloc (by simp) _).alloc (by simp; omega) _).alloc (by simp; omega) _).alloc (by simp; omega) _))) ?_
  rintro e w2 ⟨v2, rfl, hown2, hb2⟩
  have hbu : Blk w2 w1.heap.size 32 u.parts.toArray := Blk.below (((((Blk.new w1 32 _).alloc _).alloc _).alloc _).alloc _) hb2 (by simp; omega)
  have hbi : Blk w2 (w1.heap.size + 1) 57 ([imp3 103, imp3 104].flatMap ImpD.parts).toArray := Blk.below ((((Blk.newAt (by simp)).alloc _).alloc _).alloc _) hb2 (by simp <;> omega)
  have hbo : Blk w2 (w1.heap.size + 1 + 1) 32 (old3 (w1.heap.size + 1)).parts.toArray := Blk.below (((Blk.newAt (by simp)).alloc _).alloc _) hb2 (by simp <;> omega)
  have hbs : Blk w2 (w1.heap.size + 1 + 1 + 1) 3 (intCells [256, 264]).toArray := Blk.below ((Blk.newAt (by simp)).alloc _) hb2 (by simp <;> omega)
  have hbl : Blk w2 (w1.heap.size + 1 + 1 + 1 + 1) 36 (lay3 (w1.heap.size + 1 + 1 + 1)).parts.toArray := Blk.below (Blk.newAt (by simp)) hb2 (by simp <;> omega)
  have hb12 : Below w1.heap.size w1 w2 := (((((((Below.refl _ _).alloc (Nat.le_refl _) _).alloc (by simp) _).alloc (by simp; omega) _).alloc (by simp; omega) _).alloc (by simp; omega) _)).trans (hb2.mono (by simp; omega))
  have HBU := Lib.hid hbu
  have HBI := Lib.hid hbi
  have HBO := Lib.hid hbo
  have HBS := Lib.hid hbs
  have HBL := Lib.hid hbl
  have HB2 := Lib.hid hb12
  clear hbu hbi hbo hbs hbl hb12 hb2
  obtain ⟨A2, c2, rfl, _⟩ := own_reads hown2
  have HOW := Lib.hid hown2
  clear hown2
  go_wp2_with fail
  refine Calls.mono (Same_refl A2 _ c2 2 _ _ [0, 2] _ (Reads.of_own (HOW.out.alloc _)) (Reads.of_blk (cs := intCells [0, 2]) (Blk.new _ _ _) rfl) (by decide) (Nat.le_refl _) (Nat.le_refl _)) ?_
  rintro e w3 ⟨rfl, hb3⟩
  have HBU3 := Lib.hid ((HBU.out.alloc (.cells #[.int .i64 0, .int .i64 2] 3)).below hb3 (HBU.out.alloc _).lt)
  have HBI3 := Lib.hid ((HBI.out.alloc (.cells #[.int .i64 0, .int .i64 2] 3)).below hb3 (HBI.out.alloc _).lt)
  have HBO3 := Lib.hid ((HBO.out.alloc (.cells #[.int .i64 0, .int .i64 2] 3)).below hb3 (HBO.out.alloc _).lt)
  have HBS3 := Lib.hid ((HBS.out.alloc (.cells #[.int .i64 0, .int .i64 2] 3)).below hb3 (HBS.out.alloc _).lt)
  have HBL3 := Lib.hid ((HBL.out.alloc (.cells #[.int .i64 0, .int .i64 2] 3)).below hb3 (HBL.out.alloc _).lt)
  have HB3 := Lib.hid ((HB2.out.alloc HB2.out.size (.cells #[.int .i64 0, .int .i64 2] 3)).trans (hb3.mono (by have := HB2.out.size; simp; omega)))
  clear hb3 HBU HBI HBO HBS HBL HB2 HOW HN
  have p0 : w3.cell? ⟨w1.heap.size, 0, none⟩ = some (.string u.u0) := HBU3.out.cell 0
  have p1 : w3.cell? ⟨w1.heap.size, 1, none⟩ = some (.bool u.u1) := HBU3.out.cell 1
  have p2 : w3.cell? ⟨w1.heap.size, 2, none⟩ = some (.slice u.nA u.nodes.length u.nc) := HBU3.out.cell 2
  have p3 : w3.cell? ⟨w1.heap.size, 3, none⟩ = some (.slice u.iA u.imps.length u.ic) := HBU3.out.cell 3
  have p4 : w3.cell? ⟨w1.heap.size, 4, none⟩ = some (.slice u.u4.A u.u4.n u.u4.c) := HBU3.out.cell 4
  have p5 : w3.cell? ⟨w1.heap.size, 5, none⟩ = some (.slice u.u5.A u.u5.n u.u5.c) := HBU3.out.cell 5
  have p6 : w3.cell? ⟨w1.heap.size, 6, none⟩ = some (.slice u.u6.A u.u6.n u.u6.c) := HBU3.out.cell 6
  have p7 : w3.cell? ⟨w1.heap.size, 7, none⟩ = some (.slice u.u7.A u.u7.n u.u7.c) := HBU3.out.cell 7
  have p8 : w3.cell? ⟨w1.heap.size, 8, none⟩ = some (.int .i64 u.u8) := HBU3.out.cell 8
  have p9 : w3.cell? ⟨w1.heap.size, 9, none⟩ = some (.int .i64 u.u9) := HBU3.out.cell 9
  have p10 : w3.cell? ⟨w1.heap.size, 10, none⟩ = some (.int .i64 u.u10) := HBU3.out.cell 10
  have p11 : w3.cell? ⟨w1.heap.size, 11, none⟩ = some (.int .i64 u.u11) := HBU3.out.cell 11
  have p12 : w3.cell? ⟨w1.heap.size, 12, none⟩ = some (.slice u.u12.A u.u12.n u.u12.c) := HBU3.out.cell 12
  have p13 : w3.cell? ⟨w1.heap.size, 13, none⟩ = some (.slice u.u13.A u.u13.n u.u13.c) := HBU3.out.cell 13
  have q0 : w3.cell? ⟨w1.heap.size + 1 + 1, 0, none⟩ = some (.string ⟨#[]⟩) := HBO3.out.cell 0
  have q1 : w3.cell? ⟨w1.heap.size + 1 + 1, 1, none⟩ = some (.bool false) := HBO3.out.cell 1
  have q2 : w3.cell? ⟨w1.heap.size + 1 + 1, 2, none⟩ = some (.slice none 0 0) := HBO3.out.cell 2
  have q3 : w3.cell? ⟨w1.heap.size + 1 + 1, 3, none⟩ = some (.slice (some ⟨w1.heap.size + 1, 0, none⟩) 2 2) := HBO3.out.cell 3
  have q4 : w3.cell? ⟨w1.heap.size + 1 + 1, 4, none⟩ = some (.slice none 0 0) := HBO3.out.cell 4
  have q5 : w3.cell? ⟨w1.heap.size + 1 + 1, 5, none⟩ = some (.slice none 0 0) := HBO3.out.cell 5
  have q6 : w3.cell? ⟨w1.heap.size + 1 + 1, 6, none⟩ = some (.slice none 0 0) := HBO3.out.cell 6
  have q7 : w3.cell? ⟨w1.heap.size + 1 + 1, 7, none⟩ = some (.slice none 0 0) := HBO3.out.cell 7
  have q8 : w3.cell? ⟨w1.heap.size + 1 + 1, 8, none⟩ = some (.int .i64 0) := HBO3.out.cell 8
  have q9 : w3.cell? ⟨w1.heap.size + 1 + 1, 9, none⟩ = some (.int .i64 0) := HBO3.out.cell 9
  have q10 : w3.cell? ⟨w1.heap.size + 1 + 1, 10, none⟩ = some (.int .i64 0) := HBO3.out.cell 10
  have q11 : w3.cell? ⟨w1.heap.size + 1 + 1, 11, none⟩ = some (.int .i64 0) := HBO3.out.cell 11
  have q12 : w3.cell? ⟨w1.heap.size + 1 + 1, 12, none⟩ = some (.slice none 0 0) := HBO3.out.cell 12
  have q13 : w3.cell? ⟨w1.heap.size + 1 + 1, 13, none⟩ = some (.slice none 0 0) := HBO3.out.cell 13
  have r0 : w3.cell? ⟨w1.heap.size + 1 + 1 + 1 + 1, 0, none⟩ = some (.slice none 0 0) := HBL3.out.cell 0
  have r1 : w3.cell? ⟨w1.heap.size + 1 + 1 + 1 + 1, 1, none⟩ = some (.slice (some ⟨w1.heap.size + 1 + 1 + 1, 0, none⟩) 2 2) := HBL3.out.cell 1
  have r2 : w3.cell? ⟨w1.heap.size + 1 + 1 + 1 + 1, 2, none⟩ = some (.slice none 0 0) := HBL3.out.cell 2
  have r3 : w3.cell? ⟨w1.heap.size + 1 + 1 + 1 + 1, 3, none⟩ = some (.int .i64 0) := HBL3.out.cell 3
  have r4 : w3.cell? ⟨w1.heap.size + 1 + 1 + 1 + 1, 4, none⟩ = some (.int .i64 0) := HBL3.out.cell 4
  have r5 : w3.cell? ⟨w1.heap.size + 1 + 1 + 1 + 1, 5, none⟩ = some (.int .i64 0) := HBL3.out.cell 5
  have r6 : w3.cell? ⟨w1.heap.size + 1 + 1 + 1 + 1, 6, none⟩ = some (.int .i64 0) := HBL3.out.cell 6
  have HKP := Lib.hid (Keep_any (old3 (w1.heap.size + 1)) (lay3 (w1.heap.size + 1 + 1 + 1)) u w3.heap.size w3 (old3_ok HBI3.out) (lay3_ok HBS3.out) ((HOK.out.below HB3.out).more HB3.out.size) (Nat.le_refl _) (by rw [HIL.out]; decide) (by decide : 2 ≤ 1048576))
  rw [HK.out, HIL.out] at HKP
  simp only [UnitD.parts, LayD.parts, old3, lay3, nilS] at HKP
  rw [HIL.out] at p3 HKP
  go_wp2_with fail
  refine Calls.mono (HKP.out) ?_
  rintro e w4 ⟨g, rfl, hg, hblk, hb4⟩
  have HB4 := Lib.hid (HB3.out.trans (hb4.mono HB3.out.size))
  have HR4 := Lib.hid hblk
  have HN1 := Lib.hid HN0.out
  clear hblk hb4 HKP
  go_wp2_with fail
  refine Calls.mono (Same_refl _ _ 3 3 _ _ [-1, -1, 264] _ (Reads.of_blk (HR4.out.alloc _) rfl) (Reads.of_blk (cs := intCells [-1, -1, 264]) (Blk.new _ _ _) rfl) (by decide) (Nat.le_refl _) (Nat.le_refl _)) ?_
  rintro e w5 ⟨rfl, hb5⟩
  have HB5 := Lib.hid ((HB4.out.alloc HB4.out.size (.cells #[.int .i64 (-1), .int .i64 (-1), .int .i64 264] 3)).trans (hb5.mono (by have := HB4.out.size; simp; omega)))
  clear hb5
  go_wp2_with fail
  refine Calls.mono (HN0.out _) ?_
  rintro e w6 ⟨v6, rfl, hown6, hb6⟩
  obtain ⟨A6, c6, rfl, _⟩ := own_reads hown6
  have HB6 := Lib.hid (HB5.out.trans (hb6.mono HB5.out.size))
  clear hown6 hb6
  go_wp2
  go_ret
  exact ⟨rfl, HB1.out.trans (HB6.out.mono HB1.out.size)⟩

end Go.Proofs.Ytdmomdaeiaeolaa
