/- Contracts: WaterShare of the reference. -/
import Derived.Test.YtkblbppemjnpdaaShareI
import Derived.Test.YtkblbppemjnpdaaFracC
namespace Go.Proofs.Ytkblbppemjnpdaa
open Go.RowKit
set_option linter.unusedVariables false
set_option linter.unusedSimpArgs false

theorem set4 {w : World} {g : Nat} {x y u v a b c d : Value} (o0 : w.cell? ⟨g, 0, none⟩ = some a) (o1 : w.cell? ⟨g, 1, none⟩ = some b) (o2 : w.cell? ⟨g + 1, 0, none⟩ = some c) (o3 : w.cell? ⟨g + 1, 1, none⟩ = some d) :
    ((((w.setCell ⟨g, 0, none⟩ x).setCell ⟨g, 1, none⟩ y).setCell ⟨g + 1, 0, none⟩ u).setCell ⟨g + 1, 1, none⟩ v).cell? ⟨g, 0, none⟩ = some x ∧ ((((w.setCell ⟨g, 0, none⟩ x).setCell ⟨g, 1, none⟩ y).setCell ⟨g + 1, 0, none⟩ u).setCell ⟨g + 1, 1, none⟩ v).cell? ⟨g, 1, none⟩ = some y ∧
      ((((w.setCell ⟨g, 0, none⟩ x).setCell ⟨g, 1, none⟩ y).setCell ⟨g + 1, 0, none⟩ u).setCell ⟨g + 1, 1, none⟩ v).cell? ⟨g + 1, 0, none⟩ = some u ∧ ((((w.setCell ⟨g, 0, none⟩ x).setCell ⟨g, 1, none⟩ y).setCell ⟨g + 1, 0, none⟩ u).setCell ⟨g + 1, 1, none⟩ v).cell? ⟨g + 1, 1, none⟩ = some v := by
  refine ⟨?_, ?_, ?_, ?_⟩
  · rw [World.cell?_setCell_other _ _ _ _ (by simp), World.cell?_setCell_other _ _ _ _ (by simp)]; exact set2a o0
  · rw [World.cell?_setCell_other _ _ _ _ (by simp), World.cell?_setCell_other _ _ _ _ (by simp)]; exact set2b o1
  · exact set2a (u := c) (by rw [World.cell?_setCell_other _ _ _ _ (by simp), World.cell?_setCell_other _ _ _ _ (by simp)]; exact o2)
  · exact set2b (v := d) (by rw [World.cell?_setCell_other _ _ _ _ (by simp), World.cell?_setCell_other _ _ _ _ (by simp)]; exact o3)

theorem wr_small {a h : Int} (hv : wvB a h = true) : 0 ≤ wrN a h ∧ wrN a h ≤ 1000 ∧ 1 ≤ wrD a h ∧ wrD a h ≤ 1000 := by
  obtain ⟨_, g, _, _, _, k1, k2, k3, k4, _⟩ := wr_facts hv
  omega

set_option maxHeartbeats 1600000 in
theorem specWaterShare_any (a1 h1 a2 h2 n d : Int) (w : World) : Calls Try.prog 40 #[.agg #[.int .i64 a1, .int .i64 h1], .agg #[.int .i64 a2, .int .i64 h2], .agg #[.int .i64 n, .int .i64 d]] w (FrPost w (shN a1 h1 a2 h2 n d) (shD a1 h1 a2 h2 n d) (shOk a1 h1 a2 h2 n d)) := by
  go_enter Try.func40, Try.ntmps40
  go_wp2_with fail
  refine (specWaterRatio_any _ _ _).mono ?_
  rintro e w1 ⟨rfl, b1⟩
  obtain ⟨hc1, hf1⟩ := blw b1
  have C1 := Below.step4 (Below.refl w.heap.size w) b1
  obtain ⟨z1, z2, z3, z4⟩ := Below.lt4 b1
  go_wp2_with fail
  refine (specWaterRatio_any _ _ _).mono ?_
  rintro e w2 ⟨rfl, b2⟩
  have D2 := Below.step1 b1 b2
  have X2 := b2
  have C2 := Below.step1 C1 b2
  obtain ⟨hc2, hf2⟩ := blw D2
  obtain ⟨z1, z2, z3, z4⟩ := Below.lt4 D2
  obtain ⟨k0, k1, l1⟩ := blk_cells X2
  clear hc1 hf1 b1 C1 b2
  by_cases hv : wvB a1 h1 = true
  · have V1 := Lib.hid hv
    rw [(wr_facts hv).1]; clear hv
    by_cases hv : wvB a2 h2 = true
    · have V2 := Lib.hid hv
      rw [(wr_facts hv).1]; clear hv
      go_wp2_with fail
      refine (specFracValid_any _ _ _).mono ?_
      rintro e w3 ⟨rfl, b3⟩
      have D3 := Below.step1 D2 b3
      have C3 := Below.step1 C2 b3
      have X3 := Below.step1 X2 b3
      obtain ⟨hc3, hf3⟩ := blw D3
      obtain ⟨k0, k1, l1⟩ := blk_cells X3
      obtain ⟨k2, k3, l2⟩ := blk_cells b3
      obtain ⟨z1, z2, z3, z4⟩ := Below.lt4 D3
      clear hc2 hf2 D2 C2 X2
      by_cases hv : fvB n d = true
      · have V3 := Lib.hid hv
        rw [hv]; clear hv
        obtain ⟨s1, s2, s3, s4⟩ := sh_spec V1.out V2.out V3.out
        have S1 := Lib.hid s1; have S2 := Lib.hid s2; have S3 := Lib.hid s3; have S4 := Lib.hid s4
        clear s1 s2 s3 s4
        obtain ⟨x5, x6, x7, x8, x9⟩ := fv_bd V3.out
        have FX := Lib.hid (wr_fv V1.out)
        have FY := Lib.hid (wr_fv V2.out)
        obtain ⟨u1, u2, u3, u4⟩ := wr_small V1.out
        obtain ⟨v1, v2, v3, v4⟩ := wr_small V2.out
        generalize wrN a1 h1 = x1 at *
        generalize wrD a1 h1 = x2 at *
        generalize wrN a2 h2 = y1 at *
        generalize wrD a2 h2 = y2 at *
        obtain ⟨⟨m1, m2⟩, ⟨m3, m4⟩, ⟨m5, m6⟩, ⟨m7, m8⟩, ⟨m9, m10⟩, ⟨m11, m12⟩⟩ := sh_bd (a1 := x2) (h1 := x1) (a2 := y2) (h2 := y1) (n := n) (d := d) (by omega) (by omega) (by omega) (by omega) (by omega) (by omega) (by omega) (by omega) (by omega) (by omega) (by omega) (by omega)
        clear x9
        by_cases he : x1 = y1 ∧ x2 = y2
        · have E := Lib.hid (sh_no (S1.out he))
          obtain ⟨rfl, rfl⟩ := he
          have G := Lib.hid C3
          clear D3 C3 X3 b3
          go_wp2_with fail
          refine bodyPost_ret (v := .tuple #[.agg #[.int .i64 0, .int .i64 0], .bool false]) (by simp [results, Try.results40, go_sem, hc3]) rfl ⟨by rw [E.out.1, E.out.2.1, E.out.2.2], ?_⟩
          repeat' (first | exact G.out | (refine Below.alloc ?_ ?_ _) | (refine Below.setCell ?_ ?_ _))
          all_goals (first | omega | (simp [World.setCell]; omega) | (simp <;> omega))
        · have hne := Lib.hid he
          have hp0 := Lib.hid (S2.out he).1
          have Y3 := b3
          by_cases hd1 : x1 = y1
          · have hd2 : x2 ≠ y2 := fun h => he ⟨hd1, h⟩
            subst hd1
            clear he
            go_wp2_with fail
            refine (specFracLess_any _ _ _ _ _).mono ?_
            rintro e w4 ⟨rfl, b4⟩
            have D4 := Below.step2 D3 b4
            have C4 := Below.step2 C3 b4
            have X4 := Below.step2 X3 b4
            have Y4 := Below.step2 Y3 b4
            obtain ⟨hc4, hf4⟩ := blw D4
            obtain ⟨k0, k1, l1⟩ := blk_cells X4
            obtain ⟨k2, k3, l2⟩ := blk_cells Y4
            obtain ⟨he4, hg4⟩ := blw b4
            obtain ⟨yy4, yy5⟩ := Below.lt2 b4
            obtain ⟨z1, z2, z3, z4⟩ := Below.lt4 D4
            clear hc3 hf3 D3 C3 X3 Y3 b3
            rw [show flB x1 y2 x1 x2 = decide (x1 * x2 < x1 * y2) by unfold flB; rw [FY.out, FX.out]; simp]
            have q0 : w4.cell? ⟨w3.heap.size, 0, none⟩ = some (.int .i64 x1) := by rw [he4 _ _ (by simp <;> omega)]; simp [go_sem]
            have q1 : w4.cell? ⟨w3.heap.size, 1, none⟩ = some (.int .i64 x2) := by rw [he4 _ _ (by simp <;> omega)]; simp [go_sem]
            have q2 : w4.cell? ⟨w3.heap.size + 1, 0, none⟩ = some (.int .i64 x1) := by rw [he4 _ _ (by simp <;> omega)]; simp [go_sem]
            have q3 : w4.cell? ⟨w3.heap.size + 1, 1, none⟩ = some (.int .i64 y2) := by rw [he4 _ _ (by simp <;> omega)]; simp [go_sem]
            rcases Int.lt_or_lt_of_ne hp0.out with hp | hp
            · have d0 : decide (x1 * x2 < x1 * y2) = false := by simp; omega
              rw [d0]
              have hp := Lib.hid hp
              clear d0 he4 hg4 b4
              go_wp2_with fail
              refine (specFracLess_any _ _ _ _ _).mono ?_
              rintro e w5 ⟨rfl, b5⟩
              have D5 := Below.step0 D4 b5
              have C5 := Below.step0 C4 b5
              have X5 := Below.step0 X4 b5
              have Y5 := Below.step0 Y4 b5
              obtain ⟨hc5, hf5⟩ := blw D5
              obtain ⟨k0, k1, l1⟩ := blk_cells X5
              obtain ⟨k2, k3, l2⟩ := blk_cells Y5
              have q2 := (b5.cell (World.block_lt_of_cell? _ _ q2)).trans q2
              have q3 := (b5.cell (World.block_lt_of_cell? _ _ q3)).trans q3
              obtain ⟨z1, z2, z3, z4⟩ := Below.lt4 D5
              clear hc4 hf4 D4 C4 X4 Y4 b5 q0 q1
              rw [show flB n d x1 x2 = decide (n * x2 < x1 * d) by unfold flB; rw [V3.out, FX.out]; simp]
              by_cases hr : n * x2 < x1 * d
              · have E := Lib.hid (sh_no (show shOk a1 h1 a2 h2 n d = false by rw [S4.out hp.out]; simp [hr]))
                have G := Lib.hid C5
                rw [decide_eq_true hr]
                clear D5 C5 X5 Y5 hr
                go_wp2_with fail
                refine bodyPost_ret (v := .tuple #[.agg #[.int .i64 0, .int .i64 0], .bool false]) (by simp [results, Try.results40, go_sem, hc5]) rfl ⟨by rw [E.out.1, E.out.2.1, E.out.2.2], ?_⟩
                repeat' (first | exact G.out | (refine Below.alloc ?_ ?_ _) | (refine Below.setCell ?_ ?_ _))
                all_goals (first | omega | (simp [World.setCell]; omega) | (simp <;> omega))
              · have R1 := Lib.hid hr
                rw [decide_eq_false hr]
                clear hr
                go_wp2_with fail
                refine (specFracLess_any _ _ _ _ _).mono ?_
                rintro e w6 ⟨rfl, b6⟩
                have D6 := Below.step0 D5 b6
                have C6 := Below.step0 C5 b6
                have X6 := Below.step0 X5 b6
                have Y6 := Below.step0 Y5 b6
                obtain ⟨hc6, hf6⟩ := blw D6
                obtain ⟨k0, k1, l1⟩ := blk_cells X6
                obtain ⟨k2, k3, l2⟩ := blk_cells Y6
                obtain ⟨z1, z2, z3, z4⟩ := Below.lt4 D6
                clear hc5 hf5 D5 C5 X5 Y5 b6 q2 q3
                rw [show flB x1 y2 n d = decide (x1 * d < n * y2) by unfold flB; rw [V3.out, FY.out]; simp]
                by_cases hr2 : x1 * d < n * y2
                · have E := Lib.hid (sh_no (show shOk a1 h1 a2 h2 n d = false by rw [S4.out hp.out]; simp [hr2]))
                  have G := Lib.hid C6
                  rw [decide_eq_true hr2]
                  clear D6 C6 X6 Y6 hr2
                  go_wp2_with fail
                  refine bodyPost_ret (v := .tuple #[.agg #[.int .i64 0, .int .i64 0], .bool false]) (by simp [results, Try.results40, go_sem, hc6]) rfl ⟨by rw [E.out.1, E.out.2.1, E.out.2.2], ?_⟩
                  repeat' (first | exact G.out | (refine Below.alloc ?_ ?_ _) | (refine Below.setCell ?_ ?_ _))
                  all_goals (first | omega | (simp [World.setCell]; omega) | (simp <;> omega))
                · have E : Hid (shN a1 h1 a2 h2 n d = foN ((n * y2 - x1 * d) * x2) (d * (x1 * y2 - x1 * x2)) ∧ shD a1 h1 a2 h2 n d = foD ((n * y2 - x1 * d) * x2) (d * (x1 * y2 - x1 * x2)) ∧ shOk a1 h1 a2 h2 n d = foOk ((n * y2 - x1 * d) * x2) (d * (x1 * y2 - x1 * x2))) := by
                    have o : shOk a1 h1 a2 h2 n d = foOk ((n * y2 - x1 * d) * x2) (d * (x1 * y2 - x1 * x2)) := by rw [S4.out hp.out]; simp [R1.out, hr2]
                    obtain ⟨_, e1, e2⟩ := S2.out hne.out
                    refine ⟨?_, ?_, o⟩
                    · unfold shN; rw [o, ← e1]; unfold foN; split <;> rfl
                    · unfold shD; rw [o, ← e2]; unfold foD; split <;> rfl
                  rw [decide_eq_false hr2]
                  clear hr2
                  go_wp2_with fail
                  refine (specFracOf_any _ _ _).mono ?_
                  rintro e w7 ⟨rfl, b7⟩
                  have D7 := Below.step0 D6 b7
                  have C7 := Lib.hid (Below.step0 C6 b7)
                  obtain ⟨hc7, hf7⟩ := blw D7
                  clear hc6 hf6 D6 C6 X6 Y6 b7 D7 k0 k1 k2 k3
                  go_wp2_with fail
                  refine bodyPost_ret (v := .tuple #[.agg #[.int .i64 (foN ((n * y2 - x1 * d) * x2) (d * (x1 * y2 - x1 * x2))), .int .i64 (foD ((n * y2 - x1 * d) * x2) (d * (x1 * y2 - x1 * x2)))], .bool (foOk ((n * y2 - x1 * d) * x2) (d * (x1 * y2 - x1 * x2)))]) (by simp [results, Try.results40, go_sem, hc7]) rfl ⟨by rw [E.out.1, E.out.2.1, E.out.2.2], ?_⟩
                  exact (C7.out.setCell (by simp <;> omega) _).setCell (by simp <;> omega) _
            · have d0 : decide (x1 * x2 < x1 * y2) = true := by simp; omega
              rw [d0]
              have hp := Lib.hid hp
              have p0 : w4.frozen? ⟨w3.heap.size, 0, none⟩ = false := by rw [hg4 _ _ (by simp <;> omega)]; simp [go_sem]
              have p1 : w4.frozen? ⟨w3.heap.size, 1, none⟩ = false := by rw [hg4 _ _ (by simp <;> omega)]; simp [go_sem]
              have p2 : w4.frozen? ⟨w3.heap.size + 1, 0, none⟩ = false := by rw [hg4 _ _ (by simp <;> omega)]; simp [go_sem]
              have p3 : w4.frozen? ⟨w3.heap.size + 1, 1, none⟩ = false := by rw [hg4 _ _ (by simp <;> omega)]; simp [go_sem]
              obtain ⟨s0, s1, s2, s3⟩ := set4 (w := w4) (g := w3.heap.size) (x := .int .i64 x1) (y := .int .i64 y2) (u := .int .i64 x1) (v := .int .i64 x2) q0 q1 q2 q3
              have D5' := (((D4.setCell (p := ⟨w3.heap.size, 0, none⟩) (by simp; omega) (.int .i64 x1)).setCell (p := ⟨w3.heap.size, 1, none⟩) (by simp; omega) (.int .i64 y2)).setCell (p := ⟨w3.heap.size + 1, 0, none⟩) (by simp; omega) (.int .i64 x1)).setCell (p := ⟨w3.heap.size + 1, 1, none⟩) (by simp; omega) (.int .i64 x2)
              have C5' := (((C4.setCell (p := ⟨w3.heap.size, 0, none⟩) (by simp; omega) (.int .i64 x1)).setCell (p := ⟨w3.heap.size, 1, none⟩) (by simp; omega) (.int .i64 y2)).setCell (p := ⟨w3.heap.size + 1, 0, none⟩) (by simp; omega) (.int .i64 x1)).setCell (p := ⟨w3.heap.size + 1, 1, none⟩) (by simp; omega) (.int .i64 x2)
              have X5' := (((X4.setCell (p := ⟨w3.heap.size, 0, none⟩) (by simp; omega) (.int .i64 x1)).setCell (p := ⟨w3.heap.size, 1, none⟩) (by simp; omega) (.int .i64 y2)).setCell (p := ⟨w3.heap.size + 1, 0, none⟩) (by simp; omega) (.int .i64 x1)).setCell (p := ⟨w3.heap.size + 1, 1, none⟩) (by simp; omega) (.int .i64 x2)
              have Y5' := (((Y4.setCell (p := ⟨w3.heap.size, 0, none⟩) (by simp; omega) (.int .i64 x1)).setCell (p := ⟨w3.heap.size, 1, none⟩) (by simp; omega) (.int .i64 y2)).setCell (p := ⟨w3.heap.size + 1, 0, none⟩) (by simp; omega) (.int .i64 x1)).setCell (p := ⟨w3.heap.size + 1, 1, none⟩) (by simp; omega) (.int .i64 x2)
              clear d0 he4 hg4 b4
              go_wp2_with fail
              clear p0 p1 p2 p3 q0 q1 q2 q3 D4 C4 X4 Y4
              have q0 := s0; have q1 := s1; have q2 := s2; have q3 := s3
              clear s0 s1 s2 s3
              refine (specFracLess_any _ _ _ _ _).mono ?_
              rintro e w5 ⟨rfl, b5⟩
              have D5 := Below.step0 D5' b5
              have C5 := Below.step0 C5' b5
              have X5 := Below.step0 X5' b5
              have Y5 := Below.step0 Y5' b5
              obtain ⟨hc5, hf5⟩ := blw D5
              obtain ⟨k0, k1, l1⟩ := blk_cells X5
              obtain ⟨k2, k3, l2⟩ := blk_cells Y5
              have q2 := (b5.cell (World.block_lt_of_cell? _ _ q2)).trans q2
              have q3 := (b5.cell (World.block_lt_of_cell? _ _ q3)).trans q3
              obtain ⟨z1, z2, z3, z4⟩ := Below.lt4 D5
              clear hc4 hf4 D5' C5' X5' Y5' b5 q0 q1
              rw [show flB n d x1 y2 = decide (n * y2 < x1 * d) by unfold flB; rw [V3.out, FY.out]; simp]
              by_cases hr : n * y2 < x1 * d
              · have E := Lib.hid (sh_no (show shOk a1 h1 a2 h2 n d = false by rw [S3.out hp.out]; simp [hr]))
                have G := Lib.hid C5
                rw [decide_eq_true hr]
                clear D5 C5 X5 Y5 hr
                go_wp2_with fail
                refine bodyPost_ret (v := .tuple #[.agg #[.int .i64 0, .int .i64 0], .bool false]) (by simp [results, Try.results40, go_sem, hc5]) rfl ⟨by rw [E.out.1, E.out.2.1, E.out.2.2], ?_⟩
                repeat' (first | exact G.out | (refine Below.alloc ?_ ?_ _) | (refine Below.setCell ?_ ?_ _))
                all_goals (first | omega | (simp [World.setCell]; omega) | (simp <;> omega))
              · have R1 := Lib.hid hr
                rw [decide_eq_false hr]
                clear hr
                go_wp2_with fail
                refine (specFracLess_any _ _ _ _ _).mono ?_
                rintro e w6 ⟨rfl, b6⟩
                have D6 := Below.step0 D5 b6
                have C6 := Below.step0 C5 b6
                have X6 := Below.step0 X5 b6
                have Y6 := Below.step0 Y5 b6
                obtain ⟨hc6, hf6⟩ := blw D6
                obtain ⟨k0, k1, l1⟩ := blk_cells X6
                obtain ⟨k2, k3, l2⟩ := blk_cells Y6
                obtain ⟨z1, z2, z3, z4⟩ := Below.lt4 D6
                clear hc5 hf5 D5 C5 X5 Y5 b6 q2 q3
                rw [show flB x1 x2 n d = decide (x1 * d < n * x2) by unfold flB; rw [V3.out, FX.out]; simp]
                by_cases hr2 : x1 * d < n * x2
                · have E := Lib.hid (sh_no (show shOk a1 h1 a2 h2 n d = false by rw [S3.out hp.out]; simp [hr2]))
                  have G := Lib.hid C6
                  rw [decide_eq_true hr2]
                  clear D6 C6 X6 Y6 hr2
                  go_wp2_with fail
                  refine bodyPost_ret (v := .tuple #[.agg #[.int .i64 0, .int .i64 0], .bool false]) (by simp [results, Try.results40, go_sem, hc6]) rfl ⟨by rw [E.out.1, E.out.2.1, E.out.2.2], ?_⟩
                  repeat' (first | exact G.out | (refine Below.alloc ?_ ?_ _) | (refine Below.setCell ?_ ?_ _))
                  all_goals (first | omega | (simp [World.setCell]; omega) | (simp <;> omega))
                · have E : Hid (shN a1 h1 a2 h2 n d = foN ((n * y2 - x1 * d) * x2) (d * (x1 * y2 - x1 * x2)) ∧ shD a1 h1 a2 h2 n d = foD ((n * y2 - x1 * d) * x2) (d * (x1 * y2 - x1 * x2)) ∧ shOk a1 h1 a2 h2 n d = foOk ((n * y2 - x1 * d) * x2) (d * (x1 * y2 - x1 * x2))) := by
                    have o : shOk a1 h1 a2 h2 n d = foOk ((n * y2 - x1 * d) * x2) (d * (x1 * y2 - x1 * x2)) := by rw [S3.out hp.out]; simp [R1.out, hr2]
                    obtain ⟨_, e1, e2⟩ := S2.out hne.out
                    refine ⟨?_, ?_, o⟩
                    · unfold shN; rw [o, ← e1]; unfold foN; split <;> rfl
                    · unfold shD; rw [o, ← e2]; unfold foD; split <;> rfl
                  rw [decide_eq_false hr2]
                  clear hr2
                  go_wp2_with fail
                  refine (specFracOf_any _ _ _).mono ?_
                  rintro e w7 ⟨rfl, b7⟩
                  have D7 := Below.step0 D6 b7
                  have C7 := Lib.hid (Below.step0 C6 b7)
                  obtain ⟨hc7, hf7⟩ := blw D7
                  clear hc6 hf6 D6 C6 X6 Y6 b7 D7 k0 k1 k2 k3
                  go_wp2_with fail
                  refine bodyPost_ret (v := .tuple #[.agg #[.int .i64 (foN ((n * y2 - x1 * d) * x2) (d * (x1 * y2 - x1 * x2))), .int .i64 (foD ((n * y2 - x1 * d) * x2) (d * (x1 * y2 - x1 * x2)))], .bool (foOk ((n * y2 - x1 * d) * x2) (d * (x1 * y2 - x1 * x2)))]) (by simp [results, Try.results40, go_sem, hc7]) rfl ⟨by rw [E.out.1, E.out.2.1, E.out.2.2], ?_⟩
                  exact (C7.out.setCell (by simp <;> omega) _).setCell (by simp <;> omega) _
          · clear he
            go_wp2_with fail
            refine (specFracLess_any _ _ _ _ _).mono ?_
            rintro e w4 ⟨rfl, b4⟩
            have D4 := Below.step2 D3 b4
            have C4 := Below.step2 C3 b4
            have X4 := Below.step2 X3 b4
            have Y4 := Below.step2 Y3 b4
            obtain ⟨hc4, hf4⟩ := blw D4
            obtain ⟨k0, k1, l1⟩ := blk_cells X4
            obtain ⟨k2, k3, l2⟩ := blk_cells Y4
            obtain ⟨he4, hg4⟩ := blw b4
            obtain ⟨yy4, yy5⟩ := Below.lt2 b4
            obtain ⟨z1, z2, z3, z4⟩ := Below.lt4 D4
            clear hc3 hf3 D3 C3 X3 Y3 b3
            rw [show flB y1 y2 x1 x2 = decide (y1 * x2 < x1 * y2) by unfold flB; rw [FY.out, FX.out]; simp]
            have q0 : w4.cell? ⟨w3.heap.size, 0, none⟩ = some (.int .i64 x1) := by rw [he4 _ _ (by simp <;> omega)]; simp [go_sem]
            have q1 : w4.cell? ⟨w3.heap.size, 1, none⟩ = some (.int .i64 x2) := by rw [he4 _ _ (by simp <;> omega)]; simp [go_sem]
            have q2 : w4.cell? ⟨w3.heap.size + 1, 0, none⟩ = some (.int .i64 y1) := by rw [he4 _ _ (by simp <;> omega)]; simp [go_sem]
            have q3 : w4.cell? ⟨w3.heap.size + 1, 1, none⟩ = some (.int .i64 y2) := by rw [he4 _ _ (by simp <;> omega)]; simp [go_sem]
            rcases Int.lt_or_lt_of_ne hp0.out with hp | hp
            · have d0 : decide (y1 * x2 < x1 * y2) = false := by simp; omega
              rw [d0]
              have hp := Lib.hid hp
              clear d0 he4 hg4 b4
              go_wp2_with fail
              refine (specFracLess_any _ _ _ _ _).mono ?_
              rintro e w5 ⟨rfl, b5⟩
              have D5 := Below.step0 D4 b5
              have C5 := Below.step0 C4 b5
              have X5 := Below.step0 X4 b5
              have Y5 := Below.step0 Y4 b5
              obtain ⟨hc5, hf5⟩ := blw D5
              obtain ⟨k0, k1, l1⟩ := blk_cells X5
              obtain ⟨k2, k3, l2⟩ := blk_cells Y5
              have q2 := (b5.cell (World.block_lt_of_cell? _ _ q2)).trans q2
              have q3 := (b5.cell (World.block_lt_of_cell? _ _ q3)).trans q3
              obtain ⟨z1, z2, z3, z4⟩ := Below.lt4 D5
              clear hc4 hf4 D4 C4 X4 Y4 b5 q0 q1
              rw [show flB n d x1 x2 = decide (n * x2 < x1 * d) by unfold flB; rw [V3.out, FX.out]; simp]
              by_cases hr : n * x2 < x1 * d
              · have E := Lib.hid (sh_no (show shOk a1 h1 a2 h2 n d = false by rw [S4.out hp.out]; simp [hr]))
                have G := Lib.hid C5
                rw [decide_eq_true hr]
                clear D5 C5 X5 Y5 hr
                go_wp2_with fail
                refine bodyPost_ret (v := .tuple #[.agg #[.int .i64 0, .int .i64 0], .bool false]) (by simp [results, Try.results40, go_sem, hc5]) rfl ⟨by rw [E.out.1, E.out.2.1, E.out.2.2], ?_⟩
                repeat' (first | exact G.out | (refine Below.alloc ?_ ?_ _) | (refine Below.setCell ?_ ?_ _))
                all_goals (first | omega | (simp [World.setCell]; omega) | (simp <;> omega))
              · have R1 := Lib.hid hr
                rw [decide_eq_false hr]
                clear hr
                go_wp2_with fail
                refine (specFracLess_any _ _ _ _ _).mono ?_
                rintro e w6 ⟨rfl, b6⟩
                have D6 := Below.step0 D5 b6
                have C6 := Below.step0 C5 b6
                have X6 := Below.step0 X5 b6
                have Y6 := Below.step0 Y5 b6
                obtain ⟨hc6, hf6⟩ := blw D6
                obtain ⟨k0, k1, l1⟩ := blk_cells X6
                obtain ⟨k2, k3, l2⟩ := blk_cells Y6
                obtain ⟨z1, z2, z3, z4⟩ := Below.lt4 D6
                clear hc5 hf5 D5 C5 X5 Y5 b6 q2 q3
                rw [show flB y1 y2 n d = decide (y1 * d < n * y2) by unfold flB; rw [V3.out, FY.out]; simp]
                by_cases hr2 : y1 * d < n * y2
                · have E := Lib.hid (sh_no (show shOk a1 h1 a2 h2 n d = false by rw [S4.out hp.out]; simp [hr2]))
                  have G := Lib.hid C6
                  rw [decide_eq_true hr2]
                  clear D6 C6 X6 Y6 hr2
                  go_wp2_with fail
                  refine bodyPost_ret (v := .tuple #[.agg #[.int .i64 0, .int .i64 0], .bool false]) (by simp [results, Try.results40, go_sem, hc6]) rfl ⟨by rw [E.out.1, E.out.2.1, E.out.2.2], ?_⟩
                  repeat' (first | exact G.out | (refine Below.alloc ?_ ?_ _) | (refine Below.setCell ?_ ?_ _))
                  all_goals (first | omega | (simp [World.setCell]; omega) | (simp <;> omega))
                · have E : Hid (shN a1 h1 a2 h2 n d = foN ((n * y2 - y1 * d) * x2) (d * (x1 * y2 - y1 * x2)) ∧ shD a1 h1 a2 h2 n d = foD ((n * y2 - y1 * d) * x2) (d * (x1 * y2 - y1 * x2)) ∧ shOk a1 h1 a2 h2 n d = foOk ((n * y2 - y1 * d) * x2) (d * (x1 * y2 - y1 * x2))) := by
                    have o : shOk a1 h1 a2 h2 n d = foOk ((n * y2 - y1 * d) * x2) (d * (x1 * y2 - y1 * x2)) := by rw [S4.out hp.out]; simp [R1.out, hr2]
                    obtain ⟨_, e1, e2⟩ := S2.out hne.out
                    refine ⟨?_, ?_, o⟩
                    · unfold shN; rw [o, ← e1]; unfold foN; split <;> rfl
                    · unfold shD; rw [o, ← e2]; unfold foD; split <;> rfl
                  rw [decide_eq_false hr2]
                  clear hr2
                  go_wp2_with fail
                  refine (specFracOf_any _ _ _).mono ?_
                  rintro e w7 ⟨rfl, b7⟩
                  have D7 := Below.step0 D6 b7
                  have C7 := Lib.hid (Below.step0 C6 b7)
                  obtain ⟨hc7, hf7⟩ := blw D7
                  clear hc6 hf6 D6 C6 X6 Y6 b7 D7 k0 k1 k2 k3
                  go_wp2_with fail
                  refine bodyPost_ret (v := .tuple #[.agg #[.int .i64 (foN ((n * y2 - y1 * d) * x2) (d * (x1 * y2 - y1 * x2))), .int .i64 (foD ((n * y2 - y1 * d) * x2) (d * (x1 * y2 - y1 * x2)))], .bool (foOk ((n * y2 - y1 * d) * x2) (d * (x1 * y2 - y1 * x2)))]) (by simp [results, Try.results40, go_sem, hc7]) rfl ⟨by rw [E.out.1, E.out.2.1, E.out.2.2], ?_⟩
                  exact (C7.out.setCell (by simp <;> omega) _).setCell (by simp <;> omega) _
            · have d0 : decide (y1 * x2 < x1 * y2) = true := by simp; omega
              rw [d0]
              have hp := Lib.hid hp
              have p0 : w4.frozen? ⟨w3.heap.size, 0, none⟩ = false := by rw [hg4 _ _ (by simp <;> omega)]; simp [go_sem]
              have p1 : w4.frozen? ⟨w3.heap.size, 1, none⟩ = false := by rw [hg4 _ _ (by simp <;> omega)]; simp [go_sem]
              have p2 : w4.frozen? ⟨w3.heap.size + 1, 0, none⟩ = false := by rw [hg4 _ _ (by simp <;> omega)]; simp [go_sem]
              have p3 : w4.frozen? ⟨w3.heap.size + 1, 1, none⟩ = false := by rw [hg4 _ _ (by simp <;> omega)]; simp [go_sem]
              obtain ⟨s0, s1, s2, s3⟩ := set4 (w := w4) (g := w3.heap.size) (x := .int .i64 y1) (y := .int .i64 y2) (u := .int .i64 x1) (v := .int .i64 x2) q0 q1 q2 q3
              have D5' := (((D4.setCell (p := ⟨w3.heap.size, 0, none⟩) (by simp; omega) (.int .i64 y1)).setCell (p := ⟨w3.heap.size, 1, none⟩) (by simp; omega) (.int .i64 y2)).setCell (p := ⟨w3.heap.size + 1, 0, none⟩) (by simp; omega) (.int .i64 x1)).setCell (p := ⟨w3.heap.size + 1, 1, none⟩) (by simp; omega) (.int .i64 x2)
              have C5' := (((C4.setCell (p := ⟨w3.heap.size, 0, none⟩) (by simp; omega) (.int .i64 y1)).setCell (p := ⟨w3.heap.size, 1, none⟩) (by simp; omega) (.int .i64 y2)).setCell (p := ⟨w3.heap.size + 1, 0, none⟩) (by simp; omega) (.int .i64 x1)).setCell (p := ⟨w3.heap.size + 1, 1, none⟩) (by simp; omega) (.int .i64 x2)
              have X5' := (((X4.setCell (p := ⟨w3.heap.size, 0, none⟩) (by simp; omega) (.int .i64 y1)).setCell (p := ⟨w3.heap.size, 1, none⟩) (by simp; omega) (.int .i64 y2)).setCell (p := ⟨w3.heap.size + 1, 0, none⟩) (by simp; omega) (.int .i64 x1)).setCell (p := ⟨w3.heap.size + 1, 1, none⟩) (by simp; omega) (.int .i64 x2)
              have Y5' := (((Y4.setCell (p := ⟨w3.heap.size, 0, none⟩) (by simp; omega) (.int .i64 y1)).setCell (p := ⟨w3.heap.size, 1, none⟩) (by simp; omega) (.int .i64 y2)).setCell (p := ⟨w3.heap.size + 1, 0, none⟩) (by simp; omega) (.int .i64 x1)).setCell (p := ⟨w3.heap.size + 1, 1, none⟩) (by simp; omega) (.int .i64 x2)
              clear d0 he4 hg4 b4
              go_wp2_with fail
              clear p0 p1 p2 p3 q0 q1 q2 q3 D4 C4 X4 Y4
              have q0 := s0; have q1 := s1; have q2 := s2; have q3 := s3
              clear s0 s1 s2 s3
              refine (specFracLess_any _ _ _ _ _).mono ?_
              rintro e w5 ⟨rfl, b5⟩
              have D5 := Below.step0 D5' b5
              have C5 := Below.step0 C5' b5
              have X5 := Below.step0 X5' b5
              have Y5 := Below.step0 Y5' b5
              obtain ⟨hc5, hf5⟩ := blw D5
              obtain ⟨k0, k1, l1⟩ := blk_cells X5
              obtain ⟨k2, k3, l2⟩ := blk_cells Y5
              have q2 := (b5.cell (World.block_lt_of_cell? _ _ q2)).trans q2
              have q3 := (b5.cell (World.block_lt_of_cell? _ _ q3)).trans q3
              obtain ⟨z1, z2, z3, z4⟩ := Below.lt4 D5
              clear hc4 hf4 D5' C5' X5' Y5' b5 q0 q1
              rw [show flB n d y1 y2 = decide (n * y2 < y1 * d) by unfold flB; rw [V3.out, FY.out]; simp]
              by_cases hr : n * y2 < y1 * d
              · have E := Lib.hid (sh_no (show shOk a1 h1 a2 h2 n d = false by rw [S3.out hp.out]; simp [hr]))
                have G := Lib.hid C5
                rw [decide_eq_true hr]
                clear D5 C5 X5 Y5 hr
                go_wp2_with fail
                refine bodyPost_ret (v := .tuple #[.agg #[.int .i64 0, .int .i64 0], .bool false]) (by simp [results, Try.results40, go_sem, hc5]) rfl ⟨by rw [E.out.1, E.out.2.1, E.out.2.2], ?_⟩
                repeat' (first | exact G.out | (refine Below.alloc ?_ ?_ _) | (refine Below.setCell ?_ ?_ _))
                all_goals (first | omega | (simp [World.setCell]; omega) | (simp <;> omega))
              · have R1 := Lib.hid hr
                rw [decide_eq_false hr]
                clear hr
                go_wp2_with fail
                refine (specFracLess_any _ _ _ _ _).mono ?_
                rintro e w6 ⟨rfl, b6⟩
                have D6 := Below.step0 D5 b6
                have C6 := Below.step0 C5 b6
                have X6 := Below.step0 X5 b6
                have Y6 := Below.step0 Y5 b6
                obtain ⟨hc6, hf6⟩ := blw D6
                obtain ⟨k0, k1, l1⟩ := blk_cells X6
                obtain ⟨k2, k3, l2⟩ := blk_cells Y6
                obtain ⟨z1, z2, z3, z4⟩ := Below.lt4 D6
                clear hc5 hf5 D5 C5 X5 Y5 b6 q2 q3
                rw [show flB x1 x2 n d = decide (x1 * d < n * x2) by unfold flB; rw [V3.out, FX.out]; simp]
                by_cases hr2 : x1 * d < n * x2
                · have E := Lib.hid (sh_no (show shOk a1 h1 a2 h2 n d = false by rw [S3.out hp.out]; simp [hr2]))
                  have G := Lib.hid C6
                  rw [decide_eq_true hr2]
                  clear D6 C6 X6 Y6 hr2
                  go_wp2_with fail
                  refine bodyPost_ret (v := .tuple #[.agg #[.int .i64 0, .int .i64 0], .bool false]) (by simp [results, Try.results40, go_sem, hc6]) rfl ⟨by rw [E.out.1, E.out.2.1, E.out.2.2], ?_⟩
                  repeat' (first | exact G.out | (refine Below.alloc ?_ ?_ _) | (refine Below.setCell ?_ ?_ _))
                  all_goals (first | omega | (simp [World.setCell]; omega) | (simp <;> omega))
                · have E : Hid (shN a1 h1 a2 h2 n d = foN ((n * y2 - y1 * d) * x2) (d * (x1 * y2 - y1 * x2)) ∧ shD a1 h1 a2 h2 n d = foD ((n * y2 - y1 * d) * x2) (d * (x1 * y2 - y1 * x2)) ∧ shOk a1 h1 a2 h2 n d = foOk ((n * y2 - y1 * d) * x2) (d * (x1 * y2 - y1 * x2))) := by
                    have o : shOk a1 h1 a2 h2 n d = foOk ((n * y2 - y1 * d) * x2) (d * (x1 * y2 - y1 * x2)) := by rw [S3.out hp.out]; simp [R1.out, hr2]
                    obtain ⟨_, e1, e2⟩ := S2.out hne.out
                    refine ⟨?_, ?_, o⟩
                    · unfold shN; rw [o, ← e1]; unfold foN; split <;> rfl
                    · unfold shD; rw [o, ← e2]; unfold foD; split <;> rfl
                  rw [decide_eq_false hr2]
                  clear hr2
                  go_wp2_with fail
                  refine (specFracOf_any _ _ _).mono ?_
                  rintro e w7 ⟨rfl, b7⟩
                  have D7 := Below.step0 D6 b7
                  have C7 := Lib.hid (Below.step0 C6 b7)
                  obtain ⟨hc7, hf7⟩ := blw D7
                  clear hc6 hf6 D6 C6 X6 Y6 b7 D7 k0 k1 k2 k3
                  go_wp2_with fail
                  refine bodyPost_ret (v := .tuple #[.agg #[.int .i64 (foN ((n * y2 - y1 * d) * x2) (d * (x1 * y2 - y1 * x2))), .int .i64 (foD ((n * y2 - y1 * d) * x2) (d * (x1 * y2 - y1 * x2)))], .bool (foOk ((n * y2 - y1 * d) * x2) (d * (x1 * y2 - y1 * x2)))]) (by simp [results, Try.results40, go_sem, hc7]) rfl ⟨by rw [E.out.1, E.out.2.1, E.out.2.2], ?_⟩
                  exact (C7.out.setCell (by simp <;> omega) _).setCell (by simp <;> omega) _
      · have hv' : fvB n d = false := by simpa using hv
        have E := Lib.hid (sh_no (a1 := a1) (h1 := h1) (a2 := a2) (h2 := h2) (sh_go (by unfold shGo; rw [hv']; simp)))
        have G := Lib.hid C3
        rw [hv']; clear hv hv' D3 C3
        go_wp2_with fail
        refine bodyPost_ret (v := .tuple #[.agg #[.int .i64 0, .int .i64 0], .bool false]) (by simp [results, Try.results40, go_sem, hc3]) rfl ⟨by rw [E.out.1, E.out.2.1, E.out.2.2], ?_⟩
        repeat' (first | exact G.out | (refine Below.alloc ?_ ?_ _) | (refine Below.setCell ?_ ?_ _))
        all_goals (first | omega | (simp [World.setCell]; omega) | (simp <;> omega))
    · have hv' : wvB a2 h2 = false := by simpa using hv
      have E := Lib.hid (sh_no (a1 := a1) (h1 := h1) (n := n) (d := d) (sh_go (by unfold shGo; rw [hv']; simp)))
      have G := Lib.hid C2
      rw [(wr_no hv').2.2]; clear hv hv' D2 C2
      go_wp2_with fail
      refine bodyPost_ret (v := .tuple #[.agg #[.int .i64 0, .int .i64 0], .bool false]) (by simp [results, Try.results40, go_sem, hc2, z4]) rfl ⟨by rw [E.out.1, E.out.2.1, E.out.2.2], ?_⟩
      repeat' (first | exact G.out | (refine Below.alloc ?_ ?_ _) | (refine Below.setCell ?_ ?_ _))
      all_goals (first | omega | (simp [World.setCell]; omega) | (simp <;> omega))
  · have hv' : wvB a1 h1 = false := by simpa using hv
    have E := Lib.hid (sh_no (a2 := a2) (h2 := h2) (n := n) (d := d) (sh_go (by unfold shGo; rw [hv']; simp)))
    have G := Lib.hid C2
    rw [(wr_no hv').2.2]; clear hv hv' D2 C2
    go_wp2_with fail
    refine bodyPost_ret (v := .tuple #[.agg #[.int .i64 0, .int .i64 0], .bool false]) (by simp [results, Try.results40, go_sem, hc2, z4]) rfl ⟨by rw [E.out.1, E.out.2.1, E.out.2.2], ?_⟩
    repeat' (first | exact G.out | (refine Below.alloc ?_ ?_ _) | (refine Below.setCell ?_ ?_ _))
    all_goals (first | omega | (simp [World.setCell]; omega) | (simp <;> omega))
end Go.Proofs.Ytkblbppemjnpdaa
