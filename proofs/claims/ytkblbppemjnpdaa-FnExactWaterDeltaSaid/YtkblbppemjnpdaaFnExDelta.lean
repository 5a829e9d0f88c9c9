/- The walk of FnExactWaterDelta; words for regions that draw. -/
import Derived.Test.YtkblbppemjnpdaaDelta
import Derived.Test.YtkblbppemjnpdaaReg
namespace Go.Proofs.Ytkblbppemjnpdaa
open Go.RowKit
set_option linter.unusedVariables false

set_option maxHeartbeats 1600000 in
theorem exactWaterDelta_walk (a h n d : Int) (w : World) (_wa : (Lit.int .i64 a).wf = true) (_wb : (Lit.int .i64 h).wf = true) (_wc : (Lit.int .i64 n).wf = true) (_wd : (Lit.int .i64 d).wf = true) :
    Calls Try.prog 9 #[.agg #[.int .i64 a, .int .i64 h], .agg #[.int .i64 n, .int .i64 d]] w fun e w' => e = .returned (.bool true) ∧ Below w.heap.size w w' := by
  have k0 : ((w.alloc (.cells #[.int .i64 a, .int .i64 h] 23)).alloc (.cells #[.int .i64 n, .int .i64 d] 47)).cell? ⟨w.heap.size, 0, none⟩ = some (.int .i64 a) := by simp
  have k1 : ((w.alloc (.cells #[.int .i64 a, .int .i64 h] 23)).alloc (.cells #[.int .i64 n, .int .i64 d] 47)).cell? ⟨w.heap.size, 1, none⟩ = some (.int .i64 h) := by simp
  have k2 : ((w.alloc (.cells #[.int .i64 a, .int .i64 h] 23)).alloc (.cells #[.int .i64 n, .int .i64 d] 47)).cell? ⟨w.heap.size + 1, 0, none⟩ = some (.int .i64 n) := by simp
  have k3 : ((w.alloc (.cells #[.int .i64 a, .int .i64 h] 23)).alloc (.cells #[.int .i64 n, .int .i64 d] 47)).cell? ⟨w.heap.size + 1, 1, none⟩ = some (.int .i64 d) := by simp
  go_enter Try.func9, Try.ntmps9
  go_upto_region 1 with fail
  go_cut [5, 6] (fun s5 s6 wx => ResAt ((w.alloc (.cells #[.int .i64 a, .int .i64 h] 23)).alloc (.cells #[.int .i64 n, .int .i64 d] 47)) (.int .i64 (wdN a h n d)) (.int .i64 (wdD a h n d)) (wdOk a h n d) s5 s6 wx)
  case first =>
    go_region_held3 (fun w' => w'.cell? ⟨w.heap.size, 0, none⟩ = some (.int .i64 a) ∧ w'.cell? ⟨w.heap.size, 1, none⟩ = some (.int .i64 h) ∧ w'.cell? ⟨w.heap.size + 1, 0, none⟩ = some (.int .i64 n) ∧ w'.cell? ⟨w.heap.size + 1, 1, none⟩ = some (.int .i64 d) ∧ Below ((w.alloc (.cells #[.int .i64 a, .int .i64 h] 23)).alloc (.cells #[.int .i64 n, .int .i64 d] 47)).heap.size ((w.alloc (.cells #[.int .i64 a, .int .i64 h] 23)).alloc (.cells #[.int .i64 n, .int .i64 d] 47)) w')
      (first | exact keep4 k0 k1 k2 k3 (Below.refl _ _).drew | (go_split_ands; exact keep4 k0 k1 k2 k3 (Below.step0 (by assumption) b1)) | (go_split_ands; exact keep4 k0 k1 k2 k3 (Below.al (by assumption))) | exact keep4 k0 k1 k2 k3 (Below.al (Below.und A)) | (go_split_ands; exact keep4 k0 k1 k2 k3 (Below.setCell (Below.setCell (by assumption) (by first | omega | (simp at *; omega) | simp) _) (by first | omega | (simp at *; omega) | simp) _)))
      (first | (go_at_call 18; (with_reducible refine (toWater_any _ _ _).mono ?_); rintro e w1 ⟨rfl, b1⟩; have hz1 := b1.size; (first | (have A := Below.step0 A b1; obtain ⟨hc1, hf1⟩ := blw A) | (have A := b1; obtain ⟨hc1, hf1⟩ := blw A))) | (go_at_call 32; (with_reducible refine (toFrac_any _ _ _).mono ?_); rintro e w1 ⟨rfl, b1⟩; have hz1 := b1.size; (first | (have A := Below.step0 A b1; obtain ⟨hc1, hf1⟩ := blw A) | (have A := b1; obtain ⟨hc1, hf1⟩ := blw A))) | (go_at_call 31; (with_reducible refine (specWaterDelta_any _ _ _ _ _).mono ?_); rintro e w1 ⟨rfl, b1⟩; have hz1 := b1.size; (first | (have A := Below.step0 A b1; obtain ⟨hc1, hf1⟩ := blw A) | (have A := b1; obtain ⟨hc1, hf1⟩ := blw A))))
    all_goals
      go_split_ands
      go_wp2_with fail
      go_meet
      refine ⟨_, rfl, rfl, ?_, ?_, ?_, by assumption⟩
      · first | exact set2a (u := .int .i64 0) (by rw [hc1 _ _ (by simp)]; simp [go_sem]) | simp
      · first | exact set2b (v := .int .i64 0) (by rw [hc1 _ _ (by simp)]; simp [go_sem]) | simp
      · first | omega | (simp at *; omega) | simp
  case rest =>
    obtain ⟨g, rfl, rfl, c0, c1, hg, B0⟩ := hcut
    clear k0 k1 k2 k3
    have k0 : wc.cell? ⟨w.heap.size, 0, none⟩ = some (.int .i64 a) := (B0.cell (p := ⟨w.heap.size, 0, none⟩) (by simp <;> omega)).trans (by simp)
    have k1 : wc.cell? ⟨w.heap.size, 1, none⟩ = some (.int .i64 h) := (B0.cell (p := ⟨w.heap.size, 1, none⟩) (by simp <;> omega)).trans (by simp)
    have k2 : wc.cell? ⟨w.heap.size + 1, 0, none⟩ = some (.int .i64 n) := (B0.cell (p := ⟨w.heap.size + 1, 0, none⟩) (by simp <;> omega)).trans (by simp)
    have k3 : wc.cell? ⟨w.heap.size + 1, 1, none⟩ = some (.int .i64 d) := (B0.cell (p := ⟨w.heap.size + 1, 1, none⟩) (by simp <;> omega)).trans (by simp)
    have C0 := Lib.hid (Below.step2 (Below.refl w.heap.size w) B0)
    clear B0
    go_upto_region 2 with fail
    go_cut [7, 8] (fun s7 s8 wx => ResAt wc (.int .i64 (wdN a h n d)) (.int .i64 (wdD a h n d)) (wdOk a h n d) s7 s8 wx)
    case first =>
      go_region_held3 (fun w' => w'.cell? ⟨w.heap.size, 0, none⟩ = some (.int .i64 a) ∧ w'.cell? ⟨w.heap.size, 1, none⟩ = some (.int .i64 h) ∧ w'.cell? ⟨w.heap.size + 1, 0, none⟩ = some (.int .i64 n) ∧ w'.cell? ⟨w.heap.size + 1, 1, none⟩ = some (.int .i64 d) ∧ Below wc.heap.size wc w')
        (first | exact keep4 k0 k1 k2 k3 (Below.refl _ _).drew | (go_split_ands; exact keep4 k0 k1 k2 k3 (Below.step0 (by assumption) b1)) | (go_split_ands; exact keep4 k0 k1 k2 k3 (Below.al (by assumption))) | exact keep4 k0 k1 k2 k3 (Below.al (Below.und A)) | (go_split_ands; exact keep4 k0 k1 k2 k3 (Below.setCell (Below.setCell (by assumption) (by first | omega | (simp at *; omega) | simp) _) (by first | omega | (simp at *; omega) | simp) _)))
        (first | (go_at_call 18; (with_reducible refine (toWater_any _ _ _).mono ?_); rintro e w1 ⟨rfl, b1⟩; have hz1 := b1.size; (first | (have A := Below.step0 A b1; obtain ⟨hc1, hf1⟩ := blw A) | (have A := b1; obtain ⟨hc1, hf1⟩ := blw A))) | (go_at_call 32; (with_reducible refine (toFrac_any _ _ _).mono ?_); rintro e w1 ⟨rfl, b1⟩; have hz1 := b1.size; (first | (have A := Below.step0 A b1; obtain ⟨hc1, hf1⟩ := blw A) | (have A := b1; obtain ⟨hc1, hf1⟩ := blw A))) | (go_at_call 33; (with_reducible refine (waterDelta_any _ _ _ _ _).mono ?_); rintro e w1 ⟨rfl, b1⟩; have hz1 := b1.size; (first | (have A := Below.step0 A b1; obtain ⟨hc1, hf1⟩ := blw A) | (have A := b1; obtain ⟨hc1, hf1⟩ := blw A))))
      all_goals
        go_split_ands
        go_wp2_with fail
        go_meet
        refine ⟨_, rfl, rfl, ?_, ?_, ?_, by assumption⟩
        · first | exact set2a (u := .int .i64 0) (by rw [hc1 _ _ (by simp)]; simp [go_sem]) | simp
        · first | exact set2b (v := .int .i64 0) (by rw [hc1 _ _ (by simp)]; simp [go_sem]) | simp
        · first | omega | (simp at *; omega) | simp
    case rest =>
      obtain ⟨g', rfl, rfl, c2, c3, hg', B1⟩ := hcut
      have c0' := (B1.cell (World.block_lt_of_cell? _ _ c0)).trans c0
      have c1' := (B1.cell (World.block_lt_of_cell? _ _ c1)).trans c1
      have C1 := Below.step0 C0.out B1
      clear B1 c0 c1 k0 k1 k2 k3
      go_wp2_with fail
      refine (eqFrac_any _ _ _ _ _).mono ?_
      rintro e w5 ⟨rfl, b5⟩
      rw [eq2B_self]
      have C5 := Lib.hid (Below.step0 C1 b5)
      clear C1 b5 c0' c1' c2 c3
      have t1 : (wdOk a h n d != wdOk a h n d) = false := by simp
      go_wp2_with fail
      go_ret
      exact ⟨rfl, C5.out⟩
end Go.Proofs.Ytkblbppemjnpdaa
