/- The walk of FnExactWaterShare. -/
import Derived.Test.YtkblbppemjnpdaaShareS
namespace Go.Proofs.Ytkblbppemjnpdaa
open Go.RowKit
set_option linter.unusedVariables false

set_option maxHeartbeats 3200000 in
theorem exactWaterShare_walk (a1 h1 a2 h2 n d : Int) (w : World) (_w0 : (Lit.int .i64 a1).wf = true) (_w1 : (Lit.int .i64 h1).wf = true) (_w2 : (Lit.int .i64 a2).wf = true) (_w3 : (Lit.int .i64 h2).wf = true) (_w4 : (Lit.int .i64 n).wf = true) (_w5 : (Lit.int .i64 d).wf = true) :
    Calls Try.prog 16 #[.agg #[.int .i64 a1, .int .i64 h1], .agg #[.int .i64 a2, .int .i64 h2], .agg #[.int .i64 n, .int .i64 d]] w fun e w' => e = .returned (.bool true) ∧ Below w.heap.size w w' := by
  have k0 : (((w.alloc (.cells #[.int .i64 a1, .int .i64 h1] 23)).alloc (.cells #[.int .i64 a2, .int .i64 h2] 23)).alloc (.cells #[.int .i64 n, .int .i64 d] 47)).cell? ⟨w.heap.size, 0, none⟩ = some (.int .i64 a1) := by simp [go_sem]
  have k1 : (((w.alloc (.cells #[.int .i64 a1, .int .i64 h1] 23)).alloc (.cells #[.int .i64 a2, .int .i64 h2] 23)).alloc (.cells #[.int .i64 n, .int .i64 d] 47)).cell? ⟨w.heap.size, 1, none⟩ = some (.int .i64 h1) := by simp [go_sem]
  have k2 : (((w.alloc (.cells #[.int .i64 a1, .int .i64 h1] 23)).alloc (.cells #[.int .i64 a2, .int .i64 h2] 23)).alloc (.cells #[.int .i64 n, .int .i64 d] 47)).cell? ⟨w.heap.size + 1, 0, none⟩ = some (.int .i64 a2) := by simp [go_sem]
  have k3 : (((w.alloc (.cells #[.int .i64 a1, .int .i64 h1] 23)).alloc (.cells #[.int .i64 a2, .int .i64 h2] 23)).alloc (.cells #[.int .i64 n, .int .i64 d] 47)).cell? ⟨w.heap.size + 1, 1, none⟩ = some (.int .i64 h2) := by simp [go_sem]
  have k4 : (((w.alloc (.cells #[.int .i64 a1, .int .i64 h1] 23)).alloc (.cells #[.int .i64 a2, .int .i64 h2] 23)).alloc (.cells #[.int .i64 n, .int .i64 d] 47)).cell? ⟨w.heap.size + 1 + 1, 0, none⟩ = some (.int .i64 n) := by simp [go_sem]
  have k5 : (((w.alloc (.cells #[.int .i64 a1, .int .i64 h1] 23)).alloc (.cells #[.int .i64 a2, .int .i64 h2] 23)).alloc (.cells #[.int .i64 n, .int .i64 d] 47)).cell? ⟨w.heap.size + 1 + 1, 1, none⟩ = some (.int .i64 d) := by simp [go_sem]
  go_enter Try.func16, Try.ntmps16
  go_upto_region 1 with fail
  go_cut [7, 8] (fun s5 s6 wx => ResAt (((w.alloc (.cells #[.int .i64 a1, .int .i64 h1] 23)).alloc (.cells #[.int .i64 a2, .int .i64 h2] 23)).alloc (.cells #[.int .i64 n, .int .i64 d] 47)) (.int .i64 (shN a1 h1 a2 h2 n d)) (.int .i64 (shD a1 h1 a2 h2 n d)) (shOk a1 h1 a2 h2 n d) s5 s6 wx)
  case first =>
    go_region_held3 (fun w' => w'.cell? ⟨w.heap.size, 0, none⟩ = some (.int .i64 a1) ∧ w'.cell? ⟨w.heap.size, 1, none⟩ = some (.int .i64 h1) ∧ w'.cell? ⟨w.heap.size + 1, 0, none⟩ = some (.int .i64 a2) ∧ w'.cell? ⟨w.heap.size + 1, 1, none⟩ = some (.int .i64 h2) ∧ w'.cell? ⟨w.heap.size + 1 + 1, 0, none⟩ = some (.int .i64 n) ∧ w'.cell? ⟨w.heap.size + 1 + 1, 1, none⟩ = some (.int .i64 d) ∧ Below (((w.alloc (.cells #[.int .i64 a1, .int .i64 h1] 23)).alloc (.cells #[.int .i64 a2, .int .i64 h2] 23)).alloc (.cells #[.int .i64 n, .int .i64 d] 47)).heap.size (((w.alloc (.cells #[.int .i64 a1, .int .i64 h1] 23)).alloc (.cells #[.int .i64 a2, .int .i64 h2] 23)).alloc (.cells #[.int .i64 n, .int .i64 d] 47)) w')
      (first | exact keep6 k0 k1 k2 k3 k4 k5 (Below.refl _ _).drew | (go_split_ands; exact keep6 k0 k1 k2 k3 k4 k5 (Below.step0 (by assumption) b1)) | (go_split_ands; exact keep6 k0 k1 k2 k3 k4 k5 (by assumption)) | (go_split_ands; exact keep6 k0 k1 k2 k3 k4 k5 (Below.al (by assumption))) | exact keep6 k0 k1 k2 k3 k4 k5 (Below.al (Below.und A)) | (go_split_ands; exact keep6 k0 k1 k2 k3 k4 k5 (Below.setCell (Below.setCell (by assumption) (by first | omega | (simp at *; omega) | simp) _) (by first | omega | (simp at *; omega) | simp) _)))
      (first | (go_at_call 18; (with_reducible refine (toWater_any _ _ _).mono ?_); rintro e w1 ⟨rfl, b1⟩; have hz1 := b1.size; (first | (have A := Below.step0 A b1; obtain ⟨hc1, hf1⟩ := blw A) | (have A := b1; obtain ⟨hc1, hf1⟩ := blw A))) | (go_at_call 32; (with_reducible refine (toFrac_any _ _ _).mono ?_); rintro e w1 ⟨rfl, b1⟩; have hz1 := b1.size; (first | (have A := Below.step0 A b1; obtain ⟨hc1, hf1⟩ := blw A) | (have A := b1; obtain ⟨hc1, hf1⟩ := blw A))) | (go_at_call 40; (with_reducible refine (specWaterShare_any _ _ _ _ _ _ _).mono ?_); rintro e w1 ⟨rfl, b1⟩; have hz1 := b1.size; (first | (have A := Below.step0 A b1; obtain ⟨hc1, hf1⟩ := blw A) | (have A := b1; obtain ⟨hc1, hf1⟩ := blw A))))
    all_goals
      go_split_ands
      go_wp2_with fail
      go_meet
      refine ⟨_, rfl, rfl, ?_, ?_, ?_, by assumption⟩
      · first | exact set2a (u := .int .i64 0) (by rw [hc1 _ _ (by simp)]; simp [go_sem]) | simp
      · first | exact set2b (v := .int .i64 0) (by rw [hc1 _ _ (by simp)]; simp [go_sem]) | simp
      · first | omega | (simp at *; omega) | simp
  case rest =>
    obtain ⟨g, rfl, rfl, c0, c1, hg, B0⟩ := hcut
    clear k0 k1 k2 k3 k4 k5
    have k0 : wc.cell? ⟨w.heap.size, 0, none⟩ = some (.int .i64 a1) := (B0.cell (p := ⟨w.heap.size, 0, none⟩) (by simp <;> omega)).trans (by simp [go_sem])
    have k1 : wc.cell? ⟨w.heap.size, 1, none⟩ = some (.int .i64 h1) := (B0.cell (p := ⟨w.heap.size, 1, none⟩) (by simp <;> omega)).trans (by simp [go_sem])
    have k2 : wc.cell? ⟨w.heap.size + 1, 0, none⟩ = some (.int .i64 a2) := (B0.cell (p := ⟨w.heap.size + 1, 0, none⟩) (by simp <;> omega)).trans (by simp [go_sem])
    have k3 : wc.cell? ⟨w.heap.size + 1, 1, none⟩ = some (.int .i64 h2) := (B0.cell (p := ⟨w.heap.size + 1, 1, none⟩) (by simp <;> omega)).trans (by simp [go_sem])
    have k4 : wc.cell? ⟨w.heap.size + 1 + 1, 0, none⟩ = some (.int .i64 n) := (B0.cell (p := ⟨w.heap.size + 1 + 1, 0, none⟩) (by simp <;> omega)).trans (by simp [go_sem])
    have k5 : wc.cell? ⟨w.heap.size + 1 + 1, 1, none⟩ = some (.int .i64 d) := (B0.cell (p := ⟨w.heap.size + 1 + 1, 1, none⟩) (by simp <;> omega)).trans (by simp [go_sem])
    have C0 := Lib.hid (Below.step3 (Below.refl w.heap.size w) B0)
    clear B0
    go_upto_region 2 with fail
    go_cut [9, 10] (fun s7 s8 wx => ResAt wc (.int .i64 (shN a1 h1 a2 h2 n d)) (.int .i64 (shD a1 h1 a2 h2 n d)) (shOk a1 h1 a2 h2 n d) s7 s8 wx)
    case first =>
      go_region_held3 (fun w' => w'.cell? ⟨w.heap.size, 0, none⟩ = some (.int .i64 a1) ∧ w'.cell? ⟨w.heap.size, 1, none⟩ = some (.int .i64 h1) ∧ w'.cell? ⟨w.heap.size + 1, 0, none⟩ = some (.int .i64 a2) ∧ w'.cell? ⟨w.heap.size + 1, 1, none⟩ = some (.int .i64 h2) ∧ w'.cell? ⟨w.heap.size + 1 + 1, 0, none⟩ = some (.int .i64 n) ∧ w'.cell? ⟨w.heap.size + 1 + 1, 1, none⟩ = some (.int .i64 d) ∧ Below wc.heap.size wc w')
        (first | exact keep6 k0 k1 k2 k3 k4 k5 (Below.refl _ _).drew | (go_split_ands; exact keep6 k0 k1 k2 k3 k4 k5 (Below.step0 (by assumption) b1)) | (go_split_ands; exact keep6 k0 k1 k2 k3 k4 k5 (by assumption)) | (go_split_ands; exact keep6 k0 k1 k2 k3 k4 k5 (Below.al (by assumption))) | exact keep6 k0 k1 k2 k3 k4 k5 (Below.al (Below.und A)) | (go_split_ands; exact keep6 k0 k1 k2 k3 k4 k5 (Below.setCell (Below.setCell (by assumption) (by first | omega | (simp at *; omega) | simp) _) (by first | omega | (simp at *; omega) | simp) _)))
        (first | (go_at_call 18; (with_reducible refine (toWater_any _ _ _).mono ?_); rintro e w1 ⟨rfl, b1⟩; have hz1 := b1.size; (first | (have A := Below.step0 A b1; obtain ⟨hc1, hf1⟩ := blw A) | (have A := b1; obtain ⟨hc1, hf1⟩ := blw A))) | (go_at_call 32; (with_reducible refine (toFrac_any _ _ _).mono ?_); rintro e w1 ⟨rfl, b1⟩; have hz1 := b1.size; (first | (have A := Below.step0 A b1; obtain ⟨hc1, hf1⟩ := blw A) | (have A := b1; obtain ⟨hc1, hf1⟩ := blw A))) | (go_at_call 41; (with_reducible refine (waterShare_any _ _ _ _ _ _ _).mono ?_); rintro e w1 ⟨rfl, b1⟩; have hz1 := b1.size; (first | (have A := Below.step0 A b1; obtain ⟨hc1, hf1⟩ := blw A) | (have A := b1; obtain ⟨hc1, hf1⟩ := blw A))))
      all_goals
        go_split_ands
        go_wp2_with fail
        go_meet
        refine ⟨_, rfl, rfl, ?_, ?_, ?_, by assumption⟩
        · first | exact set2a (u := .int .i64 0) (by rw [hc1 _ _ (by simp)]; simp [go_sem]) | simp
        · first | exact set2b (v := .int .i64 0) (by rw [hc1 _ _ (by simp)]; simp [go_sem]) | simp
        · first | omega | (simp at *; omega) | simp
    case rest =>
      obtain ⟨g', rfl, rfl, c2, c3, hg', B1⟩ := hcut
      have c0' := (B1.cell (World.block_lt_of_cell? _ _ c0)).trans c0
      have c1' := (B1.cell (World.block_lt_of_cell? _ _ c1)).trans c1
      have C1 := Below.step0 C0.out B1
      clear B1 c0 c1 k0 k1 k2 k3 k4 k5
      go_wp2_with fail
      refine (eqFrac_any _ _ _ _ _).mono ?_
      rintro e w5 ⟨rfl, b5⟩
      rw [eq2B_self]
      have C5 := Lib.hid (Below.step0 C1 b5)
      clear C1 b5 c0' c1' c2 c3
      have t1 : (shOk a1 h1 a2 h2 n d != shOk a1 h1 a2 h2 n d) = false := by simp
      go_wp2_with fail
      go_ret
      exact ⟨rfl, C5.out⟩
end Go.Proofs.Ytkblbppemjnpdaa
