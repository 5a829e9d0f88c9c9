/- The walk of FnExactWaterRatio. -/
import Derived.Test.YtkblbppemjnpdaaRatio
namespace Go.Proofs.Ytkblbppemjnpdaa
open Go.RowKit
set_option linter.unusedVariables false

theorem exactWaterRatio_walk (a h : Int) (w : World) (_wa : (Lit.int .i64 a).wf = true) (_wb : (Lit.int .i64 h).wf = true) :
    Calls Try.prog 8 #[.agg #[.int .i64 a, .int .i64 h]] w fun e w' => e = .returned (.bool true) ∧ Below w.heap.size w w' := by
  go_enter Try.func8, Try.ntmps8
  go_wp2_with fail
  refine (toWater_any _ _ _).mono ?_
  rintro e w1 ⟨rfl, b1⟩
  go_wp2_with fail
  refine (specWaterRatio_any _ _ _).mono ?_
  rintro e w2 ⟨rfl, b2⟩
  have A2 := Below.step0 b1 b2
  have C2 := Below.step1 (Below.refl w.heap.size w) A2
  obtain ⟨hc2, hf2⟩ := blw A2
  have hz2 := Below.lt1 A2
  clear b1 b2
  go_wp2_with fail
  refine (toWater_any _ _ _).mono ?_
  rintro e w3 ⟨rfl, b3⟩
  go_wp2_with fail
  refine (waterRatio_any _ _ _).mono ?_
  rintro e w4 ⟨rfl, b4⟩
  have A4 := Below.step1 A2 (Below.step0 b3 b4)
  have D4 := Below.step0 b3 b4
  have C4 := Below.step1 C2 D4
  clear hc2 hf2 b3 b4
  obtain ⟨hc4, hf4⟩ := blw A4
  have hz4 := Below.lt1 A4
  have hy4 := Below.lt1 D4
  obtain ⟨hd4, hg4⟩ := blw D4
  go_wp2_with fail
  refine (eqFrac_any _ _ _ _ _).mono ?_
  rintro e w5 ⟨rfl, b5⟩
  rw [eq2B_self]
  have C5 := Lib.hid (Below.step1 C4 b5)
  clear hc4 hf4 hd4 hg4 b5 A2 C2 A4 D4 C4
  have t1 : (wrOk a h != wrOk a h) = false := by simp
  go_wp2_with fail
  go_ret
  exact ⟨rfl, C5.out⟩
end Go.Proofs.Ytkblbppemjnpdaa
