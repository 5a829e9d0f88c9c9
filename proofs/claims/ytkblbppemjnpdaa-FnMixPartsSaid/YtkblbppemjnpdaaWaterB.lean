/- Contracts: toWater. -/
import Derived.Test.YtkblbppemjnpdaaWaterA
namespace Go.Proofs.Ytkblbppemjnpdaa
open Go.RowKit

theorem toWater_any (a h : Int) (w : World) :
    Calls Try.prog 18 #[.agg #[.int .i64 a, .int .i64 h]] w fun e w' => e = .returned (.agg #[.int .i64 a, .int .i64 h]) ∧ Below w.heap.size w w' := by
  go_enter Try.func18, Try.ntmps18
  go_wp2
  refine bodyPost_ret (v := .agg #[.int .i64 a, .int .i64 h]) (by simp [results, Try.results18, go_sem]) rfl ⟨rfl, ?_⟩
  exact (((Below.refl _ _).alloc (Nat.le_refl _) _).alloc (by simp) _).alloc (by simp; omega) _

theorem bcell {W w1 : World} (hb : Below W.heap.size W w1) : (∀ b o, b < W.heap.size → w1.cell? ⟨b, o, none⟩ = W.cell? ⟨b, o, none⟩) ∧ (∀ b o, b < W.heap.size → w1.frozen? ⟨b, o, none⟩ = W.frozen? ⟨b, o, none⟩) :=
  ⟨fun b o h => hb.cell (p := ⟨b, o, none⟩) h, fun b o h => hb.frozen (p := ⟨b, o, none⟩) h⟩

theorem exactWaterValid_walk (a h : Int) (w : World) (_wa : (Lit.int .i64 a).wf = true) (_wb : (Lit.int .i64 h).wf = true) :
    Calls Try.prog 3 #[.agg #[.int .i64 a, .int .i64 h]] w fun e w' => e = .returned (.bool true) ∧ Below w.heap.size w w' := by
  go_enter Try.func3, Try.ntmps3
  go_wp2_with fail
  refine (toWater_any _ _ _).mono ?_
  rintro e w1 ⟨rfl, hb1⟩
  go_wp2_with fail
  refine (specWaterValid_any _ _ _).mono ?_
  rintro e w2 ⟨rfl, hb2⟩
  have hb3 := hb1.trans (hb2.mono hb1.size)
  obtain ⟨hc, hf⟩ := bcell hb3
  go_wp2_with fail
  refine (toWater_any _ _ _).mono ?_
  rintro e w4 ⟨rfl, hb4⟩
  go_wp2_with fail
  refine (waterValid_any _ _ _).mono ?_
  rintro e w5 ⟨rfl, hb5⟩
  clear hc hf
  have hs : w.heap.size ≤ w2.heap.size := by have := hb3.size; simp at this; omega
  have hb6 := ((Below.refl w.heap.size w).alloc (Nat.le_refl _) (.cells #[.int .i64 a, .int .i64 h] 23)).trans ((hb3.mono (by simp)).trans ((hb4.mono hs).trans (hb5.mono (Nat.le_trans hs hb4.size))))
  have hB := Lib.hid hb6; clear hb1 hb2 hb3 hb4 hb5 hb6
  cases wvB a h
  all_goals
    go_wp2_with fail
    go_ret
    exact ⟨rfl, hB.out⟩
end Go.Proofs.Ytkblbppemjnpdaa
