/- Contracts: WaterValid of both packages, toWater. -/
import Derived.Test.YtkblbppemjnpdaaIn
namespace Go.Proofs.Ytkblbppemjnpdaa
open Go.RowKit

def wvB (a h : Int) : Bool := decide (1 ≤ a ∧ a ≤ 1000 ∧ 0 ≤ h ∧ h ≤ a)

theorem specWaterValid_any (a h : Int) (w : World) :
    Calls Try.prog 17 #[.agg #[.int .i64 a, .int .i64 h]] w fun e w' => e = .returned (.bool (wvB a h)) ∧ Below w.heap.size w w' := by
  by_cases h1 : inB a 1 1000 = true
  · have e : wvB a h = inB h 0 a := by
      unfold wvB inB at *; simp at h1; simp [h1.1, h1.2]
    rw [e]; have H1 := Lib.hid h1; clear h1 e
    go_enter Try.func17, Try.ntmps17
    go_wp2_with fail
    refine (l6In_any _ _ _ _).mono ?_
    rintro e w' ⟨rfl, rfl⟩
    rw [H1.out]
    go_wp2_with fail
    refine (l6In_any _ _ _ _).mono ?_
    rintro e w' ⟨rfl, rfl⟩
    go_wp2_with fail
    go_ret
    exact ⟨rfl, (Below.refl _ _).alloc (Nat.le_refl _) _⟩
  · have e : wvB a h = false := by
      unfold wvB inB at *; simp at h1; simp; omega
    have h1' : inB a 1 1000 = false := by simpa using h1
    rw [e]; have H1 := Lib.hid h1'; clear h1 h1' e
    go_enter Try.func17, Try.ntmps17
    go_wp2_with fail
    refine (l6In_any _ _ _ _).mono ?_
    rintro e w' ⟨rfl, rfl⟩
    rw [H1.out]
    go_wp2_with fail
    go_ret
    exact ⟨rfl, (Below.refl _ _).alloc (Nat.le_refl _) _⟩

theorem waterValid_any (a h : Int) (w : World) :
    Calls Try.prog 19 #[.agg #[.int .i64 a, .int .i64 h]] w fun e w' => e = .returned (.bool (wvB a h)) ∧ Below w.heap.size w w' := by
  by_cases h1 : 1 ≤ a
  · have d1 : decide (1 ≤ a) = true := by simpa using h1
    by_cases h2 : a ≤ 1000
    · have d2 : decide (a ≤ 1000) = true := by simpa using h2
      by_cases h3 : 0 ≤ h
      · have d3 : decide (0 ≤ h) = true := by simpa using h3
        by_cases h4 : h ≤ a
        · have d4 : decide (h ≤ a) = true := by simpa using h4
          have e : wvB a h = true := by unfold wvB; simp [h1, h2, h3, h4]
          rw [e]; clear e
          go_enter Try.func19, Try.ntmps19
          go_wp2
          go_ret
          exact ⟨rfl, (Below.refl _ _).alloc (Nat.le_refl _) _⟩
        · have d4 : decide (h ≤ a) = false := by simpa using h4
          have e : wvB a h = false := by unfold wvB; simp [h4]
          rw [e]; clear e
          go_enter Try.func19, Try.ntmps19
          go_wp2
          go_ret
          exact ⟨rfl, (Below.refl _ _).alloc (Nat.le_refl _) _⟩
      · have d3 : decide (0 ≤ h) = false := by simpa using h3
        have e : wvB a h = false := by unfold wvB; simp [h3]
        rw [e]; clear e
        go_enter Try.func19, Try.ntmps19
        go_wp2
        go_ret
        exact ⟨rfl, (Below.refl _ _).alloc (Nat.le_refl _) _⟩
    · have d2 : decide (a ≤ 1000) = false := by simpa using h2
      have e : wvB a h = false := by unfold wvB; simp [h2]
      rw [e]; clear e
      go_enter Try.func19, Try.ntmps19
      go_wp2
      go_ret
      exact ⟨rfl, (Below.refl _ _).alloc (Nat.le_refl _) _⟩
  · have d1 : decide (1 ≤ a) = false := by simpa using h1
    have e : wvB a h = false := by unfold wvB; simp [h1]
    rw [e]; clear e
    go_enter Try.func19, Try.ntmps19
    go_wp2
    go_ret
    exact ⟨rfl, (Below.refl _ _).alloc (Nat.le_refl _) _⟩
end Go.Proofs.Ytkblbppemjnpdaa
