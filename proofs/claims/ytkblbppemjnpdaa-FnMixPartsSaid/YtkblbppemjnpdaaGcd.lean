/- Contracts: the greatest common divisors of both packages, the absolute value, FracValid. -/
import Derived.Test.YtkblbppemjnpdaaIn
import Derived.Test.YtkblbppemjnpdaaFrac
import Derived.RegionTactic
import Derived.Deep.QuietTactic
import Derived.BigQuiet
import Derived.IntWalk
namespace Go.Proofs.Ytkblbppemjnpdaa
open Go.RowKit
set_option linter.unusedVariables false

theorem ret_int {k : IntKind} {a b : Int} (h : a = b) : Ending.returned (.int k a) = .returned (.int k b) := by rw [h]

theorem below_drewN {B : Nat} {a w : World} (h : Below B a w) (n : Nat) : Below B a (w.drewN n) := by
  induction n with
  | zero => exact h
  | succ n ih => exact ⟨ih.os, ih.tape, ih.output, ih.size, ih.block⟩

theorem tmod_bd (a b m : Int) (h1 : -m ≤ a) (h2 : a ≤ m) : -m ≤ a.tmod b ∧ a.tmod b ≤ m ∧ (0 ≤ a → 0 ≤ a.tmod b) := by
  have h : (a.tmod b).natAbs ≤ a.natAbs := by rw [Int.natAbs_tmod]; exact Nat.mod_le _ _
  exact ⟨by omega, by omega, fun h0 => Int.tmod_nonneg b h0⟩

theorem tmod_lt (a b : Int) (hb : b ≠ 0) : (a.tmod b).natAbs < b.natAbs := by
  rw [Int.natAbs_tmod]; exact Nat.mod_lt _ (by omega)

theorem gcd_zero (a : Int) : (Int.gcd a 0 : Int) = (a.natAbs : Int) := by simp

set_option maxHeartbeats 400000 in
theorem l2Gcd_any (a b : Int) (w : World) (ha : 0 ≤ a) (ha2 : a ≤ 4000000000000000000) (hb : 0 ≤ b) (hb2 : b ≤ 4000000000000000000) :
    Calls Try.prog 54 #[.int .i64 a, .int .i64 b] w fun e w' => e = .returned (.int .i64 (Int.gcd a b : Int)) ∧ w' = w := by
  go_enter Try.func54, Try.ntmps54
  go_wp2_with fail
  go_loop [0, 1, 5] (fun x y _ => ∃ p q : Int, 0 ≤ p ∧ p ≤ 4000000000000000000 ∧ 0 ≤ q ∧ q ≤ 4000000000000000000 ∧ x = .int .i64 p ∧ y = .int .i64 q ∧ Hid ((Int.gcd p q : Int) = (Int.gcd a b : Int))) (fun _ y _ => (intOf y).natAbs)
  case atStart => exact ⟨a, b, ha, ha2, hb, hb2, rfl, rfl, rfl⟩
  case round =>
    obtain ⟨p, q, hp, hp2, hq, hq2, rfl, rfl, hg⟩ := hrel
    by_cases h0 : q = 0
    · subst h0
      go_wp2_with fail
      go_ret
      exact ⟨ret_int (by rw [← hg.out, gcd_zero]; omega), rfl⟩
    · have d0 : (q != 0) = true := by simpa using h0
      have hpos : 0 < q := by omega
      have ht := tmod_bd p q 4000000000000000000 (by omega) hp2
      have ht2 := tmod_lt p q h0
      have e1 : p.tmod q = p % q := Int.tmod_eq_emod_of_nonneg hp
      have hg2 : Hid ((Int.gcd q (p % q) : Int) = (Int.gcd a b : Int)) := by rw [← e1, gcd_step]; exact hg
      rw [e1] at ht ht2
      have hq' := ht.2.2 hp
      clear e1
      go_wp2_with fail
      go_round
      case rel => exact ⟨q, p % q, by omega, by omega, by omega, by omega, rfl, rfl, hg2⟩
      case measure => simp [intOf]; omega

theorem l2Abs_any (n : Int) (w : World) (h1 : -4000000000000000000 ≤ n) (h2 : n ≤ 4000000000000000000) :
    Calls Try.prog 55 #[.int .i64 n] w fun e w' => e = .returned (.int .i64 (n.natAbs : Int)) ∧ w' = w := by
  go_enter Try.func55, Try.ntmps55
  go_wp2_with fail
  all_goals
    go_ret
    exact ⟨ret_int (by omega), rfl⟩

set_option maxHeartbeats 400000 in
theorem gcd_any (a b : Int) (w : World) (ha : -4000000000000000000 ≤ a) (ha2 : a ≤ 4000000000000000000) (hb : -4000000000000000000 ≤ b) (hb2 : b ≤ 4000000000000000000) :
    Calls Try.prog 56 #[.int .i64 a, .int .i64 b] w fun e w' => e = .returned (.int .i64 (Int.gcd a b : Int)) ∧ Below w.heap.size w w' := by
  go_enter Try.func56, Try.ntmps56
  go_wp2_with fail
  go_loopw [0, 1] (fun x y wr => ∃ p q : Int, -4000000000000000000 ≤ p ∧ p ≤ 4000000000000000000 ∧ -4000000000000000000 ≤ q ∧ q ≤ 4000000000000000000 ∧ x = .int .i64 p ∧ y = .int .i64 q ∧ Hid ((Int.gcd p q : Int) = (Int.gcd a b : Int)) ∧ Below w.heap.size w wr) (fun _ y _ => (intOf y).natAbs)
  case atStart => exact ⟨a, b, ha, ha2, hb, hb2, rfl, rfl, rfl, Below.refl _ _⟩
  case round =>
    obtain ⟨p, q, hp, hp2, hq, hq2, rfl, rfl, hg, hbe⟩ := hrel
    by_cases h0 : q = 0
    · subst h0
      go_wp2_with fail
      all_goals
        go_ret
        exact ⟨ret_int (by rw [← hg.out, gcd_zero]; omega), hbe⟩
    · have d0 : (q != 0) = true := by simpa using h0
      have d1 : (q == 0) = false := by simpa using h0
      have ht := tmod_bd p q 4000000000000000000 hp hp2
      have ht2 := tmod_lt p q h0
      have hg2 : Hid ((Int.gcd q (p.tmod q) : Int) = (Int.gcd a b : Int)) := by rw [gcd_step]; exact hg
      go_wp2_with fail
      go_quiet (fail)
      go_wp2_with fail
      go_roundw
      case rel => exact ⟨q, p.tmod q, by omega, by omega, by omega, by omega, rfl, rfl, hg2, below_drewN hbe _⟩
      case measure => simp only [intOf]; exact ht2

theorem specFracValid_any (n d : Int) (w : World) :
    Calls Try.prog 48 #[.agg #[.int .i64 n, .int .i64 d]] w fun e w' => e = .returned (.bool (fvB n d)) ∧ Below w.heap.size w w' := by
  by_cases h1 : inB d 1 1000000000 = true
  · by_cases h2 : inB n (-1000000000) 1000000000 = true
    · have e : fvB n d = ((Int.gcd (n.natAbs : Int) d : Int) == 1) := by
        unfold fvB inB at *
        simp at h1 h2
        rw [Bool.eq_iff_iff]
        rw [show Int.gcd (n.natAbs : Int) d = Int.gcd n d from rfl]
        simp [h1.1, h1.2, h2.1, h2.2]
        omega
      rw [e]
      have hb : 1 ≤ d ∧ d ≤ 1000000000 ∧ -1000000000 ≤ n ∧ n ≤ 1000000000 := by unfold inB at *; simp at h1 h2; omega
      obtain ⟨p1, p2, p3, p4⟩ := hb
      have H1 := Lib.hid h1; have H2 := Lib.hid h2; clear h1 h2 e
      go_enter Try.func48, Try.ntmps48
      go_wp2_with fail
      refine (l6In_any _ _ _ _).mono ?_
      rintro e w' ⟨rfl, rfl⟩
      rw [H1.out]
      go_wp2_with fail
      refine (l6In_any _ _ _ _).mono ?_
      rintro e w' ⟨rfl, rfl⟩
      rw [H2.out]
      go_wp2_with fail
      go_quiet ((first | (go_at_call 55; exact Calls.quiet_of_same (l2Abs_any _ _ (by omega) (by omega))) | (go_at_call 54; exact Calls.quiet_of_same (l2Gcd_any _ _ _ (by omega) (by omega) (by omega) (by omega)))))
      go_wp2_with fail
      go_ret
      exact ⟨rfl, below_drewN ((Below.refl _ _).alloc (Nat.le_refl _) _) _⟩
    · have e : fvB n d = false := by
        unfold fvB inB at *; simp at h1 h2; simp; omega
      have h2' : inB n (-1000000000) 1000000000 = false := by simpa using h2
      rw [e]; have H1 := Lib.hid h1; have H2 := Lib.hid h2'; clear h1 h2 h2' e
      go_enter Try.func48, Try.ntmps48
      go_wp2_with fail
      refine (l6In_any _ _ _ _).mono ?_
      rintro e w' ⟨rfl, rfl⟩
      rw [H1.out]
      go_wp2_with fail
      refine (l6In_any _ _ _ _).mono ?_
      rintro e w' ⟨rfl, rfl⟩
      rw [H2.out]
      go_wp2_with fail
      go_ret
      exact ⟨rfl, (Below.refl _ _).alloc (Nat.le_refl _) _⟩
  · have e : fvB n d = false := by
      unfold fvB inB at *; simp at h1; simp; omega
    have h1' : inB d 1 1000000000 = false := by simpa using h1
    rw [e]; have H1 := Lib.hid h1'; clear h1 h1' e
    go_enter Try.func48, Try.ntmps48
    go_wp2_with fail
    refine (l6In_any _ _ _ _).mono ?_
    rintro e w' ⟨rfl, rfl⟩
    rw [H1.out]
    go_wp2_with fail
    go_ret
    exact ⟨rfl, (Below.refl _ _).alloc (Nat.le_refl _) _⟩

theorem fracValid_any (n d : Int) (w : World) :
    Calls Try.prog 49 #[.agg #[.int .i64 n, .int .i64 d]] w fun e w' => e = .returned (.bool (fvB n d)) ∧ Below w.heap.size w w' := by
  by_cases h1 : 1 ≤ d
  · have d1 : decide (1 ≤ d) = true := by simpa using h1
    by_cases h2 : d ≤ 1000000000
    · have d2 : decide (d ≤ 1000000000) = true := by simpa using h2
      by_cases h3 : -1000000000 ≤ n
      · have d3 : decide (-1000000000 ≤ n) = true := by simpa using h3
        by_cases h4 : n ≤ 1000000000
        · have d4 : decide (n ≤ 1000000000) = true := by simpa using h4
          have e : fvB n d = ((Int.gcd n d : Int) == 1) := by
            unfold fvB
            rw [Bool.eq_iff_iff]
            simp [h1, h2, h3, h4]
            omega
          rw [e]; clear e
          go_enter Try.func49, Try.ntmps49
          go_wp2_with fail
          refine (gcd_any _ _ _ (by omega) (by omega) (by omega) (by omega)).mono ?_
          rintro e w1 ⟨rfl, b1⟩
          go_wp2_with fail
          go_ret
          exact ⟨rfl, ((Below.refl _ _).alloc (Nat.le_refl _) _).trans (b1.mono (by simp))⟩
        · have d4 : decide (n ≤ 1000000000) = false := by simpa using h4
          have e : fvB n d = false := by unfold fvB; simp [h4]
          rw [e]; clear e
          go_enter Try.func49, Try.ntmps49
          go_wp2_with fail
          go_ret
          exact ⟨rfl, (Below.refl _ _).alloc (Nat.le_refl _) _⟩
      · have d3 : decide (-1000000000 ≤ n) = false := by simpa using h3
        have e : fvB n d = false := by unfold fvB; simp [h3]
        rw [e]; clear e
        go_enter Try.func49, Try.ntmps49
        go_wp2_with fail
        go_ret
        exact ⟨rfl, (Below.refl _ _).alloc (Nat.le_refl _) _⟩
    · have d2 : decide (d ≤ 1000000000) = false := by simpa using h2
      have e : fvB n d = false := by unfold fvB; simp [h2]
      rw [e]; clear e
      go_enter Try.func49, Try.ntmps49
      go_wp2_with fail
      go_ret
      exact ⟨rfl, (Below.refl _ _).alloc (Nat.le_refl _) _⟩
  · have d1 : decide (1 ≤ d) = false := by simpa using h1
    have e : fvB n d = false := by unfold fvB; simp [h1]
    rw [e]; clear e
    go_enter Try.func49, Try.ntmps49
    go_wp2_with fail
    go_ret
    exact ⟨rfl, (Below.refl _ _).alloc (Nat.le_refl _) _⟩
end Go.Proofs.Ytkblbppemjnpdaa
