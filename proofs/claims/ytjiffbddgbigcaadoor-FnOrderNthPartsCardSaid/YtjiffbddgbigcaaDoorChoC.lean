/- choose and l24Choose. -/
import Derived.Test.YtjiffbddgbigcaaDoorOrd
import Derived.Test.YtjiffbddgbigcaaDoorIntC
namespace Go.Proofs.YtjiffbddgbigcaaDoor
open Go.RowKit
set_option linter.unusedVariables false
set_option linter.unusedSimpArgs false

theorem cho_quo (n j : Nat) (hj : j < n) (hn : n ≤ 12) : ((cho n j : Nat) : Int) * ((n : Int) - (j : Int)) / ((j : Int) + 1) = ((cho n (j + 1) : Nat) : Int) ∧ 0 ≤ ((cho n j : Nat) : Int) * ((n : Int) - (j : Int)) ∧ ((cho n j : Nat) : Int) * ((n : Int) - (j : Int)) ≤ 100000 := by
  have h := cho_step n j (by omega)
  have e : ((cho n j : Nat) : Int) * ((n : Int) - (j : Int)) = ((cho n (j + 1) : Nat) : Int) * ((j : Int) + 1) := by
    have e1 : ((n - j : Nat) : Int) = (n : Int) - (j : Int) := by omega
    rw [← e1]
    have := congrArg (fun x : Nat => (x : Int)) h
    simp only [Int.natCast_mul, Int.natCast_add] at this
    exact this.symm
  refine ⟨?_, ?_, ?_⟩
  · rw [e]; exact Int.mul_ediv_cancel _ (by omega)
  · exact Int.mul_nonneg (by omega) (by omega)
  · have b := cho_bd n (by omega) j (by omega)
    have : ((cho n j : Nat) : Int) * ((n : Int) - (j : Int)) ≤ 924 * 12 := Int.mul_le_mul (by omega) (by omega) (by omega) (by omega)
    omega

theorem cho_quo2 (b i : Nat) (hb : b + (i + 1) ≤ 12) : ((cho (b + i) i : Nat) : Int) * ((b : Int) + ((i : Int) + 1)) / ((i : Int) + 1) = ((cho (b + (i + 1)) (i + 1) : Nat) : Int) ∧ 0 ≤ ((cho (b + i) i : Nat) : Int) * ((b : Int) + ((i : Int) + 1)) ∧ ((cho (b + i) i : Nat) : Int) * ((b : Int) + ((i : Int) + 1)) ≤ 100000 := by
  have h := cho_up b i
  have e : ((cho (b + i) i : Nat) : Int) * ((b : Int) + ((i : Int) + 1)) = ((cho (b + (i + 1)) (i + 1) : Nat) : Int) * ((i : Int) + 1) := by
    have := congrArg (fun x : Nat => (x : Int)) h
    simp only [Int.natCast_mul, Int.natCast_add] at this
    exact this.symm
  refine ⟨?_, ?_, ?_⟩
  · rw [e]; exact Int.mul_ediv_cancel _ (by omega)
  · exact Int.mul_nonneg (by omega) (by omega)
  · have c := cho_bd (b + i) (by omega) i (by omega)
    have : ((cho (b + i) i : Nat) : Int) * ((b : Int) + ((i : Int) + 1)) ≤ 924 * 12 := Int.mul_le_mul (by omega) (by omega) (by omega) (by omega)
    omega

theorem choose_any (n k : Nat) (hk : k ≤ n) (hn : n ≤ 12) (w : World) : Calls Tryd.prog 30 #[.int .i64 n, .int .i64 k] w fun e w' => e = .returned (.int .i64 ((cho n k : Nat) : Int)) ∧ w' = w := by
  go_enter Tryd.func30, Tryd.ntmps30
  go_wp2_with fail
  go_loop [5, 8] (fun v i => ∃ j : Nat, v = .int .i64 ((cho n j : Nat) : Int) ∧ i = .int .i64 j ∧ j ≤ k) (fun _ i => k - (intOf i).toNat)
  case atStart => exact ⟨0, by rw [cho_zero]; rfl, rfl, Nat.zero_le _⟩
  case round =>
    obtain ⟨j, rfl, rfl, hj⟩ := hrel
    by_cases hlt : j < k
    · obtain ⟨e1, e2, e3⟩ := cho_quo n j (by omega) hn
      have E := Lib.hid e1
      have i1 : (0 : Int) ≤ (j : Int) := by omega
      have i2 : (j : Int) < (k : Int) := by omega
      clear e1
      go_wp2_with fail
      go_round
      case rel => exact ⟨j + 1, by rw [E.out], by go_num, by omega⟩
      case measure => simp [intOf]; omega
    · obtain rfl : k = j := by omega
      go_wp2_with fail
      go_ret
      exact ⟨rfl, rfl⟩

theorem l24Choose_any (a b : Nat) (hab : a + b ≤ 12) (w : World) : Calls Tryd.prog 47 #[.int .i64 a, .int .i64 b] w fun e w' => e = .returned (.int .i64 ((ch a b : Nat) : Int)) ∧ w' = w := by
  have Z := Lib.hid (show ((cho (b + a) a : Nat) : Int) = ((ch a b : Nat) : Int) by unfold ch; rw [Nat.add_comm])
  go_enter Tryd.func47, Tryd.ntmps47
  go_wp2_with fail
  go_loop [5, 6] (fun v i => ∃ j : Nat, v = .int .i64 ((cho (b + j) j : Nat) : Int) ∧ i = .int .i64 (j + 1) ∧ j ≤ a) (fun _ i => a + 1 - (intOf i).toNat)
  case atStart => exact ⟨0, by rw [cho_zero]; rfl, rfl, Nat.zero_le _⟩
  case round =>
    obtain ⟨j, rfl, rfl, hj⟩ := hrel
    by_cases hlt : j < a
    · obtain ⟨e1, e2, e3⟩ := cho_quo2 b j (by omega)
      have E := Lib.hid e1
      have i1 : (0 : Int) ≤ (j : Int) := by omega
      have i2 : (j : Int) < (a : Int) := by omega
      clear e1
      go_wp2_with fail
      go_round
      case rel => exact ⟨j + 1, by rw [E.out], by go_num, by omega⟩
      case measure => simp [intOf]; omega
    · obtain rfl : a = j := by omega
      go_wp2_with fail
      go_ret
      exact ⟨ret_int Z.out, rfl⟩
end Go.Proofs.YtjiffbddgbigcaaDoor
