/- Binomial numbers: plain lemmas, no program. -/
namespace Go.Proofs.YtjiffbddgbigcaaDoor

/-- The number of ways to choose k of n. -/
def cho : Nat → Nat → Nat
  | _, 0 => 1
  | 0, _ + 1 => 0
  | n + 1, k + 1 => cho n k + cho n (k + 1)

theorem cho_zero (n : Nat) : cho n 0 = 1 := by cases n <;> rfl
theorem cho_lt : ∀ (n k : Nat), n < k → cho n k = 0
  | n, 0, h => by omega
  | 0, _ + 1, _ => rfl
  | n + 1, k + 1, h => by
    show cho n k + cho n (k + 1) = 0
    rw [cho_lt n k (by omega), cho_lt n (k + 1) (by omega)]
theorem cho_self : ∀ n, cho n n = 1
  | 0 => rfl
  | n + 1 => by
    show cho n n + cho n (n + 1) = 1
    rw [cho_self n, cho_lt n (n + 1) (by omega)]
theorem cho_pos : ∀ (n k : Nat), k ≤ n → 1 ≤ cho n k
  | n, 0, _ => by rw [cho_zero]; exact Nat.le_refl _
  | 0, k + 1, h => by omega
  | n + 1, k + 1, h => by
    show 1 ≤ cho n k + cho n (k + 1)
    have := cho_pos n k (by omega)
    omega

/-- The step of the product from k to k + 1. -/
theorem cho_step : ∀ (n k : Nat), k ≤ n → cho n (k + 1) * (k + 1) = cho n k * (n - k)
  | 0, k, h => by
    have : k = 0 := by omega
    subst this; rfl
  | n + 1, 0, _ => by
    show (cho n 0 + cho n 1) * 1 = cho (n + 1) 0 * (n + 1 - 0)
    have h := cho_step n 0 (by omega)
    simp only [cho_zero, Nat.mul_one, Nat.one_mul, Nat.sub_zero, Nat.zero_add] at *
    omega
  | n + 1, k + 1, h => by
    show (cho n (k + 1) + cho n (k + 1 + 1)) * (k + 1 + 1) = (cho n k + cho n (k + 1)) * (n + 1 - (k + 1))
    by_cases e : k + 1 ≤ n
    · have h1 := cho_step n k (by omega)
      have h2 := cho_step n (k + 1) e
      have e1 : n - k = n - (k + 1) + 1 := by omega
      have e2 : n + 1 - (k + 1) = n - (k + 1) + 1 := by omega
      rw [e1] at h1
      rw [e2]
      generalize n - (k + 1) = m at *
      generalize cho n (k + 1 + 1) = x at *
      generalize cho n (k + 1) = y at *
      generalize cho n k = z at *
      simp only [Nat.add_mul, Nat.mul_add, Nat.mul_one] at *
      omega
    · have e1 : k = n := by omega
      subst e1
      rw [cho_lt k (k + 1) (by omega), cho_lt k (k + 1 + 1) (by omega)]
      simp

/-- Both ways of counting. -/
theorem cho_symm : ∀ (a b : Nat), cho (a + b) a = cho (a + b) b
  | 0, b => by rw [Nat.zero_add, cho_zero, cho_self]
  | a + 1, 0 => by rw [Nat.add_zero, cho_zero, cho_self]
  | a + 1, b + 1 => by
    have e : a + 1 + (b + 1) = (a + b + 1) + 1 := by omega
    rw [e]
    show cho (a + b + 1) a + cho (a + b + 1) (a + 1) = cho (a + b + 1) b + cho (a + b + 1) (b + 1)
    have h1 := cho_symm (a + 1) b
    have h2 := cho_symm a (b + 1)
    have e1 : a + 1 + b = a + b + 1 := by omega
    have e2 : a + (b + 1) = a + b + 1 := by omega
    rw [e1] at h1
    rw [e2] at h2
    omega
  termination_by a b => a + b

/-- Both letters may come first. -/
theorem cho_pascal (a b : Nat) : cho (a + 1 + (b + 1)) (a + 1) = cho (a + (b + 1)) a + cho (a + 1 + b) (a + 1) := by
  have e : a + 1 + (b + 1) = (a + b + 1) + 1 := by omega
  rw [e]
  show cho (a + b + 1) a + cho (a + b + 1) (a + 1) = _
  rw [show a + (b + 1) = a + b + 1 by omega, show a + 1 + b = a + b + 1 by omega]

/-- The step of the reference's product. -/
theorem cho_up (b i : Nat) : cho (b + (i + 1)) (i + 1) * (i + 1) = cho (b + i) i * (b + (i + 1)) := by
  have h := cho_step (b + i) i (by omega)
  have e : b + i - i = b := by omega
  rw [e] at h
  show cho (b + i + 1) (i + 1) * (i + 1) = _
  show (cho (b + i) i + cho (b + i) (i + 1)) * (i + 1) = _
  rw [Nat.add_mul, h, ← Nat.mul_add]
  congr 1
  omega
end Go.Proofs.YtjiffbddgbigcaaDoor
