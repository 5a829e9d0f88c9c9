/- Orders of parts: plain lemmas, no program. -/
import Derived.Test.YtjiffbddgbigcaaDoorCho
import Derived.Test.YtjiffbddgbigcaaDoorInts
namespace Go.Proofs.YtjiffbddgbigcaaDoor
set_option linter.unusedVariables false
set_option linter.unusedSimpArgs false

/-- The number of texts of a letters a and b letters b. -/
def ch (a b : Nat) : Nat := cho (a + b) a
theorem ch_bd : ∀ a, a < 7 → ∀ b, b < 7 → ch a b ≤ 924 := by decide +kernel
theorem cho_bd : ∀ n, n < 13 → ∀ k, k < 13 → cho n k ≤ 924 := by decide +kernel
theorem ch_pos (a b : Nat) : 1 ≤ ch a b := cho_pos _ _ (by omega)
theorem ch_symm (a b : Nat) : ch a b = ch b a := by unfold ch; rw [cho_symm a b, Nat.add_comm]
theorem ch_zero (b : Nat) : ch 0 b = 1 := by unfold ch; exact cho_zero _
theorem ch_zero' (a : Nat) : ch a 0 = 1 := by rw [ch_symm]; exact ch_zero a
theorem ch_pascal (a b : Nat) : ch (a + 1) (b + 1) = ch a (b + 1) + ch (a + 1) b := cho_pascal a b

def ni (A : List Int) (k : Nat) : Nat := (it A k).toNat
/-- Parts: at most four, equally many of both, each of 0 to 6 letters. -/
def oaB (x : Int) : Bool := decide (0 ≤ x ∧ x ≤ 6)
def oaAll (A : List Int) (k : Nat) : Prop := ∀ i, i < k → oaB (it A i) = true
instance (A : List Int) (k : Nat) : Decidable (oaAll A k) := inferInstanceAs (Decidable (∀ i, i < k → oaB (it A i) = true))
def okB (A B : List Int) : Bool := decide (1 ≤ A.length ∧ A.length ≤ 4 ∧ B.length = A.length ∧ oaAll A A.length ∧ oaAll B B.length)
theorem oa_bd {x : Int} (h : oaB x = true) : 0 ≤ x ∧ x ≤ 6 := by unfold oaB at h; simpa using h
theorem oa_no {x : Int} (h : oaB x = false) : ¬ (0 ≤ x ∧ x ≤ 6) := by unfold oaB at h; simpa using h
theorem ok_true {A B : List Int} (h : okB A B = true) : 1 ≤ A.length ∧ A.length ≤ 4 ∧ B.length = A.length ∧ (∀ i, i < A.length → 0 ≤ it A i ∧ it A i ≤ 6) ∧ (∀ i, i < A.length → 0 ≤ it B i ∧ it B i ≤ 6) := by
  unfold okB at h
  simp only [decide_eq_true_eq] at h
  obtain ⟨h1, h2, h3, h4, h5⟩ := h
  exact ⟨h1, h2, h3, fun i hi => oa_bd (h4 i hi), fun i hi => oa_bd (h5 i (by omega))⟩
theorem ok_mk {A B : List Int} (h1 : 1 ≤ A.length) (h2 : A.length ≤ 4) (h3 : B.length = A.length) (h4 : ∀ i, i < A.length → 0 ≤ it A i ∧ it A i ≤ 6) (h5 : ∀ i, i < A.length → 0 ≤ it B i ∧ it B i ≤ 6) : okB A B = true := by
  unfold okB
  refine decide_eq_true ⟨h1, h2, h3, fun i hi => ?_, fun i hi => ?_⟩
  · unfold oaB; exact decide_eq_true (h4 i hi)
  · unfold oaB; exact decide_eq_true (h5 i (by omega))

/-- The product over k parts from an index on. -/
def pd (A B : List Int) (p : Nat) : Nat → Nat
  | 0 => 1
  | k + 1 => pd A B p k * ch (ni A (p + k)) (ni B (p + k))
theorem ni_bd {A B : List Int} (h : okB A B = true) {i : Nat} (hi : i < A.length) : ni A i < 7 ∧ ni B i < 7 := by
  obtain ⟨_, _, _, h4, h5⟩ := ok_true h
  have := h4 i hi
  have := h5 i hi
  unfold ni
  omega
theorem pd_pos (A B : List Int) (p : Nat) : ∀ k, 1 ≤ pd A B p k
  | 0 => Nat.le_refl _
  | k + 1 => Nat.mul_le_mul (pd_pos A B p k) (ch_pos _ _)
theorem pd_le {A B : List Int} (h : okB A B = true) (p : Nat) : ∀ k, p + k ≤ A.length → pd A B p k ≤ 924 ^ k
  | 0, _ => Nat.le_refl _
  | k + 1, hk => by
    have a := pd_le h p k (by omega)
    have b := ni_bd h (i := p + k) (by omega)
    have c := ch_bd _ b.1 _ b.2
    show pd A B p k * _ ≤ 924 ^ k * 924
    exact Nat.mul_le_mul a c
theorem pd_bd {A B : List Int} (h : okB A B = true) (p k : Nat) (hk : p + k ≤ A.length) : 1 ≤ pd A B p k ∧ pd A B p k ≤ 728933458176 := by
  refine ⟨pd_pos A B p k, Nat.le_trans (pd_le h p k hk) ?_⟩
  obtain ⟨_, h2, _⟩ := ok_true h
  have : (924 : Nat) ^ k ≤ 924 ^ 4 := Nat.pow_le_pow_right (by omega) (by omega)
  exact Nat.le_trans this (by decide)
/-- The product is that of its two halves. -/
theorem pd_add (A B : List Int) (p m : Nat) : ∀ k, pd A B p (m + k) = pd A B p m * pd A B (p + m) k
  | 0 => by show pd A B p m = pd A B p m * 1; omega
  | k + 1 => by
    show pd A B p (m + k) * ch (ni A (p + (m + k))) (ni B (p + (m + k))) = pd A B p m * (pd A B (p + m) k * ch (ni A (p + m + k)) (ni B (p + m + k)))
    rw [pd_add A B p m k, ← Nat.add_assoc, Nat.mul_assoc]
theorem pd_first (A B : List Int) (p k : Nat) : pd A B p (k + 1) = ch (ni A p) (ni B p) * pd A B (p + 1) k := by
  have h := pd_add A B p 1 k
  rw [Nat.add_comm 1 k] at h
  rw [h]
  show 1 * ch (ni A (p + 0)) (ni B (p + 0)) * _ = _
  rw [Nat.one_mul, Nat.add_zero]
theorem pd_congr {A B A' B' : List Int} {p p' : Nat} : ∀ k, (∀ i, i < k → ch (ni A (p + i)) (ni B (p + i)) = ch (ni A' (p' + i)) (ni B' (p' + i))) → pd A B p k = pd A' B' p' k
  | 0, _ => rfl
  | k + 1, h => by
    show pd A B p k * _ = pd A' B' p' k * _
    rw [pd_congr k (fun i hi => h i (by omega)), h k (by omega)]
theorem pd_symm (A B : List Int) (p k : Nat) : pd A B p k = pd B A p k := pd_congr k (fun i _ => ch_symm _ _)
theorem pd_mono {A B A' B' : List Int} {p : Nat} : ∀ k, (∀ i, i < k → ch (ni A (p + i)) (ni B (p + i)) ≤ ch (ni A' (p + i)) (ni B' (p + i))) → pd A B p k ≤ pd A' B' p k
  | 0, _ => Nat.le_refl _
  | k + 1, h => Nat.mul_le_mul (pd_mono k (fun i hi => h i (by omega))) (h k (by omega))
theorem pd_ones {A B : List Int} {p : Nat} : ∀ k, (∀ i, i < k → ch (ni A (p + i)) (ni B (p + i)) = 1) → pd A B p k = 1
  | 0, _ => rfl
  | k + 1, h => by
    show pd A B p k * _ = 1
    rw [pd_ones k (fun i hi => h i (by omega)), h k (by omega)]

/-- The number of orders, or -1. -/
def cntV (A B : List Int) : Int := if okB A B = true then (pd A B 0 A.length : Int) else -1
theorem cntV_yes {A B : List Int} (h : okB A B = true) : cntV A B = (pd A B 0 A.length : Int) := by unfold cntV; rw [if_pos h]
theorem cntV_no {A B : List Int} (h : okB A B = false) : cntV A B = -1 := by unfold cntV; rw [if_neg (by simp [h])]
theorem cntV_bd {A B : List Int} (h : okB A B = true) : 1 ≤ cntV A B ∧ cntV A B ≤ 728933458176 := by
  rw [cntV_yes h]
  have := pd_bd h 0 A.length (by omega)
  omega
theorem ch_up (a b : Nat) : ch a b ≤ ch (a + 1) b := by
  cases b with
  | zero => rw [ch_zero', ch_zero']; exact Nat.le_refl _
  | succ b => rw [ch_pascal]; omega
end Go.Proofs.YtjiffbddgbigcaaDoor
