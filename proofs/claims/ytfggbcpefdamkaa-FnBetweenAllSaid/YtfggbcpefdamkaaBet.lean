/- Which layer is ahead: plain lemmas. -/
import Derived.Test.YtfggbcpefdamkaaOrdI
namespace Go.Proofs.Ytfggbcpefdamkaa
set_option linter.unusedVariables false
set_option linter.unusedSimpArgs false

/-- Small numbers, few. -/
def vA (A : List Int) : Prop := A.length ≤ 4 ∧ ∀ i, i < A.length → 0 ≤ it A i ∧ it A i ≤ 6
theorem ok_vA {A B : List Int} (h : okB A B = true) : vA A ∧ vA B := by
  obtain ⟨h1, h2, h3, h4, h5⟩ := ok_true h
  exact ⟨⟨h2, h4⟩, ⟨by omega, fun i hi => h5 i (by omega)⟩⟩
def inP (A : List Int) (k : Int) (q : Nat) : Prop := smI A q ≤ k ∧ k < smI A q + it A q
instance (A : List Int) (k : Int) (q : Nat) : Decidable (inP A k q) := inferInstanceAs (Decidable (_ ∧ _))
theorem sm_mono {A : List Int} (h : ∀ i, i < A.length → 0 ≤ it A i ∧ it A i ≤ 6) : ∀ d p, p + d ≤ A.length → smI A p ≤ smI A (p + d) ∧ smI A (p + d) ≤ smI A p + 6 * (d : Int)
  | 0, p, _ => by simp
  | d + 1, p, hd => by
    have a := sm_mono h d p (by omega)
    have b := h (p + d) (by omega)
    have e : smI A (p + (d + 1)) = smI A (p + d) + it A (p + d) := rfl
    omega
theorem sm_bd {A : List Int} (h : vA A) (q : Nat) (hq : q ≤ A.length) : 0 ≤ smI A q ∧ smI A q ≤ 6 * (q : Int) := by
  have := sm_mono h.2 q 0 (by omega)
  rw [Nat.zero_add] at this
  have e : smI A 0 = 0 := rfl
  omega
theorem in_unique {A : List Int} (h : vA A) {k : Int} {p q : Nat} (hp : p < A.length) (hq : q < A.length) (h1 : inP A k p) (h2 : inP A k q) : p = q := by
  unfold inP at h1 h2
  rcases Nat.lt_trichotomy p q with c | c | c
  · have := sm_mono h.2 (q - (p + 1)) (p + 1) (by omega)
    rw [show p + 1 + (q - (p + 1)) = q by omega] at this
    have e : smI A (p + 1) = smI A p + it A p := rfl
    omega
  · exact c
  · have := sm_mono h.2 (p - (q + 1)) (q + 1) (by omega)
    rw [show q + 1 + (p - (q + 1)) = p by omega] at this
    have e : smI A (q + 1) = smI A q + it A q := rfl
    omega
def fpO (A : List Int) (k : Int) : Option Nat := (List.range A.length).find? (fun q => decide (inP A k q))
def fp (A : List Int) (k : Int) : Int := match fpO A k with | some q => (q : Int) | none => -1
def fx (A : List Int) (k : Int) : Int := match fpO A k with | some q => k - smI A q | none => 0
theorem fpO_yes {A : List Int} (h : vA A) {k : Int} {q : Nat} (hq : q < A.length) (h1 : inP A k q) : fpO A k = some q := by
  unfold fpO
  cases e : (List.range A.length).find? (fun q => decide (inP A k q)) with
  | none =>
    have := List.find?_eq_none.mp e q (by simpa using hq)
    simp [h1] at this
  | some p =>
    have a := List.find?_some e
    have b := List.mem_of_find?_eq_some e
    simp at a b
    rw [in_unique h b hq a h1]
theorem fpO_no {A : List Int} {k : Int} (h : ∀ q, q < A.length → ¬ inP A k q) : fpO A k = none := by
  unfold fpO
  rw [List.find?_eq_none]
  intro q hq
  simp at hq
  simpa using h q hq
theorem fp_yes {A : List Int} (h : vA A) {k : Int} {q : Nat} (hq : q < A.length) (h1 : inP A k q) : fp A k = q ∧ fx A k = k - smI A q := by
  unfold fp fx; rw [fpO_yes h hq h1]; exact ⟨rfl, rfl⟩
theorem fp_no {A : List Int} {k : Int} (h : ∀ q, q < A.length → ¬ inP A k q) : fp A k = -1 ∧ fx A k = 0 := by
  unfold fp fx; rw [fpO_no h]; exact ⟨rfl, rfl⟩
theorem fp_cases {A : List Int} (h : vA A) (k : Int) : (∃ q : Nat, q < A.length ∧ inP A k q ∧ fp A k = q ∧ fx A k = k - smI A q) ∨ (fp A k = -1 ∧ fx A k = 0 ∧ ∀ q, q < A.length → ¬ inP A k q) := by
  by_cases c : ∃ q, q < A.length ∧ inP A k q
  · obtain ⟨q, hq, h1⟩ := c
    exact .inl ⟨q, hq, h1, fp_yes h hq h1⟩
  · have : ∀ q, q < A.length → ¬ inP A k q := fun q hq h1 => c ⟨q, hq, h1⟩
    exact .inr ⟨(fp_no this).1, (fp_no this).2, this⟩

/-- Texts of a part in which the first core's layer x is ahead: those with n letters b before it. -/
def bsN (a b x : Nat) : Nat → Nat
  | 0 => 0
  | n + 1 => bsN a b x n + ch x n * ch (a - 1 - x) (b - n)
theorem bs_facts : ∀ a, a < 7 → ∀ b, b < 7 → ∀ x, x < a → ∀ y, y < b → 1 ≤ bsN a b x (y + 1) ∧ bsN a b x (y + 1) < ch a b ∧ bsN a b x (y + 1) + bsN b a y (x + 1) = ch a b := by decide +kernel
theorem bs_mono (a b x : Nat) : ∀ n, bsN a b x n ≤ bsN a b x (n + 1) := fun n => Nat.le_add_right _ _
theorem bs_down : ∀ a, a < 7 → ∀ b, b < 7 → ∀ x, x < a → x + 1 < a → ∀ y, y < b → bsN a b (x + 1) (y + 1) ≤ bsN a b x (y + 1) := by decide +kernel
theorem bs_le : ∀ a, a < 7 → ∀ b, b < 7 → ∀ x, x < a → ∀ n, n ≤ b → bsN a b x n ≤ ch a b := by
  intro a ha b hb x hx n hn
  cases n with
  | zero => exact Nat.zero_le _
  | succ n => exact Nat.le_of_lt (bs_facts a ha b hb x hx n (by omega)).2.1
theorem bs_first : ∀ a, a < 7 → ∀ b, b < 7 → 1 ≤ a → 1 ≤ b → bsN a b 0 1 = ch (a - 1) b := by decide +kernel
/-- The other parts. -/
def rst (A B : List Int) (p : Nat) : Nat := pd A B 0 A.length / ch (ni A p) (ni B p)
theorem rst_mul {A B : List Int} {p : Nat} (hp : p < A.length) : rst A B p * ch (ni A p) (ni B p) = pd A B 0 A.length := by
  unfold rst
  have e : pd A B 0 A.length = pd A B 0 p * pd A B (p + 1) (A.length - (p + 1)) * ch (ni A p) (ni B p) := by
    have a := pd_add A B 0 p (A.length - p)
    rw [show p + (A.length - p) = A.length by omega, Nat.zero_add] at a
    have b := pd_first A B p (A.length - (p + 1))
    rw [show A.length - (p + 1) + 1 = A.length - p by omega] at b
    rw [a, b, Nat.mul_comm (ch _ _), Nat.mul_assoc]
  rw [e, Nat.mul_div_cancel _ (ch_pos _ _)]
/-- How often the first core's layer is ahead, or -1. -/
def bet (A B : List Int) (p x q y : Int) : Int :=
  if p < 0 ∨ q < 0 then -1 else if p < q then cntV A B else if q < p then 0 else ((rst A B p.toNat * bsN (ni A p.toNat) (ni B p.toNat) x.toNat (y.toNat + 1) : Nat) : Int)
def betV (A B : List Int) (i k : Int) : Int := if okB A B = true then bet A B (fp A i) (fx A i) (fp B k) (fx B k) else -1
theorem betV_no {A B : List Int} {i k : Int} (h : okB A B = false) : betV A B i k = -1 := by unfold betV; rw [if_neg (by simp [h])]
theorem betV_yes {A B : List Int} {i k : Int} (h : okB A B = true) : betV A B i k = bet A B (fp A i) (fx A i) (fp B k) (fx B k) := by unfold betV; rw [if_pos h]
theorem bet_neg {A B : List Int} {p x q y : Int} (h : p < 0 ∨ q < 0) : bet A B p x q y = -1 := by unfold bet; rw [if_pos h]
theorem bet_lt {A B : List Int} {p x q y : Int} (h1 : 0 ≤ p) (h : p < q) : bet A B p x q y = cntV A B := by unfold bet; rw [if_neg (by omega), if_pos h]
theorem bet_gt {A B : List Int} {p x q y : Int} (h1 : 0 ≤ q) (h : q < p) : bet A B p x q y = 0 := by unfold bet; rw [if_neg (by omega), if_neg (by omega), if_pos h]
theorem bet_eq (A B : List Int) (p x y : Nat) : bet A B p x p y = ((rst A B p * bsN (ni A p) (ni B p) x (y + 1) : Nat) : Int) := by
  unfold bet
  rw [if_neg (by omega), if_neg (by omega), if_neg (by omega)]
  rfl
end Go.Proofs.Ytfggbcpefdamkaa
