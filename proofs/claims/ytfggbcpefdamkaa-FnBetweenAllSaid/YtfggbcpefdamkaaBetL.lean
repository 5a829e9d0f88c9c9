/- The laws of OrderBetween: plain lemmas. -/
import Derived.Test.YtfggbcpefdamkaaBet
namespace Go.Proofs.Ytfggbcpefdamkaa
set_option linter.unusedVariables false
set_option linter.unusedSimpArgs false

theorem ok_symm {A B : List Int} (h : okB A B = true) : okB B A = true := by
  obtain ⟨g1, g2, g3, g4, g5⟩ := ok_true h
  exact ok_mk (by omega) (by omega) (by omega) (fun i hi => g5 i (by omega)) (fun i hi => g4 i (by omega))
theorem cntV_symm {A B : List Int} (h : okB A B = true) : cntV B A = cntV A B := by
  obtain ⟨g1, g2, g3, g4, g5⟩ := ok_true h
  rw [cntV_yes h, cntV_yes (ok_symm h), g3, pd_symm]
theorem rst_symm {A B : List Int} (h : okB A B = true) (p : Nat) : rst B A p = rst A B p := by
  obtain ⟨g1, g2, g3, g4, g5⟩ := ok_true h
  unfold rst
  rw [g3, pd_symm, ch_symm]
theorem rst_pos {A B : List Int} {p : Nat} (hp : p < A.length) : 1 ≤ rst A B p := by
  have a := rst_mul (B := B) hp
  have b := pd_pos A B 0 A.length
  cases e : rst A B p with
  | zero => rw [e] at a; omega
  | succ k => omega

/-- What is found. -/
theorem bet_found {A B : List Int} {i k : Int} (h : okB A B = true) (h0 : 0 ≤ betV A B i k) :
    ∃ p q x y : Nat, p < A.length ∧ q < A.length ∧ fp A i = p ∧ fx A i = x ∧ fp B k = q ∧ fx B k = y ∧ inP A i p ∧ inP B k q ∧ (x : Int) = i - smI A p ∧ (y : Int) = k - smI B q ∧ x < ni A p ∧ y < ni B q ∧ betV A B i k = bet A B p x q y := by
  obtain ⟨g1, g2, g3, g4, g5⟩ := ok_true h
  obtain ⟨va, vb⟩ := ok_vA h
  rw [betV_yes h] at h0 ⊢
  rcases fp_cases va i with ⟨p, hp, a1, a2, a3⟩ | ⟨a2, a3, a4⟩
  rotate_left
  · rw [bet_neg (.inl (by omega))] at h0; omega
  rcases fp_cases vb k with ⟨q, hq, b1, b2, b3⟩ | ⟨b2, b3, b4⟩
  rotate_left
  · rw [bet_neg (.inr (by omega))] at h0; omega
  have c1 := g4 p hp
  have c2 := g5 q (by omega)
  unfold inP at a1 b1
  refine ⟨p, q, (i - smI A p).toNat, (k - smI B q).toNat, hp, by omega, a2, by omega, b2, by omega, a1, b1, by omega, by omega, by unfold ni; omega, by unfold ni; omega, ?_⟩
  rw [a2, a3, b2, b3]
  congr 1 <;> omega

/-- At most all. -/
theorem bet_le {A B : List Int} {p x q y : Nat} (h : okB A B = true) (hp : p < A.length) (hq : q < A.length) (hx : x < ni A p) (hy : y < ni B q) : 0 ≤ bet A B p x q y ∧ bet A B p x q y ≤ cntV A B := by
  have cb := cntV_bd h
  rcases Nat.lt_trichotomy p q with c | c | c
  · rw [bet_lt (by omega) (by omega)]; omega
  · subst c
    rw [bet_eq, cntV_yes h, ← rst_mul (B := B) hp]
    obtain ⟨n1, n2⟩ := ni_bd h hp
    have f := bs_facts _ n1 _ n2 x hx y hy
    have := Nat.mul_le_mul_left (rst A B p) (Nat.le_of_lt f.2.1)
    omega
  · rw [bet_gt (by omega) (by omega)]; omega
theorem betV_le {A B : List Int} (i k : Int) (h : okB A B = true) : betV A B i k ≤ cntV A B ∧ -1 ≤ betV A B i k := by
  have cb := cntV_bd h
  by_cases h0 : 0 ≤ betV A B i k
  · obtain ⟨p, q, x, y, hp, hq, _, _, _, _, _, _, _, _, hx, hy, e⟩ := bet_found h h0
    have := bet_le h hp hq hx hy
    omega
  · have : -1 ≤ betV A B i k := by
      rw [betV_yes h]
      unfold bet
      split
      · omega
      · split
        · omega
        · split <;> omega
    omega

theorem bet24 {A B : List Int} {i k : Int} (h : okB A B = true) (h0 : 0 ≤ betV A B i k) : betV A B i k + betV B A k i = cntV A B := by
  obtain ⟨p, q, x, y, hp, hq, e1, e2, e3, e4, _, _, _, _, hx, hy, e⟩ := bet_found h h0
  rw [e, betV_yes (ok_symm h), e1, e2, e3, e4]
  rcases Nat.lt_trichotomy p q with c | c | c
  · rw [bet_lt (by omega) (by omega), bet_gt (by omega) (by omega)]; omega
  · subst c
    rw [bet_eq, bet_eq, cntV_yes h, ← rst_mul (B := B) hp, rst_symm h]
    obtain ⟨n1, n2⟩ := ni_bd h hp
    have f := bs_facts _ n1 _ n2 x hx y hy
    rw [← f.2.2, Nat.mul_add]
    omega
  · rw [bet_gt (by omega) (by omega), bet_lt (by omega) (by omega), cntV_symm h]; omega

theorem betEnds {A B : List Int} {i k : Int} (h : okB A B = true) (h1 : A.length = 1) (h0 : 0 ≤ betV A B i k) : betV A B 0 0 = cntV [it A 0 - 1] B := by
  obtain ⟨g1, g2, g3, g4, g5⟩ := ok_true h
  obtain ⟨va, vb⟩ := ok_vA h
  obtain ⟨p, q, x, y, hp, hq, e1, e2, e3, e4, i1, i2, _, _, hx, hy, e⟩ := bet_found h h0
  have hp0 : p = 0 := by omega
  have hq0 : q = 0 := by omega
  subst hp0 hq0
  have c1 := g4 0 hp
  have c2 := g5 0 hp
  have hA0 : 1 ≤ it A 0 := by unfold ni at hx; omega
  have hB0 : 1 ≤ it B 0 := by unfold ni at hy; omega
  have a1 := fp_yes va (q := 0) (k := 0) (by omega) (by unfold inP; show (0 : Int) ≤ 0 ∧ (0 : Int) < 0 + it A 0; omega)
  have a2 := fp_yes vb (q := 0) (k := 0) (by omega) (by unfold inP; show (0 : Int) ≤ 0 ∧ (0 : Int) < 0 + it B 0; omega)
  have e5 : smI A 0 = 0 := rfl
  have e6 : smI B 0 = 0 := rfl
  rw [betV_yes h, a1.1, a1.2, a2.1, a2.2, e5, e6]
  show bet A B (0 : Nat) (0 : Nat) (0 : Nat) (0 : Nat) = _
  have o : okB [it A 0 - 1] B = true := ok_mk (by simp) (by simp) (by simp; omega) (fun i hi => by
    have : i = 0 := by simp at hi; omega
    subst this
    show 0 ≤ it A 0 - 1 ∧ it A 0 - 1 ≤ 6
    omega) (fun i hi => g5 i (by simp at hi; omega))
  rw [bet_eq, cntV_yes o]
  obtain ⟨n1, n2⟩ := ni_bd h hp
  have f := bs_first _ n1 _ n2 (by unfold ni; omega) (by unfold ni; omega)
  rw [f]
  have r : rst A B 0 = 1 := by
    have := rst_mul (B := B) hp
    rw [h1] at this
    have e7 : pd A B 0 1 = 1 * ch (ni A (0 + 0)) (ni B (0 + 0)) := rfl
    rw [e7, Nat.add_zero] at this
    exact Nat.eq_of_mul_eq_mul_right (ch_pos (ni A 0) (ni B 0)) this
  rw [r]
  have e8 : pd [it A 0 - 1] B 0 ([it A 0 - 1] : List Int).length = 1 * ch (ni [it A 0 - 1] 0) (ni B 0) := rfl
  have e9 : ni [it A 0 - 1] 0 = ni A 0 - 1 := by
    show (it A 0 - 1).toNat = (it A 0).toNat - 1
    omega
  rw [e8, e9]

theorem betRiseA {A B : List Int} {i k : Int} (h : okB A B = true) (h0 : 0 ≤ betV A B i k) : betV A B (i + 1) k ≤ betV A B i k := by
  by_cases h1 : 0 ≤ betV A B (i + 1) k
  rotate_left
  · omega
  obtain ⟨va, vb⟩ := ok_vA h
  obtain ⟨p, q, x, y, hp, hq, e1, e2, e3, e4, i1, i2, xx, yy, hx, hy, e⟩ := bet_found h h0
  obtain ⟨p', q', x', y', hp', hq', e1', e2', e3', e4', i1', i2', xx', yy', hx', hy', e'⟩ := bet_found h h1
  obtain rfl : q = q' := by omega
  obtain rfl : y = y' := by omega
  have b1 := bet_le h hp hq hx hy
  have b2 := bet_le h hp' hq hx' hy
  rw [e, e']
  have hle : p ≤ p' := by
    rcases Nat.lt_or_ge p' p with c | c
    · have := sm_mono va.2 (p - (p' + 1)) (p' + 1) (by omega)
      rw [show p' + 1 + (p - (p' + 1)) = p by omega] at this
      have e5 : smI A (p' + 1) = smI A p' + it A p' := rfl
      unfold inP at i1 i1'
      omega
    · exact c
  rcases Nat.lt_trichotomy p q with c | c | c
  · rw [bet_lt (p := p) (by omega) (by omega)]; exact b2.2
  · subst c
    by_cases c' : p' = p
    · subst c'
      rw [bet_eq, bet_eq]
      obtain ⟨n1, n2⟩ := ni_bd h hp
      have hx1 : x' = x + 1 := by omega
      subst hx1
      have f := bs_down _ n1 _ n2 x hx hx' y hy
      have := Nat.mul_le_mul_left (rst A B p') f
      omega
    · rw [bet_gt (p := p') (by omega) (by omega)]; exact b1.1
  · rw [bet_gt (p := p') (by omega) (by omega)]; exact b1.1

theorem bs_monoB (a b x : Nat) : ∀ d n, bsN a b x n ≤ bsN a b x (n + d)
  | 0, n => Nat.le_refl _
  | d + 1, n => Nat.le_trans (bs_monoB a b x d n) (bs_mono a b x (n + d))
theorem betRiseB {A B : List Int} {i k : Int} (h : okB A B = true) (h0 : 0 ≤ betV A B i k) : betV A B i (k + 1) = -1 ∨ betV A B i k ≤ betV A B i (k + 1) := by
  by_cases h1 : 0 ≤ betV A B i (k + 1)
  rotate_left
  · have := betV_le (A := A) (B := B) i (k + 1) h; left; omega
  right
  obtain ⟨va, vb⟩ := ok_vA h
  obtain ⟨p, q, x, y, hp, hq, e1, e2, e3, e4, i1, i2, xx, yy, hx, hy, e⟩ := bet_found h h0
  obtain ⟨p', q', x', y', hp', hq', e1', e2', e3', e4', i1', i2', xx', yy', hx', hy', e'⟩ := bet_found h h1
  obtain rfl : p = p' := by omega
  obtain rfl : x = x' := by omega
  have b1 := bet_le h hp hq hx hy
  have b2 := bet_le h hp hq' hx hy'
  rw [e, e']
  have g3 := (ok_true h).2.2.1
  have hle : q ≤ q' := by
    rcases Nat.lt_or_ge q' q with c | c
    · have := sm_mono vb.2 (q - (q' + 1)) (q' + 1) (by omega)
      rw [show q' + 1 + (q - (q' + 1)) = q by omega] at this
      have e5 : smI B (q' + 1) = smI B q' + it B q' := rfl
      unfold inP at i2 i2'
      omega
    · exact c
  rcases Nat.lt_trichotomy p q with c | c | c
  · rw [bet_lt (q := q') (by omega) (by omega)]; exact b1.2
  · subst c
    by_cases c' : q' = p
    · subst c'
      rw [bet_eq, bet_eq]
      have hy1 : y' = y + 1 := by omega
      subst hy1
      have := Nat.mul_le_mul_left (rst A B q') (bs_mono (ni A q') (ni B q') x (y + 1))
      omega
    · rw [bet_lt (q := q') (by omega) (by omega)]; exact b1.2
  · rw [bet_gt (q := q) (by omega) (by omega)]; exact b2.1

/-- Parts, found by sums. -/
theorem betParts {A B : List Int} {p x q y : Nat} (h : okB A B = true) (hp : p < A.length) (hq : q < A.length) (hx : x < ni A p) (hy : y < ni B q) :
    (p < q → bet A B p x q y = cntV A B) ∧ (q < p → bet A B p x q y = 0) ∧ (p = q → 0 < bet A B p x q y ∧ bet A B p x q y < cntV A B) := by
  refine ⟨fun c => bet_lt (by omega) (by omega), fun c => bet_gt (by omega) (by omega), fun c => ?_⟩
  subst c
  rw [bet_eq, cntV_yes h, ← rst_mul (B := B) hp]
  obtain ⟨n1, n2⟩ := ni_bd h hp
  have f := bs_facts _ n1 _ n2 x hx y hy
  have r := rst_pos (B := B) hp
  have a : 1 * 1 ≤ rst A B p * bsN (ni A p) (ni B p) x (y + 1) := Nat.mul_le_mul r f.1
  have b : rst A B p * bsN (ni A p) (ni B p) x (y + 1) < rst A B p * ch (ni A p) (ni B p) := Nat.mul_lt_mul_of_pos_left f.2.1 (by omega)
  omega
/-- The search by sums ends in the part. -/
theorem sm_search {A : List Int} (h : vA A) {i : Int} {p : Nat} (hp : p < A.length) (hi : inP A i p) (j : Nat) (hj : j ≤ p) : smI A (j + 1) ≤ i ↔ j < p := by
  have e5 : smI A (p + 1) = smI A p + it A p := rfl
  unfold inP at hi
  constructor
  · intro c
    rcases Nat.lt_or_ge j p with d | d
    · exact d
    · obtain rfl : j = p := by omega
      omega
  · intro c
    have := sm_mono h.2 (p - (j + 1)) (j + 1) (by omega)
    rw [show j + 1 + (p - (j + 1)) = p by omega] at this
    omega
end Go.Proofs.Ytfggbcpefdamkaa
