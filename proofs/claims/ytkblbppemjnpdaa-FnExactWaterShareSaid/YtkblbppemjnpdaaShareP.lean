/- Plain lemmas on WaterShare. -/
import Derived.Test.YtkblbppemjnpdaaRatioP
namespace Go.Proofs.Ytkblbppemjnpdaa

def shA (a1 a2 h2 n d : Int) : Int := (n * a2 - h2 * d) * a1
def shB (a1 h1 a2 h2 d : Int) : Int := d * (h1 * a2 - h2 * a1)
def shGo (a1 h1 a2 h2 n d : Int) : Bool := wvB a1 h1 && wvB a2 h2 && fvB n d
def shIn (p q : Int) : Bool := decide (0 ≤ p ∧ p ≤ q)
def shOk (a1 h1 a2 h2 n d : Int) : Bool := shGo a1 h1 a2 h2 n d && (foOk (shA a1 a2 h2 n d) (shB a1 h1 a2 h2 d) && shIn (foN (shA a1 a2 h2 n d) (shB a1 h1 a2 h2 d)) (foD (shA a1 a2 h2 n d) (shB a1 h1 a2 h2 d)))
def shN (a1 h1 a2 h2 n d : Int) : Int := if shOk a1 h1 a2 h2 n d = true then foN (shA a1 a2 h2 n d) (shB a1 h1 a2 h2 d) else 0
def shD (a1 h1 a2 h2 n d : Int) : Int := if shOk a1 h1 a2 h2 n d = true then foD (shA a1 a2 h2 n d) (shB a1 h1 a2 h2 d) else 0

theorem sh_no {a1 h1 a2 h2 n d : Int} (h : shOk a1 h1 a2 h2 n d = false) : shN a1 h1 a2 h2 n d = 0 ∧ shD a1 h1 a2 h2 n d = 0 ∧ shOk a1 h1 a2 h2 n d = false := by
  unfold shN shD; rw [h]; simp
theorem sh_yes {a1 h1 a2 h2 n d : Int} (h : shOk a1 h1 a2 h2 n d = true) : shN a1 h1 a2 h2 n d = foN (shA a1 a2 h2 n d) (shB a1 h1 a2 h2 d) ∧ shD a1 h1 a2 h2 n d = foD (shA a1 a2 h2 n d) (shB a1 h1 a2 h2 d) ∧ shOk a1 h1 a2 h2 n d = true := by
  unfold shN shD; rw [h]; simp

/-- The products stay small. -/
theorem sh_bd {a1 h1 a2 h2 n d : Int} (u1 : 0 ≤ a1) (u2 : a1 ≤ 1000) (u3 : 0 ≤ h1) (u4 : h1 ≤ 1000) (v1 : 0 ≤ a2) (v2 : a2 ≤ 1000) (v3 : 0 ≤ h2) (v4 : h2 ≤ 1000) (w1 : 1 ≤ d) (w2 : d ≤ 1000000000) (w3 : -1000000000 ≤ n) (w4 : n ≤ 1000000000) :
    (-1000000000000 ≤ n * a2 ∧ n * a2 ≤ 1000000000000) ∧ (-1000000000000 ≤ h2 * d ∧ h2 * d ≤ 1000000000000) ∧ (-1000000 ≤ h1 * a2 ∧ h1 * a2 ≤ 1000000) ∧ (-1000000 ≤ h2 * a1 ∧ h2 * a1 ≤ 1000000) ∧
      (-2000000000000000 ≤ (n * a2 - h2 * d) * a1 ∧ (n * a2 - h2 * d) * a1 ≤ 2000000000000000) ∧ (-2000000000000000 ≤ d * (h1 * a2 - h2 * a1) ∧ d * (h1 * a2 - h2 * a1) ≤ 2000000000000000) := by
  have m1 := mul_bd n a2 1000000000 1000 (by omega) (by omega) (by omega) (by omega) (by omega)
  have m2 := mul_bd h2 d 1000 1000000000 (by omega) (by omega) (by omega) (by omega) (by omega)
  have m3 := mul_bd h1 a2 1000 1000 (by omega) (by omega) (by omega) (by omega) (by omega)
  have m4 := mul_bd h2 a1 1000 1000 (by omega) (by omega) (by omega) (by omega) (by omega)
  have m5 := mul_bd (n * a2 - h2 * d) a1 2000000000000 1000 (by omega) (by omega) (by omega) (by omega) (by omega)
  have m6 := mul_bd d (h1 * a2 - h2 * a1) 1000000000 2000000 (by omega) (by omega) (by omega) (by omega) (by omega)
  omega

/-- Where the reduced fraction lies. -/
theorem red_in {N M : Int} (hM : M ≠ 0) : (0 ≤ redN N M ∧ redN N M ≤ redD N M) ↔ ((0 < M → 0 ≤ N ∧ N ≤ M) ∧ (M < 0 → N ≤ 0 ∧ M ≤ N)) := by
  obtain ⟨h1, _, h3⟩ := red_spec N M hM
  generalize redN N M = p at *
  generalize redD N M = q at *
  have hq : 0 < q := by omega
  rcases Int.lt_or_lt_of_ne hM with hm | hm
  · constructor
    · rintro ⟨a, b⟩
      refine ⟨fun h => by omega, fun _ => ⟨?_, ?_⟩⟩
      · rcases Int.lt_or_le 0 N with k | k
        · have := Int.mul_pos k hq
          have : p * M ≤ 0 := Int.mul_nonpos_of_nonneg_of_nonpos a (by omega)
          omega
        · exact k
      · rcases Int.lt_or_le N M with k | k
        · have k1 := Int.mul_lt_mul_of_pos_right k hq
          have k2 : q * M ≤ p * M := Int.mul_le_mul_of_nonpos_right b (by omega)
          rw [Int.mul_comm q M] at k2
          omega
        · exact k
    · rintro ⟨_, h⟩
      obtain ⟨c1, c2⟩ := h hm
      constructor
      · rcases Int.lt_or_le p 0 with k | k
        · have k1 := Int.mul_pos_of_neg_of_neg k hm
          have : N * q ≤ 0 := Int.mul_nonpos_of_nonpos_of_nonneg c1 (by omega)
          omega
        · exact k
      · rcases Int.lt_or_le q p with k | k
        · have k1 := Int.mul_lt_mul_of_neg_right k hm
          have k2 := Int.mul_le_mul_of_nonneg_right c2 (show 0 ≤ q by omega)
          rw [Int.mul_comm M q] at k2
          omega
        · exact k
  · constructor
    · rintro ⟨a, b⟩
      refine ⟨fun _ => ⟨?_, ?_⟩, fun h => by omega⟩
      · rcases Int.lt_or_le N 0 with k | k
        · have := Int.mul_neg_of_neg_of_pos k hq
          have : 0 ≤ p * M := Int.mul_nonneg a (by omega)
          omega
        · exact k
      · rcases Int.lt_or_le M N with k | k
        · have k1 := Int.mul_lt_mul_of_pos_right k hq
          have k2 : p * M ≤ q * M := Int.mul_le_mul_of_nonneg_right b (by omega)
          rw [Int.mul_comm q M] at k2
          omega
        · exact k
    · rintro ⟨h, _⟩
      obtain ⟨c1, c2⟩ := h hm
      constructor
      · rcases Int.lt_or_le p 0 with k | k
        · have k1 := Int.mul_neg_of_neg_of_pos k hm
          have : 0 ≤ N * q := Int.mul_nonneg c1 (by omega)
          omega
        · exact k
      · rcases Int.lt_or_le q p with k | k
        · have k1 := Int.mul_lt_mul_of_pos_right k hm
          have k2 := Int.mul_le_mul_of_nonneg_right c2 (show 0 ≤ q by omega)
          rw [Int.mul_comm M q] at k2
          omega
        · exact k

theorem nn_mul {p x : Int} (hx : 0 < x) : 0 ≤ p * x ↔ 0 ≤ p := by
  constructor
  · intro h
    rcases Int.lt_or_le p 0 with k | k
    · have := Int.mul_neg_of_neg_of_pos k hx; omega
    · exact k
  · intro h; exact Int.mul_nonneg h (by omega)
theorem np_mul {p x : Int} (hx : 0 < x) : p * x ≤ 0 ↔ p ≤ 0 := by
  have := nn_mul (p := -p) hx
  rw [Int.neg_mul] at this
  omega

/-- The difference of both numbers. -/
theorem sh_diff (n d x1 x2 y1 y2 : Int) : d * (x1 * y2 - y1 * x2) - (n * y2 - y1 * d) * x2 = (x1 * d - n * x2) * y2 := by
  simp only [Int.mul_sub, Int.sub_mul]
  have e1 : d * (x1 * y2) = x1 * d * y2 := by rw [← Int.mul_assoc, Int.mul_comm d x1]
  have e2 : d * (y1 * x2) = y1 * d * x2 := by rw [← Int.mul_assoc, Int.mul_comm d y1]
  have e3 : n * y2 * x2 = n * x2 * y2 := Int.mul_right_comm n y2 x2
  omega

theorem sh_spec {a1 h1 a2 h2 n d : Int} (hv1 : wvB a1 h1 = true) (hv2 : wvB a2 h2 = true) (hf : fvB n d = true) :
    let x1 := wrN a1 h1; let x2 := wrD a1 h1; let y1 := wrN a2 h2; let y2 := wrD a2 h2
    ((x1 = y1 ∧ x2 = y2) → shOk a1 h1 a2 h2 n d = false) ∧
    (¬ (x1 = y1 ∧ x2 = y2) → x1 * y2 - y1 * x2 ≠ 0 ∧ foN ((n * y2 - y1 * d) * x2) (d * (x1 * y2 - y1 * x2)) = foN (shA a1 a2 h2 n d) (shB a1 h1 a2 h2 d) ∧ foD ((n * y2 - y1 * d) * x2) (d * (x1 * y2 - y1 * x2)) = foD (shA a1 a2 h2 n d) (shB a1 h1 a2 h2 d)) ∧
    (0 < x1 * y2 - y1 * x2 → shOk a1 h1 a2 h2 n d = (foOk ((n * y2 - y1 * d) * x2) (d * (x1 * y2 - y1 * x2)) && (!decide (n * y2 < y1 * d) && !decide (x1 * d < n * x2)))) ∧
    (x1 * y2 - y1 * x2 < 0 → shOk a1 h1 a2 h2 n d = (foOk ((n * y2 - y1 * d) * x2) (d * (x1 * y2 - y1 * x2)) && (!decide (n * x2 < x1 * d) && !decide (y1 * d < n * y2)))) := by
  intro x1 x2 y1 y2
  obtain ⟨_, g, hg, gx, gy, k1, k2, k3, k4, k5, _⟩ := wr_facts hv1
  obtain ⟨_, k, hk, ex, ey, l1, l2, l3, l4, l5, _⟩ := wr_facts hv2
  obtain ⟨x5, x6, x7, x8, _⟩ := fv_bd hf
  obtain ⟨u1, u2, u3, u4⟩ := wv_bd hv1
  obtain ⟨v1, v2, v3, v4⟩ := wv_bd hv2
  have hgo : shGo a1 h1 a2 h2 n d = true := by unfold shGo; rw [hv1, hv2, hf]; rfl
  change h1 = x1 * g at gx
  change a1 = x2 * g at gy
  change h2 = y1 * k at ex
  change a2 = y2 * k at ey
  change 0 ≤ x1 at k1
  change x1 ≤ x2 at k2
  change 1 ≤ x2 at k3
  change x2 ≤ 1000 at k4
  change Int.gcd x1 x2 = 1 at k5
  change 0 ≤ y1 at l1
  change y1 ≤ y2 at l2
  change 1 ≤ y2 at l3
  change y2 ≤ 1000 at l4
  change Int.gcd y1 y2 = 1 at l5
  generalize x1 = x1 at *
  generalize x2 = x2 at *
  generalize y1 = y1 at *
  generalize y2 = y2 at *
  have hgk : g * k ≠ 0 := Int.mul_ne_zero (by omega) (by omega)
  have cA : shA a1 a2 h2 n d = (n * y2 - y1 * d) * x2 * (g * k) := by
    unfold shA
    have e : n * a2 - h2 * d = (n * y2 - y1 * d) * k := by
      rw [ex, ey, Int.sub_mul, Int.mul_assoc n, Int.mul_right_comm y1 k d]
    rw [e, gy, Int.mul_assoc, Int.mul_left_comm k x2 g, Int.mul_comm k g, ← Int.mul_assoc]
  have cB : shB a1 h1 a2 h2 d = d * (x1 * y2 - y1 * x2) * (g * k) := by
    unfold shB
    have e : h1 * a2 - h2 * a1 = (x1 * y2 - y1 * x2) * (g * k) := by
      rw [Int.sub_mul]
      congr 1
      · rw [gx, ey, Int.mul_assoc, Int.mul_left_comm g y2 k, ← Int.mul_assoc]
      · rw [ex, gy, Int.mul_assoc, Int.mul_left_comm k x2 g, Int.mul_comm k g, ← Int.mul_assoc]
    rw [e, ← Int.mul_assoc]
  obtain ⟨_, _, _, _, b1, b2⟩ := sh_bd (a1 := x2) (h1 := x1) (a2 := y2) (h2 := y1) (n := n) (d := d) (by omega) (by omega) (by omega) (by omega) (by omega) (by omega) (by omega) (by omega) (by omega) (by omega) (by omega) (by omega)
  obtain ⟨_, _, _, _, b3, b4⟩ := sh_bd (a1 := a1) (h1 := h1) (a2 := a2) (h2 := h2) (n := n) (d := d) (by omega) (by omega) (by omega) (by omega) (by omega) (by omega) (by omega) (by omega) (by omega) (by omega) (by omega) (by omega)
  have key : x1 * y2 - y1 * x2 ≠ 0 → foOk (shA a1 a2 h2 n d) (shB a1 h1 a2 h2 d) = foOk ((n * y2 - y1 * d) * x2) (d * (x1 * y2 - y1 * x2)) ∧ foN (shA a1 a2 h2 n d) (shB a1 h1 a2 h2 d) = foN ((n * y2 - y1 * d) * x2) (d * (x1 * y2 - y1 * x2)) ∧ foD (shA a1 a2 h2 n d) (shB a1 h1 a2 h2 d) = foD ((n * y2 - y1 * d) * x2) (d * (x1 * y2 - y1 * x2)) := by
    intro hp
    have hM : d * (x1 * y2 - y1 * x2) ≠ 0 := Int.mul_ne_zero (by omega) hp
    have hM2 : d * (x1 * y2 - y1 * x2) * (g * k) ≠ 0 := Int.mul_ne_zero hM hgk
    rw [cA, cB]
    refine fo_scale hM hgk ?_
    have big1 : bigB ((n * y2 - y1 * d) * x2) (d * (x1 * y2 - y1 * x2)) = true := by
      unfold bigB; simp only [decide_eq_true_eq]; exact ⟨hM, by omega, by omega, by omega, by omega⟩
    rw [big1, ← cA, ← cB]
    rw [← cB] at hM2
    unfold bigB; simp only [decide_eq_true_eq]
    exact ⟨hM2, by unfold shA; omega, by unfold shA; omega, by unfold shB; omega, by unfold shB; omega⟩
  have split : x1 * y2 - y1 * x2 ≠ 0 → shOk a1 h1 a2 h2 n d = (foOk ((n * y2 - y1 * d) * x2) (d * (x1 * y2 - y1 * x2)) && decide ((0 < d * (x1 * y2 - y1 * x2) → 0 ≤ (n * y2 - y1 * d) * x2 ∧ (n * y2 - y1 * d) * x2 ≤ d * (x1 * y2 - y1 * x2)) ∧ (d * (x1 * y2 - y1 * x2) < 0 → (n * y2 - y1 * d) * x2 ≤ 0 ∧ d * (x1 * y2 - y1 * x2) ≤ (n * y2 - y1 * d) * x2))) := by
    intro hp
    obtain ⟨q1, q2, q3⟩ := key hp
    have hM : d * (x1 * y2 - y1 * x2) ≠ 0 := Int.mul_ne_zero (by omega) hp
    unfold shOk
    rw [hgo, q1, q2, q3]
    cases hok : foOk ((n * y2 - y1 * d) * x2) (d * (x1 * y2 - y1 * x2)) with
    | false => rfl
    | true =>
      unfold foN foD shIn
      rw [if_pos hok, if_pos hok]
      simp only [Bool.true_and]
      exact decide_eq_decide.2 (red_in hM)
  have hdf := sh_diff n d x1 x2 y1 y2
  have m1 := nn_mul (p := n * y2 - y1 * d) (x := x2) (by omega)
  have m2 := np_mul (p := n * y2 - y1 * d) (x := x2) (by omega)
  have m3 := nn_mul (p := x1 * d - n * x2) (x := y2) (by omega)
  have m4 := np_mul (p := x1 * d - n * x2) (x := y2) (by omega)
  refine ⟨?_, ?_, ?_, ?_⟩
  · rintro ⟨rfl, rfl⟩
    have : shB a1 h1 a2 h2 d = 0 := by rw [cB]; simp
    unfold shOk foOk bigB
    rw [this]; simp
  · intro hne
    have hp : x1 * y2 - y1 * x2 ≠ 0 := by
      intro h0
      apply hne
      have e : x1 * y2 = y1 * x2 := by omega
      have d1 : x2 ∣ y2 := coprime_dvd k5 ⟨y1, by rw [e, Int.mul_comm]⟩
      have d2 : y2 ∣ x2 := coprime_dvd l5 ⟨x1, by rw [← e, Int.mul_comm]⟩
      have c1 := Int.le_of_dvd (by omega) d1
      have c2 := Int.le_of_dvd (by omega) d2
      have e2 : x2 = y2 := by omega
      subst e2
      exact ⟨Int.eq_of_mul_eq_mul_right (by omega) e, rfl⟩
    obtain ⟨q1, q2, q3⟩ := key hp
    exact ⟨hp, q2.symm, q3.symm⟩
  · intro hp
    rw [split (by omega)]
    congr 1
    have hM : 0 < d * (x1 * y2 - y1 * x2) := Int.mul_pos (by omega) hp
    rw [Bool.eq_iff_iff]
    simp only [decide_eq_true_eq, Bool.and_eq_true, Bool.not_eq_true', decide_eq_false_iff_not]
    generalize d * (x1 * y2 - y1 * x2) = M at *
    generalize (n * y2 - y1 * d) * x2 = N at *
    generalize (x1 * d - n * x2) * y2 = Q at *
    omega
  · intro hp
    rw [split (by omega)]
    congr 1
    have hM : d * (x1 * y2 - y1 * x2) < 0 := Int.mul_neg_of_pos_of_neg (by omega) hp
    rw [Bool.eq_iff_iff]
    simp only [decide_eq_true_eq, Bool.and_eq_true, Bool.not_eq_true', decide_eq_false_iff_not]
    generalize d * (x1 * y2 - y1 * x2) = M at *
    generalize (n * y2 - y1 * d) * x2 = N at *
    generalize (x1 * d - n * x2) * y2 = Q at *
    omega
end Go.Proofs.Ytkblbppemjnpdaa
