/- Fractions in lowest terms: plain lemmas, no program. -/
namespace Go.Proofs.Ytkblbppemjnpdaa

def fvB (n d : Int) : Bool := decide (1 ≤ d ∧ d ≤ 1000000000 ∧ -1000000000 ≤ n ∧ n ≤ 1000000000 ∧ Int.gcd n d = 1)
def bigB (a b : Int) : Bool := decide (b ≠ 0 ∧ -4000000000000000000 ≤ a ∧ a ≤ 4000000000000000000 ∧ -4000000000000000000 ≤ b ∧ b ≤ 4000000000000000000)
def redN (a b : Int) : Int := if b < 0 then -(a / (Int.gcd a b : Int)) else a / (Int.gcd a b : Int)
def redD (a b : Int) : Int := if b < 0 then -(b / (Int.gcd a b : Int)) else b / (Int.gcd a b : Int)
def foOk (a b : Int) : Bool := bigB a b && fvB (redN a b) (redD a b)
def foN (a b : Int) : Int := if foOk a b = true then redN a b else 0
def foD (a b : Int) : Int := if foOk a b = true then redD a b else 0

theorem gcd_step (a b : Int) : Int.gcd b (a.tmod b) = Int.gcd a b := by
  unfold Int.gcd
  rw [Int.natAbs_tmod, Nat.gcd_comm, ← Nat.gcd_rec, Nat.gcd_comm]

theorem coprime_dvd {n d e : Int} (hg : Int.gcd n d = 1) (h : d ∣ n * e) : d ∣ e := by
  have h1 : d.natAbs ∣ n.natAbs * e.natAbs := by rw [← Int.natAbs_mul]; exact Int.natAbs_dvd_natAbs.2 h
  have hc : Nat.Coprime d.natAbs n.natAbs := by unfold Nat.Coprime; rw [Nat.gcd_comm]; exact hg
  exact Int.natAbs_dvd_natAbs.1 (hc.dvd_of_dvd_mul_left h1)

theorem red_parts (a b : Int) (hb : b ≠ 0) : ∃ g x y : Int, (Int.gcd a b : Int) = g ∧ 0 < g ∧ a = x * g ∧ b = y * g ∧ a / g = x ∧ b / g = y ∧ Int.gcd x y = 1 ∧ y ≠ 0 := by
  have hg : 0 < Int.gcd a b := Int.gcd_pos_of_ne_zero_right a hb
  have hgi : (0 : Int) < (Int.gcd a b : Int) := by omega
  have ha := Int.ediv_mul_cancel (Int.gcd_dvd_left a b)
  have hb' := Int.ediv_mul_cancel (Int.gcd_dvd_right a b)
  refine ⟨(Int.gcd a b : Int), a / (Int.gcd a b : Int), b / (Int.gcd a b : Int), rfl, hgi, ha.symm, hb'.symm, rfl, rfl, ?_, ?_⟩
  · rw [Int.gcd_ediv (Int.gcd_dvd_left a b) (Int.gcd_dvd_right a b)]
    simp only [Int.natAbs_natCast]
    exact Nat.div_self hg
  · intro h
    rw [h] at hb'
    simp at hb'
    exact hb hb'.symm

theorem red_spec (a b : Int) (hb : b ≠ 0) : 1 ≤ redD a b ∧ Int.gcd (redN a b) (redD a b) = 1 ∧ redN a b * b = a * redD a b := by
  obtain ⟨g, x, y, hg, hg0, ha, hb2, ex, ey, hc, hy⟩ := red_parts a b hb
  unfold redN redD
  rw [hg, ex, ey]
  by_cases hn : b < 0
  · rw [if_pos hn, if_pos hn]
    have hy0 : y < 0 := by
      rcases Int.lt_or_lt_of_ne hy with h | h
      · exact h
      · have := Int.mul_pos h hg0; omega
    refine ⟨by omega, by rw [Int.neg_gcd, Int.gcd_neg]; exact hc, ?_⟩
    rw [ha, hb2, Int.neg_mul, Int.mul_neg]
    congr 1
    rw [Int.mul_assoc, Int.mul_comm y g]
  · rw [if_neg hn, if_neg hn]
    have hy0 : 0 < y := by
      rcases Int.lt_or_lt_of_ne hy with h | h
      · have := Int.mul_neg_of_neg_of_pos h hg0; omega
      · exact h
    refine ⟨by omega, hc, ?_⟩
    rw [ha, hb2, Int.mul_assoc, Int.mul_comm y g]

theorem red_unique {a b n d : Int} (hb : b ≠ 0) (hd : 1 ≤ d) (hg : Int.gcd n d = 1) (h : n * b = a * d) : redN a b = n ∧ redD a b = d := by
  obtain ⟨h1, h2, h3⟩ := red_spec a b hb
  generalize redN a b = n' at *
  generalize redD a b = d' at *
  have hx : n * d' = n' * d := by
    apply Int.eq_of_mul_eq_mul_right hb
    calc n * d' * b = n * b * d' := by rw [Int.mul_right_comm]
      _ = a * d * d' := by rw [h]
      _ = a * d' * d := by rw [Int.mul_right_comm]
      _ = n' * b * d := by rw [h3]
      _ = n' * d * b := by rw [Int.mul_right_comm]
  have k1 : d ∣ d' := coprime_dvd hg ⟨n', by rw [hx, Int.mul_comm]⟩
  have k2 : d' ∣ d := coprime_dvd h2 ⟨n, by rw [← hx, Int.mul_comm]⟩
  have l1 := Int.le_of_dvd (by omega) k1
  have l2 := Int.le_of_dvd (by omega) k2
  have e : d' = d := by omega
  subst e
  exact ⟨(Int.eq_of_mul_eq_mul_right (by omega) hx).symm, rfl⟩

theorem red_scale {a b c : Int} (hb : b ≠ 0) (hc : c ≠ 0) : redN (a * c) (b * c) = redN a b ∧ redD (a * c) (b * c) = redD a b := by
  obtain ⟨h1, h2, h3⟩ := red_spec a b hb
  refine red_unique (Int.mul_ne_zero hb hc) h1 h2 ?_
  rw [← Int.mul_assoc, h3, Int.mul_right_comm]

theorem fo_scale {a b c : Int} (hb : b ≠ 0) (hc : c ≠ 0) (h1 : bigB (a * c) (b * c) = bigB a b) : foOk (a * c) (b * c) = foOk a b ∧ foN (a * c) (b * c) = foN a b ∧ foD (a * c) (b * c) = foD a b := by
  obtain ⟨e1, e2⟩ := red_scale (a := a) hb hc
  have e3 : foOk (a * c) (b * c) = foOk a b := by unfold foOk; rw [h1, e1, e2]
  refine ⟨e3, ?_, ?_⟩
  · unfold foN; rw [e3, e1]
  · unfold foD; rw [e3, e2]

/-- What the division by the greatest common divisor gives, whichever sign is turned. -/
theorem red_tdiv (a b : Int) : redN a b = (if b < 0 then a.tdiv (-(Int.gcd a b : Int)) else a.tdiv (Int.gcd a b : Int)) ∧ redD a b = (if b < 0 then b.tdiv (-(Int.gcd a b : Int)) else b.tdiv (Int.gcd a b : Int)) := by
  unfold redN redD
  rw [Int.tdiv_neg, Int.tdiv_neg, Int.tdiv_eq_ediv_of_dvd (Int.gcd_dvd_left a b), Int.tdiv_eq_ediv_of_dvd (Int.gcd_dvd_right a b)]
  exact ⟨rfl, rfl⟩

theorem gcd_le (a b : Int) (hb : b ≠ 0) (m : Int) (h1 : -m ≤ b) (h2 : b ≤ m) : 1 ≤ (Int.gcd a b : Int) ∧ (Int.gcd a b : Int) ≤ m := by
  have h := Int.gcd_pos_of_ne_zero_right a hb
  have k : Int.gcd a b ∣ b.natAbs := Nat.gcd_dvd_right _ _
  have := Nat.le_of_dvd (by omega) k
  omega

theorem red_bd (a b : Int) (hb : b ≠ 0) (m : Int) (h1 : -m ≤ a) (h2 : a ≤ m) (h3 : -m ≤ b) (h4 : b ≤ m) : -m ≤ redN a b ∧ redN a b ≤ m ∧ -m ≤ redD a b ∧ redD a b ≤ m := by
  obtain ⟨g, x, y, hg, hg0, ha, hb2, ex, ey, hc, hy⟩ := red_parts a b hb
  have kx : x.natAbs ≤ a.natAbs := by
    rw [ha, Int.natAbs_mul]; exact Nat.le_mul_of_pos_right _ (by omega)
  have ky : y.natAbs ≤ b.natAbs := by
    rw [hb2, Int.natAbs_mul]; exact Nat.le_mul_of_pos_right _ (by omega)
  unfold redN redD
  rw [hg, ex, ey]
  split <;> omega
end Go.Proofs.Ytkblbppemjnpdaa
