/- Plain lemmas on ratios. -/
import Derived.Test.YtkblbppemjnpdaaFrac2
namespace Go.Proofs.Ytkblbppemjnpdaa

theorem wr_of {a h n d : Int} (hv : wvB a h = true) (hd : 1 ≤ d) (hg : Int.gcd n d = 1) (e : n * a = h * d) : wrOk a h = true ∧ wrN a h = n ∧ wrD a h = d := by
  obtain ⟨o, _, _, _, _, _, _, _, _, _, e1, e2⟩ := wr_facts hv
  obtain ⟨h1, h2, h3, h4⟩ := wv_bd hv
  obtain ⟨r1, r2⟩ := red_unique (a := h) (b := a) (n := n) (d := d) (by omega) hd hg e
  exact ⟨o, by rw [e1, r1], by rw [e2, r2]⟩

theorem wv_mk {a h : Int} (h1 : 1 ≤ a) (h2 : a ≤ 1000) (h3 : 0 ≤ h) (h4 : h ≤ a) : wvB a h = true := by unfold wvB; simp; omega

theorem ratio_zero {x y : Int} (h : wvB x y = true) : wrOk x 0 = true ∧ wrN x 0 = 0 ∧ wrD x 0 = 1 := by
  obtain ⟨h1, h2, h3, h4⟩ := wv_bd h
  exact wr_of (wv_mk h1 h2 (by omega) (by omega)) (by omega) (by decide) (by omega)

theorem ratio_one {x y : Int} (h : wvB x y = true) : wrOk x x = true ∧ wrN x x = 1 ∧ wrD x x = 1 := by
  obtain ⟨h1, h2, h3, h4⟩ := wv_bd h
  exact wr_of (wv_mk h1 h2 (by omega) (by omega)) (by omega) (by decide) (by omega)

theorem wr_fv {a h : Int} (hv : wvB a h = true) : fvB (wrN a h) (wrD a h) = true := by
  obtain ⟨_, g, _, _, _, k1, k2, k3, k4, k5, _⟩ := wr_facts hv
  unfold fvB; simp; exact ⟨by omega, by omega, by omega, by omega, k5⟩

theorem frac_cmp {n d m e x y z g k : Int} (hx : 0 < x) (hg : 1 ≤ g) (hk : 1 ≤ k) (e1 : y = n * g) (e2 : x = d * g) (e3 : z = m * k) (e4 : x = e * k) : (n * e < m * d ↔ y < z) := by
  have hp : 0 < g * k := Int.mul_pos (by omega) (by omega)
  have l : n * e * (g * k) = y * x := by
    rw [e1]; conv => rhs; rw [e4]
    rw [Int.mul_assoc n e, Int.mul_left_comm e g k, ← Int.mul_assoc n g]
  have r : m * d * (g * k) = z * x := by
    rw [e3]; conv => rhs; rw [e2]
    rw [Int.mul_comm g k, Int.mul_assoc m d, Int.mul_left_comm d k g, ← Int.mul_assoc m k]
  constructor
  · intro h
    have h' := Int.mul_lt_mul_of_pos_right h hp
    rw [l, r] at h'
    exact Int.lt_of_mul_lt_mul_right h' (by omega)
  · intro h
    have h' := Int.mul_lt_mul_of_pos_right h hx
    rw [← l, ← r] at h'
    exact Int.lt_of_mul_lt_mul_right h' (by omega)

theorem ratio_cmp {x y z : Int} (h1 : wvB x y = true) (h2 : wvB x z = true) : flB (wrN x y) (wrD x y) (wrN x z) (wrD x z) = decide (y < z) := by
  unfold flB
  rw [wr_fv h1, wr_fv h2]
  obtain ⟨_, g, hg, a1, a2, _⟩ := wr_facts h1
  obtain ⟨_, k, hk, b1, b2, _⟩ := wr_facts h2
  have hx := (wv_bd h1).1
  rw [Bool.eq_iff_iff]
  simp
  exact frac_cmp (x := x) (y := y) (z := z) (by omega) hg hk a1 a2 b1 b2

theorem ratio_next {x y : Int} (h : wvB x y = true) : (wvB x (y + 1) = false ∧ wrOk x (y + 1) = false) ∨ (wrOk x (y + 1) = true ∧ flB (wrN x y) (wrD x y) (wrN x (y + 1)) (wrD x (y + 1)) = true) := by
  by_cases hv : wvB x (y + 1) = true
  · refine .inr ⟨(wr_facts hv).1, ?_⟩
    rw [ratio_cmp h hv]; simp; omega
  · have hv' : wvB x (y + 1) = false := by simpa using hv
    exact .inl ⟨hv', (wr_no hv').2.2⟩

theorem fo_one {D : Int} (h1 : 1 ≤ D) (h2 : D ≤ 4000000000000000000) : foOk D D = true ∧ foN D D = 1 ∧ foD D D = 1 := by
  obtain ⟨e1, e2⟩ := red_unique (a := D) (b := D) (n := 1) (d := 1) (by omega) (by omega) (by decide) (by omega)
  have hb : bigB D D = true := by unfold bigB; simp; omega
  have hf : fvB (redN D D) (redD D D) = true := by rw [e1, e2]; decide
  have ho : foOk D D = true := by unfold foOk; rw [hb, hf]; rfl
  unfold foN foD
  rw [ho, e1, e2]; exact ⟨rfl, rfl, rfl⟩

theorem ratio_sum {x y : Int} (h : wvB x y = true) : wrOk x (x - y) = true ∧ faOk (wrN x y) (wrD x y) (wrN x (x - y)) (wrD x (x - y)) = true ∧ faN (wrN x y) (wrD x y) (wrN x (x - y)) (wrD x (x - y)) = 1 ∧ faD (wrN x y) (wrD x y) (wrN x (x - y)) (wrD x (x - y)) = 1 := by
  obtain ⟨h1, h2, h3, h4⟩ := wv_bd h
  have hv : wvB x (x - y) = true := wv_mk h1 h2 (by omega) (by omega)
  obtain ⟨e1, e2, e3⟩ := faN_yes (wr_fv h) (wr_fv hv)
  obtain ⟨o1, g, hg, a1, a2, c1, c2, c3, c4, _⟩ := wr_facts h
  obtain ⟨o2, k, hk, b1, b2, d1, d2, d3, d4, _⟩ := wr_facts hv
  rw [e1, e2, e3]
  generalize wrN x y = n at *
  generalize wrD x y = d at *
  generalize wrN x (x - y) = m at *
  generalize wrD x (x - y) = e at *
  have hs : n * e + m * d = d * e := by
    have hp : (g * k) ≠ 0 := Int.mul_ne_zero (by omega) (by omega)
    apply Int.eq_of_mul_eq_mul_right hp
    have l1 : n * e * (g * k) = y * x := by
      rw [a1]; conv => rhs; rw [b2]
      rw [Int.mul_assoc n e, Int.mul_left_comm e g k, ← Int.mul_assoc n g]
    have l2 : m * d * (g * k) = (x - y) * x := by
      rw [b1]; conv => rhs; rw [a2]
      rw [Int.mul_comm g k, Int.mul_assoc m d, Int.mul_left_comm d k g, ← Int.mul_assoc m k]
    have l3 : d * e * (g * k) = x * x := by
      conv => rhs; rw [a2]
      conv => rhs; rhs; rw [← a2, b2]
      rw [Int.mul_assoc d e, Int.mul_left_comm e g k, ← Int.mul_assoc d g]
    rw [Int.add_mul, l1, l2, l3, ← Int.add_mul]
    congr 1; omega
  rw [hs]
  have m1 : 1 ≤ d * e := Int.mul_pos (by omega) (by omega)
  have m2 := (mul_bd d e 1000 1000 (by omega) (by omega) (by omega) (by omega) (by omega)).2
  obtain ⟨f1, f2, f3⟩ := fo_one m1 (by omega)
  exact ⟨o2, f1, f2, f3⟩
end Go.Proofs.Ytkblbppemjnpdaa
