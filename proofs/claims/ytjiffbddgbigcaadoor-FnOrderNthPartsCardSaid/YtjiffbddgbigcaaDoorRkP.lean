/- The rank of a text, letter by letter; where a part lies in a text: plain lemmas, no program. -/
import Derived.Test.YtjiffbddgbigcaaDoorSeg
namespace Go.Proofs.YtjiffbddgbigcaaDoor
set_option linter.unusedVariables false
set_option linter.unusedSimpArgs false

/-- What is told and what is left of a rank. -/
def RkI (s : List UInt8) (R k α β ρ : Nat) : Prop :=
  k ≤ s.length ∧ ab (s.drop k) = true ∧ (s.drop k).count 97 = α ∧ (s.drop k).count 98 = β ∧ ρ + rk (s.drop k) α β = R
theorem RkI.start {s : List UInt8} (h : ab s = true) : RkI s (rk s (s.count 97) (s.count 98)) 0 (s.count 97) (s.count 98) 0 :=
  ⟨Nat.zero_le _, h, rfl, rfl, Nat.zero_add _⟩
theorem ab_cons {c : UInt8} {s : List UInt8} (h : ab (c :: s) = true) : (c = 97 ∨ c = 98) ∧ ab s = true := by
  unfold ab at h ⊢
  rw [List.all_cons] at h
  simp only [Bool.and_eq_true, decide_eq_true_eq] at h
  exact h
theorem RkI.letter {s : List UInt8} {R k α β ρ : Nat} (h : RkI s R k α β ρ) (hk : k < s.length) : s[k] = 97 ∨ s[k] = 98 := by
  obtain ⟨h1, h2, _⟩ := h
  rw [List.drop_eq_getElem_cons hk] at h2
  exact (ab_cons h2).1
theorem RkI.a {s : List UInt8} {R k α β ρ : Nat} (h : RkI s R k α β ρ) (hk : k < s.length) (hc : s[k] = 97) : ∃ α', α = α' + 1 ∧ RkI s R (k + 1) α' β ρ := by
  obtain ⟨h1, h2, h3, h4, h5⟩ := h
  rw [List.drop_eq_getElem_cons hk, hc] at h2 h3 h4 h5
  rw [List.count_cons] at h3 h4
  simp at h3 h4
  rw [rk_a] at h5
  refine ⟨α - 1, by omega, by omega, (ab_cons h2).2, by omega, h4, h5⟩
theorem RkI.b {s : List UInt8} {R k α β ρ : Nat} (h : RkI s R k α β ρ) (hk : k < s.length) (hc : s[k] = 98) : ∃ β', β = β' + 1 ∧ RkI s R (k + 1) α β' (ρ + (if 0 < α then ch (α - 1) β else 0)) := by
  obtain ⟨h1, h2, h3, h4, h5⟩ := h
  rw [List.drop_eq_getElem_cons hk, hc] at h2 h3 h4 h5
  rw [List.count_cons] at h3 h4
  simp at h3 h4
  rw [rk_b] at h5
  refine ⟨β - 1, by omega, by omega, (ab_cons h2).2, h3, by omega, by omega⟩
theorem RkI.done {s : List UInt8} {R α β ρ : Nat} (h : RkI s R s.length α β ρ) : ρ = R := by
  obtain ⟨h1, h2, h3, h4, h5⟩ := h
  rw [List.drop_length] at h5
  have : rk [] α β = 0 := rfl
  omega

/-- Where part k begins. -/
def off (f : Nat → List UInt8) : Nat → Nat
  | 0 => 0
  | k + 1 => off f k + (f k).length + 1
theorem off_front (f : Nat → List UInt8) : ∀ k, off f (k + 1) = (f 0).length + 1 + off (fun i => f (i + 1)) k
  | 0 => by show 0 + (f 0).length + 1 = _ + 0; omega
  | k + 1 => by
    show off f (k + 1) + (f (k + 1)).length + 1 = _ + (off (fun i => f (i + 1)) k + (f (k + 1)).length + 1)
    rw [off_front f k]
    omega
theorem jn_part : ∀ (n : Nat) (f : Nat → List UInt8) (k : Nat), k < n → ((jn f n).drop (off f k)).take (f k).length = f k ∧ off f k + (f k).length ≤ (jn f n).length
  | 0, _, k, h => absurd h (by omega)
  | 1, f, k, h => by
    obtain rfl : k = 0 := by omega
    rw [jn_one]
    show ((f 0).drop 0).take (f 0).length = f 0 ∧ 0 + _ ≤ _
    rw [List.drop_zero, List.take_length]
    exact ⟨rfl, by omega⟩
  | n + 1 + 1, f, k, h => by
    rw [jn_front]
    cases k with
    | zero =>
      show ((f 0 ++ [124] ++ _).drop 0).take _ = _ ∧ 0 + _ ≤ _
      rw [List.drop_zero, List.append_assoc, List.take_left]
      refine ⟨rfl, ?_⟩
      simp only [List.length_append]
      omega
    | succ k =>
      obtain ⟨i1, i2⟩ := jn_part (n + 1) (fun i => f (i + 1)) k (by omega)
      rw [off_front]
      have e : (f 0 ++ [124] : List UInt8).length = (f 0).length + 1 := by simp
      rw [← e, List.drop_append, List.drop_eq_nil_of_le (by omega), List.nil_append, Nat.add_sub_cancel_left]
      refine ⟨i1, ?_⟩
      have i3 : off (fun i => f (i + 1)) k + (f (k + 1)).length ≤ _ := i2
      simp only [List.length_append, List.length_cons, List.length_nil] at e i3 ⊢
      omega
/-- Part k of a text. -/
def off9 (l : List UInt8) (k : Nat) : Nat := off (gS (sg l)) k
theorem sg_part {l : List UInt8} {k : Nat} (h : k < (sg l).length) : (l.drop (off9 l k)).take (gS (sg l) k).length = gS (sg l) k ∧ off9 l k + (gS (sg l) k).length ≤ l.length := by
  have e := jn_part (sg l).length (gS (sg l)) k h
  rw [sg_join] at e
  exact e
theorem off9_zero (l : List UInt8) : off9 l 0 = 0 := rfl
theorem off9_succ (l : List UInt8) (k : Nat) : off9 l (k + 1) = off9 l k + (gS (sg l) k).length + 1 := rfl
theorem pr_part {l : List UInt8} (h : prB l = true) {k : Nat} (hk : k < (cA l).length) :
    ab (gS (sg l) k) = true ∧ (gS (sg l) k).count 97 = ni (cA l) k ∧ (gS (sg l) k).count 98 = ni (cB l) k ∧ (gS (sg l) k).length = ni (cA l) k + ni (cB l) k := by
  rw [cA_len] at hk
  have a := (pr_yes h).2 _ (gS_mem hk)
  have c := (ab_count (gS (sg l) k)).2.mpr a
  have p := pr_ni (l := l) k
  exact ⟨a, p.1.symm, p.2.symm, by omega⟩

/-- The rank's own bounds. -/
theorem hn_bd {l : List UInt8} (h : prB l = true) {k : Nat} (hk : k ≤ (cA l).length) : hn (cA l) (cB l) (dR l) k ≤ 728933458176 := by
  have a := hn_lt (A := cA l) (B := cB l) (d := dR l) k (fun i hi => dR_lt h i (by omega))
  have b := (pd_bd (pr_yes h).1 0 k (by omega)).2
  omega
theorem hs_bd {l : List UInt8} (h : prB l = true) {k : Nat} (hk : k ≤ (cA l).length) : hs (cA l) (cB l) (dR l) k ≤ 728933458176 := by
  rw [hs_hn (dR l) k hk]
  have a := hn_lt (A := cA l) (B := cB l) (d := dR l) k (fun i hi => dR_lt h i (by omega))
  have e := pd_add (cA l) (cB l) 0 k ((cA l).length - k)
  rw [show k + ((cA l).length - k) = (cA l).length by omega, Nat.zero_add] at e
  have b := (pd_bd (pr_yes h).1 0 (cA l).length (by omega)).2
  have c : hn (cA l) (cB l) (dR l) k * tl (cA l) (cB l) k ≤ pd (cA l) (cB l) 0 k * tl (cA l) (cB l) k := Nat.mul_le_mul_right _ (by omega)
  unfold tl at c ⊢
  omega
/-- What a round of the rank is made of. -/
theorem rank_step {l : List UInt8} (h : prB l = true) {k : Nat} (hk : k < (cA l).length) : ∃ α β τ δ ν : Nat, it (cA l) k = (α : Int) ∧ it (cB l) k = (β : Int) ∧ α ≤ 6 ∧ β ≤ 6 ∧
    ab (gS (sg l) k) = true ∧ (gS (sg l) k).count 97 = α ∧ (gS (sg l) k).count 98 = β ∧ (gS (sg l) k).length = α + β ∧ rk (gS (sg l) k) α β = δ ∧ ch α β = τ ∧ τ ≤ 924 ∧ δ ≤ 924 ∧
    hn (cA l) (cB l) (dR l) k = ν ∧ ν ≤ 728933458176 ∧ hn (cA l) (cB l) (dR l) (k + 1) = ν * τ + δ ∧ ν * τ + δ ≤ 728933458176 := by
  obtain ⟨p1, p2, p3, p4⟩ := pr_part h hk
  have b := ni_bd (pr_yes h).1 hk
  have g := ok_true (pr_yes h).1
  have d := dR_lt h k hk
  have c := ch_bd _ b.1 _ b.2
  have s : hn (cA l) (cB l) (dR l) (k + 1) = hn (cA l) (cB l) (dR l) k * ch (ni (cA l) k) (ni (cB l) k) + dR l k := rfl
  refine ⟨ni (cA l) k, ni (cB l) k, _, _, _, ?_, ?_, by omega, by omega, p1, p2, p3, p4, rfl, rfl, c, ?_, rfl, hn_bd h (by omega), s, ?_⟩
  · have := g.2.2.2.1 k hk
    unfold ni; omega
  · have := g.2.2.2.2 k hk
    unfold ni; omega
  · unfold cc dR at d; omega
  · have := hn_bd h (k := k + 1) (by omega)
    rw [s] at this
    exact this
theorem rank_step2 {l : List UInt8} (h : prB l = true) {k : Nat} (hk : k < (cA l).length) : ∃ α β τ δ ν : Nat, it (cA l) k = (α : Int) ∧ it (cB l) k = (β : Int) ∧ α ≤ 6 ∧ β ≤ 6 ∧
    ab (gS (sg l) k) = true ∧ (gS (sg l) k).count 97 = α ∧ (gS (sg l) k).count 98 = β ∧ (gS (sg l) k).length = α + β ∧ rk (gS (sg l) k) α β = δ ∧ tl (cA l) (cB l) (k + 1) = τ ∧ τ ≤ 728933458176 ∧ δ ≤ 924 ∧
    hs (cA l) (cB l) (dR l) k = ν ∧ ν ≤ 728933458176 ∧ hs (cA l) (cB l) (dR l) (k + 1) = ν + δ * τ ∧ ν + δ * τ ≤ 728933458176 := by
  obtain ⟨p1, p2, p3, p4⟩ := pr_part h hk
  have b := ni_bd (pr_yes h).1 hk
  have g := ok_true (pr_yes h).1
  have d := dR_lt h k hk
  have c := ch_bd _ b.1 _ b.2
  have q := (pd_bd (pr_yes h).1 (k + 1) ((cA l).length - (k + 1)) (by omega)).2
  have s : hs (cA l) (cB l) (dR l) (k + 1) = hs (cA l) (cB l) (dR l) k + dR l k * tl (cA l) (cB l) (k + 1) := rfl
  refine ⟨ni (cA l) k, ni (cB l) k, _, _, _, ?_, ?_, by omega, by omega, p1, p2, p3, p4, rfl, rfl, q, ?_, rfl, hs_bd h (by omega), s, ?_⟩
  · have := g.2.2.2.1 k hk
    unfold ni; omega
  · have := g.2.2.2.2 k hk
    unfold ni; omega
  · unfold cc dR at d; omega
  · have := hs_bd h (k := k + 1) (by omega)
    rw [s] at this
    exact this
theorem rkV_yes {l : List UInt8} (h : prB l = true) : rkV l = (hn (cA l) (cB l) (dR l) (cA l).length : Int) := by
  unfold rkV rkN
  rw [if_pos h]
theorem rkV_yes2 {l : List UInt8} (h : prB l = true) : rkV l = (hs (cA l) (cB l) (dR l) (cA l).length : Int) := by
  rw [rkV_yes h, hs_all]
theorem rkV_no {l : List UInt8} (h : prB l = false) : rkV l = -1 := by
  unfold rkV
  rw [if_neg (by simp [h])]
end Go.Proofs.YtjiffbddgbigcaaDoor
