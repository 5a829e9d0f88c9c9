/- Ranks of orders: digits of mixed bases; joined texts: plain lemmas, no program. -/
import Derived.Test.YtjiffbddgbigcaaDoorTxt
namespace Go.Proofs.YtjiffbddgbigcaaDoor
set_option linter.unusedVariables false
set_option linter.unusedSimpArgs false

/-- The product of all parts from k on. -/
def tl (A B : List Int) (k : Nat) : Nat := pd A B k (A.length - k)
def cc (A B : List Int) (k : Nat) : Nat := ch (ni A k) (ni B k)
theorem cc_pos (A B : List Int) (k : Nat) : 1 ≤ cc A B k := ch_pos _ _
theorem tl_pos (A B : List Int) (k : Nat) : 1 ≤ tl A B k := pd_pos _ _ _ _
theorem tl_last (A B : List Int) : tl A B A.length = 1 := by
  unfold tl
  rw [Nat.sub_self]
  rfl
theorem tl_step {A B : List Int} {k : Nat} (h : k < A.length) : tl A B k = cc A B k * tl A B (k + 1) := by
  unfold tl cc
  rw [show A.length - k = (A.length - (k + 1)) + 1 by omega]
  exact pd_first A B k _
def dg (A B : List Int) (r k : Nat) : Nat := r / tl A B (k + 1) % cc A B k
theorem dg_lt (A B : List Int) (r k : Nat) : dg A B r k < cc A B k := Nat.mod_lt _ (cc_pos A B k)
/-- From the last part on. -/
theorem dg_down {A B : List Int} (r : Nat) {k : Nat} (h : k < A.length) : r / tl A B (k + 1) / cc A B k = r / tl A B k := by
  rw [tl_step h, Nat.mul_comm, Nat.div_div_eq_div_mul]
/-- From the first part on. -/
theorem dg_up {A B : List Int} (r : Nat) {k : Nat} (h : k < A.length) : r % tl A B k / tl A B (k + 1) = dg A B r k := by
  unfold dg
  rw [tl_step h, Nat.mod_mul_left_div_self]
theorem rest_up {A B : List Int} (r : Nat) {k : Nat} (h : k < A.length) : r % tl A B k % tl A B (k + 1) = r % tl A B (k + 1) := by
  rw [tl_step h, Nat.mod_mul_left_mod]

/-- The part with its rank. -/
def pt (A B : List Int) (r k : Nat) : List UInt8 := txt (ni A k + ni B k) (ni A k) (ni B k) (dg A B r k)
/-- Parts joined by bars. -/
def jn (f : Nat → List UInt8) : Nat → List UInt8
  | 0 => []
  | k + 1 => (if 0 < k then jn f k ++ [124] else jn f k) ++ f k
theorem jn_one (f : Nat → List UInt8) : jn f 1 = f 0 := rfl
theorem jn_more (f : Nat → List UInt8) {k : Nat} (h : 0 < k) : jn f (k + 1) = jn f k ++ [124] ++ f k := by
  show (if 0 < k then jn f k ++ [124] else jn f k) ++ f k = _
  rw [if_pos h]
theorem jn_congr {f g : Nat → List UInt8} : ∀ k, (∀ i, i < k → f i = g i) → jn f k = jn g k
  | 0, _ => rfl
  | k + 1, h => by
    show (if 0 < k then jn f k ++ [124] else jn f k) ++ f k = (if 0 < k then jn g k ++ [124] else jn g k) ++ g k
    rw [jn_congr k (fun i hi => h i (by omega)), h k (by omega)]
/-- The first part is ahead of the others. -/
theorem jn_front (f : Nat → List UInt8) : ∀ k, jn f (k + 1 + 1) = f 0 ++ [124] ++ jn (fun i => f (i + 1)) (k + 1)
  | 0 => by rw [jn_more f (by omega), jn_one, jn_one]
  | k + 1 => by
    rw [jn_more f (k := k + 1 + 1) (by omega), jn_front f k, jn_more (k := k + 1) (fun i => f (i + 1)) (by omega)]
    simp only [List.append_assoc]
def ordT (A B : List Int) (r : Nat) : List UInt8 := jn (pt A B r) A.length

theorem pt_len (A B : List Int) (r k : Nat) : (pt A B r k).length = ni A k + ni B k := txt_len _ _ _ _ rfl (dg_lt A B r k)
theorem pt_mem (A B : List Int) (r k : Nat) : ∀ x ∈ pt A B r k, x = 97 ∨ x = 98 := txt_mem _ _ _ _ rfl (dg_lt A B r k)
theorem pt_count (A B : List Int) (r k : Nat) : (pt A B r k).count 97 = ni A k ∧ (pt A B r k).count 98 = ni B k := txt_count _ _ _ _ rfl (dg_lt A B r k)
theorem jn_len {f g : Nat → List UInt8} : ∀ k, (∀ i, i < k → (f i).length = (g i).length) → (jn f k).length = (jn g k).length
  | 0, _ => rfl
  | k + 1, h => by
    have a := jn_len k (fun i hi => h i (by omega))
    have b := h k (by omega)
    show ((if 0 < k then jn f k ++ [124] else jn f k) ++ f k).length = ((if 0 < k then jn g k ++ [124] else jn g k) ++ g k).length
    by_cases c : 0 < k
    · rw [if_pos c, if_pos c]; simp only [List.length_append]; omega
    · rw [if_neg c, if_neg c]; simp only [List.length_append]; omega
theorem jn_bd {f : Nat → List UInt8} {m : Nat} : ∀ k, (∀ i, i < k → (f i).length ≤ m) → (jn f k).length ≤ k * (m + 1)
  | 0, _ => Nat.zero_le _
  | k + 1, h => by
    have a := jn_bd k (fun i hi => h i (by omega))
    have b := h k (by omega)
    have e : (k + 1) * (m + 1) = k * (m + 1) + (m + 1) := Nat.succ_mul _ _
    show ((if 0 < k then jn f k ++ [124] else jn f k) ++ f k).length ≤ _
    by_cases c : 0 < k
    · rw [if_pos c]; simp only [List.length_append, List.length_cons, List.length_nil]; omega
    · rw [if_neg c]; simp only [List.length_append]; omega
theorem ordT_len {A B : List Int} (h : okB A B = true) (r : Nat) {k : Nat} (hk : k ≤ A.length) : (jn (pt A B r) k).length ≤ 13 * k := by
  have := jn_bd (f := pt A B r) (m := 12) k (fun i hi => by
    rw [pt_len]
    obtain ⟨n1, n2⟩ := ni_bd h (i := i) (by omega)
    omega)
  omega

/-- The digits tell the rank. -/
def hn (A B : List Int) (d : Nat → Nat) : Nat → Nat
  | 0 => 0
  | k + 1 => hn A B d k * cc A B k + d k
theorem hn_dg {A B : List Int} {r : Nat} (hr : r < tl A B 0) : ∀ k, k ≤ A.length → hn A B (dg A B r) k = r / tl A B k
  | 0, _ => by rw [Nat.div_eq_of_lt hr]; rfl
  | k + 1, hk => by
    show hn A B (dg A B r) k * cc A B k + dg A B r k = _
    rw [hn_dg hr k (by omega), ← dg_down r (by omega)]
    unfold dg
    rw [Nat.mul_comm]
    exact Nat.div_add_mod _ _
theorem hn_rank {A B : List Int} {r : Nat} (hr : r < tl A B 0) : hn A B (dg A B r) A.length = r := by
  rw [hn_dg hr _ (Nat.le_refl _), tl_last, Nat.div_one]
theorem hn_lt {A B : List Int} {d : Nat → Nat} : ∀ k, (∀ i, i < k → d i < cc A B i) → hn A B d k < pd A B 0 k
  | 0, _ => by show 0 < 1; omega
  | k + 1, h => by
    have a := hn_lt k (fun i hi => h i (by omega))
    have b := h k (by omega)
    show hn A B d k * cc A B k + d k < pd A B 0 k * ch (ni A (0 + k)) (ni B (0 + k))
    rw [Nat.zero_add]
    show _ < pd A B 0 k * cc A B k
    have c : (hn A B d k + 1) * cc A B k ≤ pd A B 0 k * cc A B k := Nat.mul_le_mul_right _ a
    rw [Nat.succ_mul] at c
    omega
theorem hn_all {A B : List Int} {d : Nat → Nat} (h : ∀ i, i < A.length → d i < cc A B i) : hn A B d A.length < tl A B 0 := hn_lt _ h
theorem hn_div {A B : List Int} {d : Nat → Nat} (h : ∀ i, i < A.length → d i < cc A B i) : ∀ j k, k + j = A.length → hn A B d A.length / tl A B k = hn A B d k
  | 0, k, e => by
    obtain rfl : k = A.length := by omega
    rw [tl_last, Nat.div_one]
  | j + 1, k, e => by
    rw [← dg_down _ (by omega), hn_div h j (k + 1) (by omega)]
    show (hn A B d k * cc A B k + d k) / cc A B k = _
    rw [Nat.mul_comm, Nat.mul_add_div (cc_pos A B k), Nat.div_eq_of_lt (h k (by omega)), Nat.add_zero]
theorem dg_hn {A B : List Int} {d : Nat → Nat} (h : ∀ i, i < A.length → d i < cc A B i) {k : Nat} (hk : k < A.length) : dg A B (hn A B d A.length) k = d k := by
  unfold dg
  rw [hn_div h (A.length - (k + 1)) (k + 1) (by omega)]
  show (hn A B d k * cc A B k + d k) % cc A B k = _
  rw [Nat.mul_comm, Nat.mul_add_mod, Nat.mod_eq_of_lt (h k hk)]
/-- The reference's sum. -/
def hs (A B : List Int) (d : Nat → Nat) : Nat → Nat
  | 0 => 0
  | k + 1 => hs A B d k + d k * tl A B (k + 1)
theorem hs_hn {A B : List Int} (d : Nat → Nat) : ∀ k, k ≤ A.length → hs A B d k = hn A B d k * tl A B k
  | 0, _ => by show 0 = 0 * _; rw [Nat.zero_mul]
  | k + 1, hk => by
    show hs A B d k + d k * tl A B (k + 1) = (hn A B d k * cc A B k + d k) * tl A B (k + 1)
    rw [hs_hn d k (by omega), tl_step (by omega), Nat.add_mul, Nat.mul_assoc]
theorem hs_all {A B : List Int} (d : Nat → Nat) : hs A B d A.length = hn A B d A.length := by
  rw [hs_hn d _ (Nat.le_refl _), tl_last, Nat.mul_one]

/-- The first difference decides. -/
theorem jn_lx {f g : Nat → List UInt8} : ∀ n k, k < n → (∀ i, i < k → f i = g i) → (∀ i, i < n → (f i).length = (g i).length) → lx (f k) (g k) = true → lx (jn f n) (jn g n) = true
  | 0, k, hk, _, _, _ => absurd hk (by omega)
  | n + 1, k, hk, h1, h2, h3 => by
    by_cases c : k = n
    · subst c
      show lx ((if 0 < k then jn f k ++ [124] else jn f k) ++ f k) ((if 0 < k then jn g k ++ [124] else jn g k) ++ g k) = true
      rw [jn_congr k h1, lx_app]
      exact h3
    · have ih := jn_lx n k (by omega) h1 (fun i hi => h2 i (by omega)) h3
      have hl := jn_len n (fun i hi => h2 i (by omega))
      show lx ((if 0 < n then jn f n ++ [124] else jn f n) ++ f n) ((if 0 < n then jn g n ++ [124] else jn g n) ++ g n) = true
      rw [if_pos (by omega), if_pos (by omega), List.append_assoc, List.append_assoc]
      exact lx_more _ _ _ _ hl ih
/-- Later ranks come later. -/
theorem dg_first {A B : List Int} {r s : Nat} (h : r < s) (hs : s < tl A B 0) : ∃ k, k < A.length ∧ (∀ i, i < k → dg A B r i = dg A B s i) ∧ dg A B r k < dg A B s k := by
  have key : ∀ k, k ≤ A.length → (r / tl A B k = s / tl A B k ∧ ∀ i, i < k → dg A B r i = dg A B s i) ∨ ∃ j, j < k ∧ (∀ i, i < j → dg A B r i = dg A B s i) ∧ dg A B r j < dg A B s j := by
    intro k
    induction k with
    | zero => intro _; exact .inl ⟨by rw [Nat.div_eq_of_lt hs, Nat.div_eq_of_lt (by omega)], fun i hi => absurd hi (by omega)⟩
    | succ k ih =>
      intro hk
      rcases ih (by omega) with ⟨e, e2⟩ | ⟨j, h1, h2, h3⟩
      · have mr := Nat.div_add_mod (r / tl A B (k + 1)) (cc A B k)
        have ms := Nat.div_add_mod (s / tl A B (k + 1)) (cc A B k)
        rw [dg_down r (by omega)] at mr
        rw [dg_down s (by omega)] at ms
        have le : r / tl A B (k + 1) ≤ s / tl A B (k + 1) := Nat.div_le_div_right (by omega)
        rw [e] at mr
        have e3 : r / tl A B (k + 1) % cc A B k = dg A B r k := rfl
        have e4 : s / tl A B (k + 1) % cc A B k = dg A B s k := rfl
        rw [e3] at mr
        rw [e4] at ms
        by_cases c : dg A B r k = dg A B s k
        · left
          refine ⟨by omega, fun i hi => ?_⟩
          by_cases z : i = k
          · subst z; exact c
          · exact e2 i (by omega)
        · right
          exact ⟨k, by omega, e2, by omega⟩
      · right
        exact ⟨j, by omega, h2, h3⟩
  rcases key A.length (Nat.le_refl _) with ⟨e, _⟩ | ⟨j, h1, h2, h3⟩
  · rw [tl_last, Nat.div_one, Nat.div_one] at e
    omega
  · exact ⟨j, h1, h2, h3⟩
theorem ordT_next {A B : List Int} {r s : Nat} (h : r < s) (hs : s < tl A B 0) : lx (ordT A B r) (ordT A B s) = true := by
  obtain ⟨k, h1, h2, h3⟩ := dg_first h hs
  unfold ordT
  refine jn_lx A.length k h1 (fun i hi => ?_) (fun i hi => by rw [pt_len, pt_len]) ?_
  · unfold pt; rw [h2 i hi]
  · unfold pt; exact txt_next _ _ _ _ _ rfl h3 (dg_lt A B s k)
theorem ordT_same (A B : List Int) (r s : Nat) : (ordT A B r).length = (ordT A B s).length := jn_len _ (fun i _ => by rw [pt_len, pt_len])
/-- The first and the last orders. -/
theorem dg_zero (A B : List Int) (k : Nat) : dg A B 0 k = 0 := by unfold dg; rw [Nat.zero_div, Nat.zero_mod]
theorem dg_last {A B : List Int} {k : Nat} (hk : k < A.length) : dg A B (tl A B 0 - 1) k = cc A B k - 1 := by
  have h : ∀ i, i < A.length → cc A B i - 1 < cc A B i := fun i _ => by have := cc_pos A B i; omega
  have e := dg_hn (d := fun i => cc A B i - 1) h hk
  have key : ∀ k, hn A B (fun i => cc A B i - 1) k = pd A B 0 k - 1 := by
    intro k
    induction k with
    | zero => rfl
    | succ k ih =>
      show hn A B (fun i => cc A B i - 1) k * cc A B k + (cc A B k - 1) = pd A B 0 k * ch (ni A (0 + k)) (ni B (0 + k)) - 1
      rw [Nat.zero_add, ih]
      show _ = pd A B 0 k * cc A B k - 1
      have p := pd_pos A B 0 k
      have q := cc_pos A B k
      obtain ⟨u, hu⟩ : ∃ u, pd A B 0 k = u + 1 := ⟨pd A B 0 k - 1, by omega⟩
      rw [hu, Nat.add_sub_cancel, Nat.succ_mul]
      omega
  rw [key] at e
  exact e
end Go.Proofs.YtjiffbddgbigcaaDoor
