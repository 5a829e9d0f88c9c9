/- Texts of parts and their ranks: plain lemmas, no program. -/
import Derived.Test.YtjiffbddgbigcaaDoorOrd
namespace Go.Proofs.YtjiffbddgbigcaaDoor
set_option linter.unusedVariables false
set_option linter.unusedSimpArgs false

/-- The text of a part with a rank: m letters, a of them 97, b of them 98. -/
def txt : Nat → Nat → Nat → Nat → List UInt8
  | 0, _, _, _ => []
  | m + 1, 0, b, n => 98 :: txt m 0 (b - 1) n
  | m + 1, a + 1, b, n => if n < ch a b then 97 :: txt m a b n else 98 :: txt m (a + 1) (b - 1) (n - ch a b)
theorem txt_zero (a b n : Nat) : txt 0 a b n = [] := by unfold txt; rfl
theorem txt_b (m b n : Nat) : txt (m + 1) 0 b n = 98 :: txt m 0 (b - 1) n := rfl
theorem txt_lt {m a b n : Nat} (h : n < ch a b) : txt (m + 1) (a + 1) b n = 97 :: txt m a b n := by
  show (if n < ch a b then _ else _) = _
  rw [if_pos h]
theorem txt_ge {m a b n : Nat} (h : ¬ n < ch a b) : txt (m + 1) (a + 1) b n = 98 :: txt m (a + 1) (b - 1) (n - ch a b) := by
  show (if n < ch a b then _ else _) = _
  rw [if_neg h]
theorem ch_ge (a b n : Nat) (h : n < ch (a + 1) b) (h1 : ¬ n < ch a b) : 1 ≤ b ∧ n - ch a b < ch (a + 1) (b - 1) := by
  cases b with
  | zero => rw [ch_zero'] at h h1; omega
  | succ b =>
    rw [ch_pascal] at h
    exact ⟨by omega, by rw [Nat.add_sub_cancel]; omega⟩
/-- What holds of the first letter. -/
theorem txt_cases {m a b n : Nat} (hm : m + 1 = a + b) (hn : n < ch a b) :
    (∃ a', a = a' + 1 ∧ n < ch a' b ∧ m = a' + b ∧ txt (m + 1) a b n = 97 :: txt m a' b n) ∨
    (∃ b', b = b' + 1 ∧ (if 0 < a then ch (a - 1) b else 0) ≤ n ∧ n - (if 0 < a then ch (a - 1) b else 0) < ch a b' ∧ m = a + b' ∧ txt (m + 1) a b n = 98 :: txt m a b' (n - (if 0 < a then ch (a - 1) b else 0))) := by
  cases a with
  | zero =>
    right
    rw [if_neg (by omega)]
    rw [ch_zero] at hn
    refine ⟨b - 1, by omega, Nat.zero_le _, by rw [ch_zero]; omega, by omega, ?_⟩
    rw [txt_b, Nat.sub_zero]
  | succ a =>
    by_cases h : n < ch a b
    · exact .inl ⟨a, rfl, h, by omega, txt_lt h⟩
    · right
      obtain ⟨h1, h2⟩ := ch_ge a b n hn h
      rw [if_pos (by omega), Nat.add_sub_cancel]
      exact ⟨b - 1, by omega, by omega, h2, by omega, txt_ge h⟩

theorem txt_len : ∀ (m a b n : Nat), m = a + b → n < ch a b → (txt m a b n).length = m
  | 0, a, b, n, _, _ => by rw [txt_zero]; rfl
  | m + 1, a, b, n, hm, hn => by
    rcases txt_cases hm hn with ⟨a', rfl, h1, h2, e⟩ | ⟨b', rfl, _, h1, h2, e⟩
    · rw [e, List.length_cons, txt_len m _ _ _ h2 h1]
    · rw [e, List.length_cons, txt_len m _ _ _ h2 h1]
theorem txt_mem : ∀ (m a b n : Nat), m = a + b → n < ch a b → ∀ x ∈ txt m a b n, x = 97 ∨ x = 98
  | 0, a, b, n, _, _ => by rw [txt_zero]; intro x hx; simp at hx
  | m + 1, a, b, n, hm, hn => by
    intro x hx
    rcases txt_cases hm hn with ⟨a', rfl, h1, h2, e⟩ | ⟨b', rfl, _, h1, h2, e⟩
    · rw [e] at hx
      rcases List.mem_cons.mp hx with q | q
      · exact .inl q
      · exact txt_mem m _ _ _ h2 h1 x q
    · rw [e] at hx
      rcases List.mem_cons.mp hx with q | q
      · exact .inr q
      · exact txt_mem m _ _ _ h2 h1 x q
theorem txt_count : ∀ (m a b n : Nat), m = a + b → n < ch a b → (txt m a b n).count 97 = a ∧ (txt m a b n).count 98 = b
  | 0, a, b, n, hm, hn => by rw [txt_zero]; simp; omega
  | m + 1, a, b, n, hm, hn => by
    rcases txt_cases hm hn with ⟨a', rfl, h1, h2, e⟩ | ⟨b', rfl, _, h1, h2, e⟩
    · have := txt_count m _ _ _ h2 h1
      rw [e, List.count_cons, List.count_cons, this.1, this.2]
      exact ⟨rfl, rfl⟩
    · have := txt_count m _ _ _ h2 h1
      rw [e, List.count_cons, List.count_cons, this.1, this.2]
      exact ⟨rfl, rfl⟩

/-- The rank of a text. -/
def rk : List UInt8 → Nat → Nat → Nat
  | [], _, _ => 0
  | x :: l, a, b => if x = 97 then rk l (a - 1) b else (if 0 < a then ch (a - 1) b else 0) + rk l a (b - 1)
theorem rk_a (l : List UInt8) (a b : Nat) : rk (97 :: l) a b = rk l (a - 1) b := rfl
theorem rk_b (l : List UInt8) (a b : Nat) : rk (98 :: l) a b = (if 0 < a then ch (a - 1) b else 0) + rk l a (b - 1) := rfl
theorem rk_txt : ∀ (m a b n : Nat), m = a + b → n < ch a b → rk (txt m a b n) a b = n
  | 0, a, b, n, hm, hn => by
    have : a = 0 := by omega
    subst this
    rw [ch_zero] at hn
    rw [txt_zero]
    show 0 = n
    omega
  | m + 1, a, b, n, hm, hn => by
    rcases txt_cases hm hn with ⟨a', rfl, h1, h2, e⟩ | ⟨b', rfl, h3, h1, h2, e⟩
    · rw [e, rk_a, Nat.add_sub_cancel, rk_txt m _ _ _ h2 h1]
    · rw [e, rk_b, Nat.add_sub_cancel, rk_txt m _ _ _ h2 h1]
      omega

/-- The first and the last text. -/
theorem txt_first : ∀ (m a b : Nat), m = a + b → txt m a b 0 = List.replicate a 97 ++ List.replicate b 98
  | 0, a, b, hm => by
    have h1 : a = 0 := by omega
    have h2 : b = 0 := by omega
    subst h1 h2
    rfl
  | m + 1, 0, b, hm => by
    obtain ⟨b', rfl⟩ : ∃ b', b = b' + 1 := ⟨b - 1, by omega⟩
    rw [txt_b, Nat.add_sub_cancel, txt_first m 0 b' (by omega)]
    rfl
  | m + 1, a + 1, b, hm => by
    rw [txt_lt (ch_pos _ _), txt_first m a b (by omega)]
    rfl
theorem txt_last : ∀ (m a b : Nat), m = a + b → txt m a b (ch a b - 1) = List.replicate b 98 ++ List.replicate a 97
  | 0, a, b, hm => by
    have h1 : a = 0 := by omega
    have h2 : b = 0 := by omega
    subst h1 h2
    rfl
  | m + 1, 0, b, hm => by
    obtain ⟨b', rfl⟩ : ∃ b', b = b' + 1 := ⟨b - 1, by omega⟩
    have e := txt_last m 0 b' (by omega)
    rw [ch_zero] at e ⊢
    rw [txt_b, Nat.add_sub_cancel, e]
    rfl
  | m + 1, a + 1, 0, hm => by
    have e := txt_last m a 0 (by omega)
    rw [ch_zero'] at e ⊢
    rw [txt_lt (by rw [ch_zero']; omega), e]
    rfl
  | m + 1, a + 1, b + 1, hm => by
    have e := txt_last m (a + 1) b (by omega)
    have p := ch_pos (a + 1) b
    rw [txt_ge (by rw [ch_pascal]; omega), Nat.add_sub_cancel]
    rw [show ch (a + 1) (b + 1) - 1 - ch a (b + 1) = ch (a + 1) b - 1 by rw [ch_pascal]; omega, e]
    rfl

/-- Later in the dictionary, at one length. -/
def lx : List UInt8 → List UInt8 → Bool
  | _, [] => false
  | [], _ :: _ => true
  | x :: l, y :: k => decide (x < y) || (x == y && lx l k)
theorem lx_cons (x : UInt8) (l k : List UInt8) : lx (x :: l) (x :: k) = lx l k := by
  show (decide (x < x) || (x == x && lx l k)) = lx l k
  simp
theorem lx_app : ∀ (p l k : List UInt8), lx (p ++ l) (p ++ k) = lx l k
  | [], l, k => rfl
  | x :: p, l, k => by
    show lx (x :: (p ++ l)) (x :: (p ++ k)) = _
    rw [lx_cons, lx_app p]
theorem lx_more : ∀ (l k s t : List UInt8), l.length = k.length → lx l k = true → lx (l ++ s) (k ++ t) = true
  | [], [], s, t, _, h => by cases h
  | [], y :: k, s, t, hl, h => by simp at hl
  | x :: l, [], s, t, hl, h => by simp at hl
  | x :: l, y :: k, s, t, hl, h => by
    have h' : (decide (x < y) || (x == y && lx l k)) = true := h
    show (decide (x < y) || (x == y && lx (l ++ s) (k ++ t))) = true
    simp only [Bool.or_eq_true, Bool.and_eq_true] at h' ⊢
    rcases h' with q | ⟨q1, q2⟩
    · exact .inl q
    · exact .inr ⟨q1, lx_more l k s t (by simpa using hl) q2⟩
theorem txt_next : ∀ (m a b n k : Nat), m = a + b → n < k → k < ch a b → lx (txt m a b n) (txt m a b k) = true
  | 0, a, b, n, k, hm, h1, h2 => by
    have : a = 0 := by omega
    subst this
    rw [ch_zero] at h2
    omega
  | m + 1, a, b, n, k, hm, h1, h2 => by
    rcases txt_cases hm (n := n) (by omega) with ⟨a', rfl, h3, h4, e⟩ | ⟨b', rfl, h3, h4, h5, e⟩
    · rcases txt_cases hm h2 with ⟨a'', e1, h5, h6, e'⟩ | ⟨b', rfl, h5, h6, h7, e'⟩
      · obtain rfl : a' = a'' := by omega
        rw [e, e', lx_cons]
        exact txt_next m _ _ _ _ h4 h1 h5
      · rw [e, e']
        rfl
    · rcases txt_cases hm h2 with ⟨a'', rfl, h6, h7, e'⟩ | ⟨b'', e1, h6, h7, h8, e'⟩
      · rw [if_pos (by omega), Nat.add_sub_cancel] at h3
        omega
      · obtain rfl : b' = b'' := by omega
        rw [e, e', lx_cons]
        exact txt_next m _ _ _ _ h5 (by omega) h7
end Go.Proofs.YtjiffbddgbigcaaDoor
