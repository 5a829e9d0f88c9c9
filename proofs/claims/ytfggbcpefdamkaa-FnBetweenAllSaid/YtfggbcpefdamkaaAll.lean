/- How many orders have one layer ahead of another: plain lemmas, no program. -/
import Derived.Test.YtfggbcpefdamkaaDig
import Derived.Test.YtfggbcpefdamkaaBetL
namespace Go.Proofs.Ytfggbcpefdamkaa
set_option linter.unusedVariables false
set_option linter.unusedSimpArgs false

/-- How many numbers below n have a property. -/
def cntP (P : Nat → Bool) : Nat → Nat
  | 0 => 0
  | n + 1 => cntP P n + (if P n = true then 1 else 0)
theorem cntP_add (P : Nat → Bool) (m : Nat) : ∀ k, cntP P (m + k) = cntP P m + cntP (fun i => P (m + i)) k
  | 0 => rfl
  | k + 1 => by
    show cntP P (m + k) + (if P (m + k) = true then 1 else 0) = cntP P m + (cntP (fun i => P (m + i)) k + (if P (m + k) = true then 1 else 0))
    rw [cntP_add P m k, Nat.add_assoc]
theorem cntP_congr {P Q : Nat → Bool} : ∀ n, (∀ i, i < n → P i = Q i) → cntP P n = cntP Q n
  | 0, _ => rfl
  | n + 1, h => by
    show cntP P n + (if P n = true then 1 else 0) = cntP Q n + (if Q n = true then 1 else 0)
    rw [cntP_congr n (fun i hi => h i (by omega)), h n (by omega)]
theorem cntP_true : ∀ n, cntP (fun _ => true) n = n
  | 0 => rfl
  | n + 1 => by
    show cntP (fun _ => true) n + 1 = n + 1
    rw [cntP_true n]
theorem cntP_false : ∀ n, cntP (fun _ => false) n = 0
  | 0 => rfl
  | n + 1 => by
    show cntP (fun _ => false) n + (if false = true then 1 else 0) = 0
    rw [cntP_false n]
    rfl
theorem cntP_le (P : Nat → Bool) : ∀ n, cntP P n ≤ n
  | 0 => Nat.le_refl _
  | n + 1 => by
    have := cntP_le P n
    show cntP P n + (if P n = true then 1 else 0) ≤ n + 1
    split <;> omega
theorem cntP_const (b : Bool) (n : Nat) : cntP (fun _ => b) n = n * (if b = true then 1 else 0) := by
  cases b
  · rw [cntP_false]; simp
  · rw [cntP_true]; simp
theorem cntP_div (P : Nat → Bool) (R : Nat) (hR : 1 ≤ R) : ∀ m, cntP (fun r => P (r / R)) (m * R) = R * cntP P m
  | 0 => by rw [Nat.zero_mul]; rfl
  | m + 1 => by
    rw [Nat.succ_mul, cntP_add, cntP_div P R hR m]
    have e : cntP (fun i => P ((m * R + i) / R)) R = cntP (fun _ => P m) R := cntP_congr R (fun i hi => by
      rw [Nat.mul_comm, Nat.mul_add_div (by omega), Nat.div_eq_of_lt hi, Nat.add_zero])
    rw [e, cntP_const]
    show _ = R * (cntP P m + (if P m = true then 1 else 0))
    rw [Nat.mul_add]
theorem cntP_mod (P : Nat → Bool) (c : Nat) : ∀ m, cntP (fun r => P (r % c)) (m * c) = m * cntP P c
  | 0 => by rw [Nat.zero_mul, Nat.zero_mul]; rfl
  | m + 1 => by
    rw [Nat.succ_mul, cntP_add, cntP_mod P c m, Nat.succ_mul]
    have e : cntP (fun i => P ((m * c + i) % c)) c = cntP P c := cntP_congr c (fun i hi => by
      rw [Nat.mul_comm, Nat.mul_add_mod, Nat.mod_eq_of_lt hi])
    rw [e]
theorem tl_split {A B : List Int} {k : Nat} (hk : k < A.length) : tl A B 0 = pd A B 0 k * cc A B k * tl A B (k + 1) := by
  have a := pd_add A B 0 k (A.length - k)
  rw [show k + (A.length - k) = A.length by omega, Nat.zero_add] at a
  have b := tl_step (B := B) hk
  unfold tl at b ⊢
  rw [Nat.sub_zero, a, b, Nat.mul_assoc]
theorem cnt_digit {A B : List Int} (P : Nat → Bool) {k : Nat} (hk : k < A.length) : cntP (fun r => P (dg A B r k)) (tl A B 0) = rst A B k * cntP P (cc A B k) := by
  have e1 : rst A B k = pd A B 0 k * tl A B (k + 1) := by
    have r := rst_mul (B := B) hk
    have s := tl_split (B := B) hk
    have t : tl A B 0 = pd A B 0 A.length := by unfold tl; rw [Nat.sub_zero]
    rw [← t, s] at r
    have : rst A B k * cc A B k = pd A B 0 k * tl A B (k + 1) * cc A B k := by
      show rst A B k * ch (ni A k) (ni B k) = _
      rw [r, Nat.mul_assoc, Nat.mul_comm (cc A B k), Nat.mul_assoc]
    exact Nat.eq_of_mul_eq_mul_right (cc_pos A B k) this
  rw [tl_split hk, e1]
  show cntP (fun r => (fun q => P (q % cc A B k)) (r / tl A B (k + 1))) _ = _
  rw [cntP_div (fun q => P (q % cc A B k)) _ (tl_pos A B (k + 1)), cntP_mod, Nat.mul_comm, Nat.mul_assoc, Nat.mul_assoc, Nat.mul_comm (cntP P _)]

/-- The letter 97 of number x is ahead of the letter 98 of number y. -/
def ahd : List UInt8 → Nat → Nat → Bool
  | [], _, _ => false
  | c :: l, x, y => if c = 97 then (if x = 0 then true else ahd l (x - 1) y) else if c = 98 then (if y = 0 then false else ahd l x (y - 1)) else ahd l x y
theorem ahd_a (l : List UInt8) (x y : Nat) : ahd (97 :: l) x y = if x = 0 then true else ahd l (x - 1) y := rfl
theorem ahd_b (l : List UInt8) (x y : Nat) : ahd (98 :: l) x y = if y = 0 then false else ahd l x (y - 1) := rfl
theorem ahd_c {c : UInt8} (l : List UInt8) (x y : Nat) (h1 : c ≠ 97) (h2 : c ≠ 98) : ahd (c :: l) x y = ahd l x y := by
  show (if c = 97 then _ else if c = 98 then _ else ahd l x y) = _
  rw [if_neg h1, if_neg h2]
theorem bs_rec : ∀ a, a < 7 → ∀ b, b < 7 → ∀ x, x < a → ∀ y, y < b →
    bsN a b x (y + 1) = (if x = 0 then ch (a - 1) b else bsN (a - 1) b (x - 1) (y + 1)) + (if y = 0 then 0 else bsN a (b - 1) x y) := by decide +kernel
theorem cnt_txt : ∀ (m a b x y : Nat), m = a + b → a < 7 → b < 7 → x < a → y < b → cntP (fun d => ahd (txt m a b d) x y) (ch a b) = bsN a b x (y + 1)
  | 0, a, b, x, y, hm, _, _, hx, _ => absurd hx (by omega)
  | m + 1, a, b, x, y, hm, ha, hb, hx, hy => by
    rw [bs_rec a ha b hb x hx y hy]
    obtain ⟨a, rfl⟩ : ∃ a', a = a' + 1 := ⟨a - 1, by omega⟩
    obtain ⟨b, rfl⟩ : ∃ b', b = b' + 1 := ⟨b - 1, by omega⟩
    rw [ch_pascal, cntP_add]
    simp only [Nat.add_sub_cancel]
    congr 1
    · have e : cntP (fun d => ahd (txt (m + 1) (a + 1) (b + 1) d) x y) (ch a (b + 1)) = cntP (fun d => if x = 0 then true else ahd (txt m a (b + 1) d) (x - 1) y) (ch a (b + 1)) :=
        cntP_congr _ (fun i hi => by rw [txt_lt hi, ahd_a])
      rw [e]
      by_cases c : x = 0
      · simp only [c, if_true]
        exact cntP_true _
      · simp only [if_neg c]
        exact cnt_txt m a (b + 1) (x - 1) y (by omega) (by omega) hb (by omega) hy
    · have e : cntP (fun d => ahd (txt (m + 1) (a + 1) (b + 1) (ch a (b + 1) + d)) x y) (ch (a + 1) b) = cntP (fun d => if y = 0 then false else ahd (txt m (a + 1) b d) x (y - 1)) (ch (a + 1) b) :=
        cntP_congr _ (fun i hi => by rw [txt_ge (by omega), ahd_b, Nat.add_sub_cancel, Nat.add_sub_cancel_left])
      rw [e]
      by_cases c : y = 0
      · simp only [c, if_true]
        exact cntP_false _
      · simp only [if_neg c]
        have := cnt_txt m (a + 1) b x (y - 1) (by omega) ha (by omega) hx (by omega)
        rw [show y - 1 + 1 = y by omega] at this
        exact this

theorem ahd_app : ∀ (l m : List UInt8) (i k : Nat), ahd (l ++ m) i k =
    if i < l.count 97 then (if k < l.count 98 then ahd l i k else true) else (if k < l.count 98 then false else ahd m (i - l.count 97) (k - l.count 98))
  | [], m, i, k => by simp
  | c :: l, m, i, k => by
    by_cases h1 : c = 97
    · subst h1
      have e1 : (97 :: l : List UInt8).count 97 = l.count 97 + 1 := by simp
      have e2 : (97 :: l : List UInt8).count 98 = l.count 98 := by rw [List.count_cons]; simp
      rw [e1, e2, List.cons_append, ahd_a, ahd_a]
      by_cases h2 : i = 0
      · subst h2
        simp
      · rw [if_neg h2, if_neg h2, ahd_app l m (i - 1) k]
        have e3 : (i - 1 < l.count 97) = (i < l.count 97 + 1) := by apply propext; omega
        have e4 : i - (l.count 97 + 1) = i - 1 - l.count 97 := by omega
        simp only [e3, e4]
    · by_cases h2 : c = 98
      · subst h2
        have e1 : (98 :: l : List UInt8).count 97 = l.count 97 := by rw [List.count_cons]; simp
        have e2 : (98 :: l : List UInt8).count 98 = l.count 98 + 1 := by simp
        rw [e1, e2, List.cons_append, ahd_b, ahd_b]
        by_cases h3 : k = 0
        · subst h3
          simp
        · rw [if_neg h3, if_neg h3, ahd_app l m i (k - 1)]
          have e3 : (k - 1 < l.count 98) = (k < l.count 98 + 1) := by apply propext; omega
          have e4 : k - (l.count 98 + 1) = k - 1 - l.count 98 := by omega
          simp only [e3, e4]
      · have e1 : (c :: l : List UInt8).count 97 = l.count 97 := by rw [List.count_cons]; simp [h1]
        have e2 : (c :: l : List UInt8).count 98 = l.count 98 := by rw [List.count_cons]; simp [h2]
        rw [e1, e2, List.cons_append, ahd_c _ _ _ h1 h2, ahd_c _ _ _ h1 h2, ahd_app l m i k]

/-- Sums of numbers. -/
def nsum (g : Nat → Nat) : Nat → Nat
  | 0 => 0
  | n + 1 => nsum g n + g n
theorem nsum_mono (g : Nat → Nat) (n : Nat) : ∀ d, nsum g n ≤ nsum g (n + d)
  | 0 => Nat.le_refl _
  | d + 1 => Nat.le_trans (nsum_mono g n d) (Nat.le_add_right _ _)
theorem nsum_smI {A : List Int} (h : ∀ i, i < A.length → 0 ≤ it A i) : ∀ k, k ≤ A.length → smI A k = ((nsum (ni A) k : Nat) : Int)
  | 0, _ => rfl
  | k + 1, hk => by
    show smI A k + it A k = ((nsum (ni A) k + ni A k : Nat) : Int)
    rw [nsum_smI h k (by omega)]
    have := h k (by omega)
    unfold ni
    omega
theorem jn_count (f : Nat → List UInt8) (c : UInt8) (hc : c ≠ 124) (g : Nat → Nat) : ∀ n, (∀ i, i < n → (f i).count c = g i) → (jn f n).count c = nsum g n ∧ (0 < n → (jn f n ++ [124]).count c = nsum g n)
  | 0, _ => ⟨rfl, fun h => absurd h (by omega)⟩
  | n + 1, h => by
    have hc' : ¬ (124 : UInt8) = c := fun q => hc q.symm
    have a : (jn f (n + 1)).count c = nsum g (n + 1) := by
      obtain ⟨i1, i2⟩ := jn_count f c hc g n (fun i hi => h i (by omega))
      show ((if 0 < n then jn f n ++ [124] else jn f n) ++ f n).count c = nsum g n + g n
      by_cases z : 0 < n
      · rw [if_pos z, List.count_append, i2 z, h n (by omega)]
      · rw [if_neg z, List.count_append, i1, h n (by omega)]
    refine ⟨a, fun _ => ?_⟩
    rw [List.count_append, a]
    simp [List.count_cons, hc']

/-- Where the two layers are in parts p and q. -/
theorem ahd_jn (f : Nat → List UInt8) (g h : Nat → Nat) (p q i k : Nat) (hi1 : nsum g p ≤ i) (hi2 : i < nsum g p + g p) (hk1 : nsum h q ≤ k) (hk2 : k < nsum h q + h q) :
    ∀ n, p < n → q < n → (∀ j, j < n → (f j).count 97 = g j) → (∀ j, j < n → (f j).count 98 = h j) →
      ahd (jn f n) i k = if p < q then true else if q < p then false else ahd (f p) (i - nsum g p) (k - nsum h q)
  | 0, hp, _, _, _ => absurd hp (by omega)
  | n + 1, hp, hq, hg, hh => by
    obtain ⟨g1, g2⟩ := jn_count f 97 (by decide) g n (fun j hj => hg j (by omega))
    obtain ⟨h1, h2⟩ := jn_count f 98 (by decide) h n (fun j hj => hh j (by omega))
    have key : ahd (jn f (n + 1)) i k = if i < nsum g n then (if k < nsum h n then ahd (jn f n) i k else true) else (if k < nsum h n then false else ahd (f n) (i - nsum g n) (k - nsum h n)) := by
      show ahd ((if 0 < n then jn f n ++ [124] else jn f n) ++ f n) i k = _
      by_cases z : 0 < n
      · rw [if_pos z, ahd_app, g2 z, h2 z]
        by_cases c1 : i < nsum g n
        · rw [if_pos c1, if_pos c1]
          by_cases c2 : k < nsum h n
          · rw [if_pos c2, if_pos c2, ahd_app, g1, h1, if_pos c1, if_pos c2]
          · rw [if_neg c2, if_neg c2]
        · rw [if_neg c1, if_neg c1]
      · obtain rfl : n = 0 := by omega
        rw [if_neg z]
        show ahd (f 0) i k = if i < 0 then _ else if k < 0 then _ else ahd (f 0) (i - 0) (k - 0)
        rw [if_neg (by omega), if_neg (by omega), Nat.sub_zero, Nat.sub_zero]
    rw [key]
    by_cases cp : p = n
    · subst cp
      rw [if_neg (by omega)]
      by_cases cq : q = p
      · subst cq
        rw [if_neg (by omega), if_neg (by omega), if_neg (by omega)]
      · have m := nsum_mono h (q + 1) (p - (q + 1))
        rw [show q + 1 + (p - (q + 1)) = p by omega] at m
        have e : nsum h (q + 1) = nsum h q + h q := rfl
        rw [if_pos (by omega), if_neg (by omega), if_pos (by omega)]
    · have m := nsum_mono g (p + 1) (n - (p + 1))
      rw [show p + 1 + (n - (p + 1)) = n by omega] at m
      have e : nsum g (p + 1) = nsum g p + g p := rfl
      rw [if_pos (by omega)]
      by_cases cq : q = n
      · subst cq
        rw [if_neg (by omega), if_pos (by omega)]
      · have m' := nsum_mono h (q + 1) (n - (q + 1))
        rw [show q + 1 + (n - (q + 1)) = n by omega] at m'
        have e' : nsum h (q + 1) = nsum h q + h q := rfl
        rw [if_pos (by omega)]
        exact ahd_jn f g h p q i k hi1 hi2 hk1 hk2 n (by omega) (by omega) (fun j hj => hg j (by omega)) (fun j hj => hh j (by omega))

/-- The number of ranks whose orders have layer i ahead of layer k. -/
theorem all_count {A B : List Int} {i k : Int} (hok : okB A B = true) (h0 : 0 ≤ betV A B i k) (hi : 0 ≤ i) (hk : 0 ≤ k) :
    ((cntP (fun r => ahd (ordT A B r) i.toNat k.toNat) (tl A B 0) : Nat) : Int) = betV A B i k := by
  obtain ⟨g1, g2, g3, g4, g5⟩ := ok_true hok
  obtain ⟨p, q, x, y, hp, hq, e1, e2, e3, e4, i1, i2, xx, yy, hx, hy, e⟩ := bet_found hok h0
  have sA := nsum_smI (fun i hi => (g4 i hi).1) p (by omega)
  have sB := nsum_smI (A := B) (fun i hi => (g5 i (by omega)).1) q (by omega)
  rw [sA] at xx
  rw [sB] at yy
  have ex : i.toNat - nsum (ni A) p = x := by omega
  have ey : k.toNat - nsum (ni B) q = y := by omega
  have key : ∀ r, ahd (ordT A B r) i.toNat k.toNat = if p < q then true else if q < p then false else ahd (pt A B r p) x y := fun r => by
    unfold ordT
    rw [ahd_jn (pt A B r) (ni A) (ni B) p q i.toNat k.toNat (by omega) (by omega) (by omega) (by omega) A.length hp hq (fun j _ => (pt_count A B r j).1) (fun j _ => (pt_count A B r j).2), ex, ey]
  rw [cntP_congr (tl A B 0) (fun r _ => key r), e]
  rcases Nat.lt_trichotomy p q with c | c | c
  · simp only [if_pos c]
    rw [cntP_true, bet_lt (by omega) (by omega), cntV_yes hok]
    unfold tl
    rw [Nat.sub_zero]
  · subst c
    simp only [Nat.lt_irrefl, if_false]
    obtain ⟨n1, n2⟩ := ni_bd hok hp
    have := cnt_digit (B := B) (fun d => ahd (txt (ni A p + ni B p) (ni A p) (ni B p) d) x y) hp
    unfold pt
    rw [this, bet_eq]
    unfold cc
    rw [cnt_txt _ _ _ x y rfl n1 n2 hx hy]
  · simp only [if_neg (show ¬ p < q by omega), if_pos c]
    rw [cntP_false, bet_gt (by omega) (by omega)]
    rfl
end Go.Proofs.Ytfggbcpefdamkaa
