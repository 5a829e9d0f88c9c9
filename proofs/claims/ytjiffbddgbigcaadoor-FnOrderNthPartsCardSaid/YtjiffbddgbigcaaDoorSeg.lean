/- Texts parted at bars; ranks of texts: plain lemmas, no program. -/
import Derived.Test.YtjiffbddgbigcaaDoorDig
namespace Go.Proofs.YtjiffbddgbigcaaDoor
set_option linter.unusedVariables false
set_option linter.unusedSimpArgs false

/-- The texts between bars. -/
def sg : List UInt8 → List (List UInt8)
  | [] => [[]]
  | c :: l => if c = 124 then [] :: sg l else (c :: (sg l).headD []) :: (sg l).tail
theorem sg_nil : sg [] = [[]] := rfl
theorem sg_bar (l : List UInt8) : sg (124 :: l) = [] :: sg l := rfl
theorem sg_cons {c : UInt8} (l : List UInt8) (h : c ≠ 124) : sg (c :: l) = (c :: (sg l).headD []) :: (sg l).tail := by
  show (if c = 124 then _ else _) = _
  rw [if_neg h]
theorem sg_pos : ∀ l, 1 ≤ (sg l).length
  | [] => Nat.le_refl _
  | c :: l => by
    by_cases h : c = 124
    · subst h; rw [sg_bar]; simp
    · rw [sg_cons l h]; simp
theorem sg_ht (l : List UInt8) : sg l = (sg l).headD [] :: (sg l).tail := by
  have := sg_pos l
  cases e : sg l with
  | nil => rw [e] at this; simp at this
  | cons x r => rfl
theorem sg_none : ∀ l : List UInt8, (∀ x ∈ l, x ≠ 124) → sg l = [l]
  | [], _ => rfl
  | c :: l, h => by
    rw [sg_cons l (h c (by simp)), sg_none l (fun x hx => h x (by simp [hx]))]
    rfl
theorem sg_app : ∀ (p l : List UInt8), (∀ x ∈ p, x ≠ 124) → sg (p ++ 124 :: l) = p :: sg l
  | [], l, _ => rfl
  | c :: p, l, h => by
    rw [List.cons_append, sg_cons _ (h c (by simp)), sg_app p l (fun x hx => h x (by simp [hx]))]
    rfl
/-- One letter more. -/
def upL (S : List (List UInt8)) (c : UInt8) : List (List UInt8) := S.dropLast ++ [S.getLastD [] ++ [c]]
theorem sg_snoc_bar : ∀ l : List UInt8, sg (l ++ [124]) = sg l ++ [[]]
  | [] => rfl
  | c :: l => by
    by_cases h : c = 124
    · subst h
      rw [List.cons_append, sg_bar, sg_bar, sg_snoc_bar l]
      rfl
    · rw [List.cons_append, sg_cons _ h, sg_cons _ h, sg_snoc_bar l]
      rw [sg_ht l]
      rfl
theorem upL_cons (x : List UInt8) (S : List (List UInt8)) (c : UInt8) (h : S ≠ []) : upL (x :: S) c = x :: upL S c := by
  cases S with
  | nil => exact absurd rfl h
  | cons y S => rfl
theorem sg_ne (l : List UInt8) : sg l ≠ [] := fun e => by have := sg_pos l; rw [e] at this; simp at this
theorem sg_snoc : ∀ (l : List UInt8) (c : UInt8), c ≠ 124 → sg (l ++ [c]) = upL (sg l) c
  | [], c, h => by
    rw [List.nil_append, sg_cons _ h]
    rfl
  | d :: l, c, h => by
    by_cases e : d = 124
    · subst e
      rw [List.cons_append, sg_bar, sg_bar, sg_snoc l c h, upL_cons _ _ _ (sg_ne l)]
    · rw [List.cons_append, sg_cons _ e, sg_cons _ e, sg_snoc l c h]
      rw [sg_ht l]
      cases t : (sg l).tail with
      | nil => rfl
      | cons y S => rfl
/-- The letters of a text and its parts. -/
theorem sg_mem : ∀ (l : List UInt8) (s : List UInt8), s ∈ sg l → ∀ x ∈ s, x ∈ l ∧ x ≠ 124
  | [], s, hs => by
    rw [sg_nil] at hs
    simp at hs
    subst hs
    intro x hx
    simp at hx
  | c :: l, s, hs => by
    intro x hx
    by_cases h : c = 124
    · subst h
      rw [sg_bar] at hs
      rcases List.mem_cons.mp hs with q | q
      · subst q; simp at hx
      · have := sg_mem l s q x hx
        exact ⟨List.mem_cons_of_mem _ this.1, this.2⟩
    · rw [sg_cons l h] at hs
      have hh : (sg l).headD [] ∈ sg l := by rw [sg_ht l]; simp
      have ht : ∀ y, y ∈ (sg l).tail → y ∈ sg l := fun y hy => by rw [sg_ht l]; exact List.mem_cons_of_mem _ hy
      rcases List.mem_cons.mp hs with q | q
      · subst q
        rcases List.mem_cons.mp hx with z | z
        · subst z; exact ⟨by simp, h⟩
        · have := sg_mem l _ hh x z
          exact ⟨List.mem_cons_of_mem _ this.1, this.2⟩
      · have := sg_mem l s (ht s q) x hx
        exact ⟨List.mem_cons_of_mem _ this.1, this.2⟩
theorem sg_mem' : ∀ (l : List UInt8) (x : UInt8), x ∈ l → x ≠ 124 → ∃ s ∈ sg l, x ∈ s
  | [], x, h, _ => by simp at h
  | c :: l, x, h, hx => by
    by_cases e : c = 124
    · subst e
      rw [sg_bar]
      rcases List.mem_cons.mp h with q | q
      · exact absurd q hx
      · obtain ⟨s, h1, h2⟩ := sg_mem' l x q hx
        exact ⟨s, List.mem_cons_of_mem _ h1, h2⟩
    · rw [sg_cons l e]
      rcases List.mem_cons.mp h with q | q
      · exact ⟨_, List.Mem.head _, by rw [q]; exact List.Mem.head _⟩
      · obtain ⟨s, h1, h2⟩ := sg_mem' l x q hx
        rw [sg_ht l] at h1
        rcases List.mem_cons.mp h1 with z | z
        · exact ⟨_, List.Mem.head _, List.mem_cons_of_mem _ (by rw [z] at h2; exact h2)⟩
        · exact ⟨s, List.mem_cons_of_mem _ z, h2⟩
def gS (S : List (List UInt8)) (k : Nat) : List UInt8 := S.getD k []
/-- A text is its parts joined. -/
theorem jn_cons (x : List UInt8) (S : List (List UInt8)) (h : 0 < S.length) : jn (gS (x :: S)) (S.length + 1) = x ++ [124] ++ jn (gS S) S.length := by
  obtain ⟨n, hn⟩ : ∃ n, S.length = n + 1 := ⟨S.length - 1, by omega⟩
  rw [hn, jn_front]
  rfl
theorem sg_join : ∀ l : List UInt8, jn (gS (sg l)) (sg l).length = l
  | [] => rfl
  | c :: l => by
    have ih := sg_join l
    by_cases e : c = 124
    · subst e
      rw [sg_bar, List.length_cons, jn_cons _ _ (sg_pos l), ih]
      rfl
    · rw [sg_cons l e]
      rw [sg_ht l] at ih
      generalize (sg l).headD [] = x at *
      generalize (sg l).tail = S at *
      rw [List.length_cons] at ih ⊢
      cases S with
      | nil =>
        rw [List.length_nil, jn_one] at ih ⊢
        show c :: x = _
        have : x = l := ih
        rw [this]
      | cons y S =>
        rw [jn_cons _ _ (by simp)] at ih ⊢
        rw [← ih]
        rfl
/-- Joined parts are parted. -/
theorem sg_jn (f : Nat → List UInt8) : ∀ n, (∀ i, i < n + 1 → ∀ x ∈ f i, x ≠ 124) → sg (jn f (n + 1)) = (List.range (n + 1)).map f
  | 0, h => by rw [jn_one, sg_none _ (h 0 (by omega))]; rfl
  | n + 1, h => by
    rw [jn_front, List.append_assoc]
    show sg (f 0 ++ 124 :: jn (fun i => f (i + 1)) (n + 1)) = _
    rw [sg_app _ _ (h 0 (by omega)), sg_jn (fun i => f (i + 1)) n (fun i hi => h (i + 1) (by omega)), List.range_succ_eq_map (n := n + 1), List.map_cons, List.map_map]
    rfl

/-- The texts of one part. -/
def ab (s : List UInt8) : Bool := s.all (fun x => decide (x = 97 ∨ x = 98))
theorem ab_mem {s : List UInt8} (h : ab s = true) : ∀ x ∈ s, x = 97 ∨ x = 98 := by
  unfold ab at h
  intro x hx
  have := List.all_eq_true.mp h x hx
  simpa using this
theorem ab_of {s : List UInt8} (h : ∀ x ∈ s, x = 97 ∨ x = 98) : ab s = true := by
  unfold ab
  rw [List.all_eq_true]
  intro x hx
  simpa using h x hx
theorem ab_count : ∀ s : List UInt8, s.count 97 + s.count 98 ≤ s.length ∧ (s.count 97 + s.count 98 = s.length ↔ ab s = true)
  | [] => by simp [ab]
  | c :: s => by
    obtain ⟨i1, i2⟩ := ab_count s
    have e : ab (c :: s) = (decide (c = 97 ∨ c = 98) && ab s) := by unfold ab; rw [List.all_cons]
    rw [e, List.length_cons]
    by_cases h1 : c = 97
    · subst h1
      have k1 : (97 :: s : List UInt8).count 97 = s.count 97 + 1 := by simp
      have k2 : (97 :: s : List UInt8).count 98 = s.count 98 := by rw [List.count_cons]; simp
      have k3 : (decide ((97 : UInt8) = 97 ∨ (97 : UInt8) = 98) && ab s) = ab s := by simp
      rw [k1, k2, k3]
      refine ⟨by omega, ?_⟩
      rw [← i2]
      omega
    · by_cases h2 : c = 98
      · subst h2
        have k1 : (98 :: s : List UInt8).count 97 = s.count 97 := by rw [List.count_cons]; simp
        have k2 : (98 :: s : List UInt8).count 98 = s.count 98 + 1 := by simp
        have k3 : (decide ((98 : UInt8) = 97 ∨ (98 : UInt8) = 98) && ab s) = ab s := by simp
        rw [k1, k2, k3]
        refine ⟨by omega, ?_⟩
        rw [← i2]
        omega
      · have k1 : (c :: s : List UInt8).count 97 = s.count 97 := by rw [List.count_cons]; simp [h1]
        have k2 : (c :: s : List UInt8).count 98 = s.count 98 := by rw [List.count_cons]; simp [h2]
        have k3 : (decide (c = 97 ∨ c = 98) && ab s) = false := by simp [h1, h2]
        rw [k1, k2, k3]
        refine ⟨by omega, ?_⟩
        constructor
        · intro q; omega
        · intro q; cases q
/-- The rank of a text is one. -/
theorem rk_good : ∀ (s : List UInt8) (a b : Nat), ab s = true → s.count 97 = a → s.count 98 = b → rk s a b < ch a b ∧ txt (a + b) a b (rk s a b) = s
  | [], a, b, _, ha, hb => by
    simp at ha hb
    subst ha hb
    exact ⟨by rw [ch_zero]; show 0 < 1; omega, rfl⟩
  | c :: s, a, b, h, ha, hb => by
    have e : ab (c :: s) = (decide (c = 97 ∨ c = 98) && ab s) := by unfold ab; rw [List.all_cons]
    rw [e] at h
    simp only [Bool.and_eq_true, decide_eq_true_eq] at h
    obtain ⟨hc, hs⟩ := h
    rw [List.count_cons] at ha hb
    rcases hc with rfl | rfl
    · simp at ha hb
      obtain ⟨a', rfl⟩ : ∃ a', a = a' + 1 := ⟨a - 1, by omega⟩
      obtain ⟨i1, i2⟩ := rk_good s a' b hs (by omega) hb
      rw [rk_a, Nat.add_sub_cancel]
      have l : ch a' b ≤ ch (a' + 1) b := ch_up a' b
      refine ⟨by omega, ?_⟩
      rw [show a' + 1 + b = (a' + b) + 1 by omega, txt_lt i1, i2]
    · simp at ha hb
      obtain ⟨b', rfl⟩ : ∃ b', b = b' + 1 := ⟨b - 1, by omega⟩
      obtain ⟨i1, i2⟩ := rk_good s a b' hs ha (by omega)
      rw [rk_b, Nat.add_sub_cancel]
      rw [show a + (b' + 1) = (a + b') + 1 by omega]
      cases a with
      | zero =>
        rw [if_neg (by omega), Nat.zero_add]
        rw [ch_zero] at i1 ⊢
        refine ⟨i1, ?_⟩
        rw [txt_b, Nat.add_sub_cancel, ← i2]
        have z : rk s 0 b' = 0 := by omega
        rw [z]
        have gen : ∀ m k n n', txt m 0 k n = txt m 0 k n' := by
          intro m
          induction m with
          | zero => intro k n n'; rfl
          | succ m ih => intro k n n'; rw [txt_b, txt_b, ih (k - 1) n n']
        rw [gen _ _ _ 0]
      | succ a =>
        rw [if_pos (by omega), Nat.add_sub_cancel, ch_pascal]
        refine ⟨by omega, ?_⟩
        rw [txt_ge (by omega), Nat.add_sub_cancel, Nat.add_sub_cancel_left, i2]

/-- Letters counted, part by part. -/
def cA (l : List UInt8) : List Int := (sg l).map fun s => ((s.count 97 : Nat) : Int)
def cB (l : List UInt8) : List Int := (sg l).map fun s => ((s.count 98 : Nat) : Int)
theorem cA_len (l : List UInt8) : (cA l).length = (sg l).length := by simp [cA]
theorem cB_len (l : List UInt8) : (cB l).length = (sg l).length := by simp [cB]
theorem cA_it (l : List UInt8) (k : Nat) : it (cA l) k = (((gS (sg l) k).count 97 : Nat) : Int) := by
  unfold it cA gS
  rw [List.getD_eq_getElem?_getD, List.getElem?_map, List.getD_eq_getElem?_getD]
  cases (sg l)[k]? <;> simp
theorem cB_it (l : List UInt8) (k : Nat) : it (cB l) k = (((gS (sg l) k).count 98 : Nat) : Int) := by
  unfold it cB gS
  rw [List.getD_eq_getElem?_getD, List.getElem?_map, List.getD_eq_getElem?_getD]
  cases (sg l)[k]? <;> simp
def letters (l : List UInt8) : Bool := l.all (fun x => decide (x = 97 ∨ x = 98 ∨ x = 124))
/-- The text is orders of parts. -/
def prB (l : List UInt8) : Bool := letters l && okB (cA l) (cB l)
def prA (l : List UInt8) : List Int := if prB l = true then cA l else []
def prC (l : List UInt8) : List Int := if prB l = true then cB l else []
theorem letters_ab (l : List UInt8) : letters l = true ↔ ∀ s ∈ sg l, ab s = true := by
  constructor
  · intro h s hs
    refine ab_of (fun x hx => ?_)
    obtain ⟨m1, m2⟩ := sg_mem l s hs x hx
    unfold letters at h
    have := List.all_eq_true.mp h x m1
    simp only [decide_eq_true_eq] at this
    rcases this with q | q | q
    · exact .inl q
    · exact .inr q
    · exact absurd q m2
  · intro h
    unfold letters
    rw [List.all_eq_true]
    intro x hx
    simp only [decide_eq_true_eq]
    by_cases e : x = 124
    · exact .inr (.inr e)
    · obtain ⟨s, h1, h2⟩ := sg_mem' l x hx e
      rcases ab_mem (h s h1) x h2 with q | q
      · exact .inl q
      · exact .inr (.inl q)
theorem gS_mem {S : List (List UInt8)} {k : Nat} (h : k < S.length) : gS S k ∈ S := by
  unfold gS
  rw [List.getD_eq_getElem?_getD, List.getElem?_eq_getElem h]
  exact List.getElem_mem h
theorem pr_yes {l : List UInt8} (h : prB l = true) : okB (cA l) (cB l) = true ∧ (∀ s ∈ sg l, ab s = true) := by
  unfold prB at h
  simp only [Bool.and_eq_true] at h
  exact ⟨h.2, (letters_ab l).mp h.1⟩
theorem pr_ni {l : List UInt8} (k : Nat) : ni (cA l) k = (gS (sg l) k).count 97 ∧ ni (cB l) k = (gS (sg l) k).count 98 := by
  unfold ni
  rw [cA_it, cB_it]
  exact ⟨rfl, rfl⟩
/-- The rank of orders. -/
def dR (l : List UInt8) (k : Nat) : Nat := rk (gS (sg l) k) (ni (cA l) k) (ni (cB l) k)
theorem dR_lt {l : List UInt8} (h : prB l = true) : ∀ i, i < (cA l).length → dR l i < cc (cA l) (cB l) i := by
  intro i hi
  rw [cA_len] at hi
  unfold dR cc
  exact (rk_good _ _ _ ((pr_yes h).2 _ (gS_mem hi)) (pr_ni i).1.symm (pr_ni i).2.symm).1
def rkN (l : List UInt8) : Nat := hn (cA l) (cB l) (dR l) (cA l).length
def rkV (l : List UInt8) : Int := if prB l = true then (rkN l : Int) else -1
theorem rkN_lt {l : List UInt8} (h : prB l = true) : rkN l < tl (cA l) (cB l) 0 := hn_all (dR_lt h)
/-- The orders of its rank are the text. -/
theorem ord_rkN {l : List UInt8} (h : prB l = true) : ordT (cA l) (cB l) (rkN l) = l := by
  have e : ordT (cA l) (cB l) (rkN l) = jn (gS (sg l)) (sg l).length := by
    unfold ordT
    rw [cA_len]
    refine jn_congr _ (fun i hi => ?_)
    unfold pt
    have d : dg (cA l) (cB l) (rkN l) i = dR l i := dg_hn (dR_lt h) (by rw [cA_len]; exact hi)
    rw [d]
    unfold dR
    exact (rk_good _ _ _ ((pr_yes h).2 _ (gS_mem hi)) (pr_ni i).1.symm (pr_ni i).2.symm).2
  rw [e, sg_join]
/-- The parts of orders. -/
theorem sg_ord {A B : List Int} (h : okB A B = true) (r : Nat) : sg (ordT A B r) = (List.range A.length).map (pt A B r) := by
  have g := (ok_true h).1
  obtain ⟨n, hn⟩ : ∃ n, A.length = n + 1 := ⟨A.length - 1, by omega⟩
  unfold ordT
  rw [hn]
  refine sg_jn _ n (fun i _ x hx => ?_)
  rcases pt_mem A B r i x hx with q | q
  · rw [q]; decide
  · rw [q]; decide
theorem ord_parts {A B : List Int} (h : okB A B = true) (r : Nat) : cA (ordT A B r) = A ∧ cB (ordT A B r) = B := by
  obtain ⟨g1, g2, g3, g4, g5⟩ := ok_true h
  constructor
  · refine ints_ext' (by rw [cA_len, sg_ord h]; simp) (fun j hj => ?_)
    rw [cA_len, sg_ord h] at hj
    simp at hj
    rw [cA_it, sg_ord h]
    have : gS ((List.range A.length).map (pt A B r)) j = pt A B r j := by unfold gS; simp [hj]
    rw [this, (pt_count A B r j).1]
    have := g4 j hj
    unfold ni
    omega
  · refine ints_ext' (by rw [cB_len, sg_ord h, g3]; simp) (fun j hj => ?_)
    rw [cB_len, sg_ord h] at hj
    simp at hj
    rw [cB_it, sg_ord h]
    have : gS ((List.range A.length).map (pt A B r)) j = pt A B r j := by unfold gS; simp [hj]
    rw [this, (pt_count A B r j).2]
    have := g5 j hj
    unfold ni
    omega
where
  ints_ext' {A B : List Int} (hl : A.length = B.length) (h : ∀ j, j < A.length → it A j = it B j) : A = B := by
    refine List.ext_getElem hl (fun i h1 h2 => ?_)
    have := h i h1
    unfold it at this
    rw [List.getD_eq_getElem?_getD, List.getD_eq_getElem?_getD, List.getElem?_eq_getElem h1, List.getElem?_eq_getElem h2] at this
    exact this
theorem ord_prB {A B : List Int} (h : okB A B = true) (r : Nat) : prB (ordT A B r) = true := by
  unfold prB
  rw [(ord_parts h r).1, (ord_parts h r).2, h]
  simp only [Bool.and_true]
  rw [letters_ab, sg_ord h]
  intro s hs
  simp only [List.mem_map, List.mem_range] at hs
  obtain ⟨i, _, rfl⟩ := hs
  exact ab_of (pt_mem A B r i)
theorem ord_rank {A B : List Int} (h : okB A B = true) {r : Nat} (hr : r < tl A B 0) : rkN (ordT A B r) = r := by
  have p := ord_prB h r
  have e := ord_rkN p
  unfold rkN
  rw [(ord_parts h r).1, (ord_parts h r).2]
  have d : ∀ i, i < A.length → dR (ordT A B r) i = dg A B r i := by
    intro i hi
    unfold dR
    rw [(ord_parts h r).1, (ord_parts h r).2, sg_ord h]
    have : gS ((List.range A.length).map (pt A B r)) i = pt A B r i := by unfold gS; simp [hi]
    rw [this]
    exact rk_txt _ _ _ _ rfl (dg_lt A B r i)
  have hc : ∀ k, k ≤ A.length → hn A B (dR (ordT A B r)) k = hn A B (dg A B r) k := by
    intro k
    induction k with
    | zero => intro _; rfl
    | succ k ih =>
      intro hk
      show hn A B (dR (ordT A B r)) k * cc A B k + dR (ordT A B r) k = hn A B (dg A B r) k * cc A B k + dg A B r k
      rw [ih (by omega), d k (by omega)]
  rw [hc _ (Nat.le_refl _), hn_rank hr]
end Go.Proofs.YtjiffbddgbigcaaDoor
