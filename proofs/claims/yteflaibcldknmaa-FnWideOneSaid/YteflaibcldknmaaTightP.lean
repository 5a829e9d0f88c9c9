/- Plain lemmas on windows of ages: the tight windows are the least and the greatest ages that fit. -/
import Derived.Test.YteflaibcldknmaaPairs
namespace Go.Proofs.Yteflaibcldknmaa
set_option linter.unusedVariables false
set_option linter.unusedSimpArgs false

def bothW (a : Int × Int) (lo hi : Int) : Int × Int := (max a.1 lo, min a.2 hi)

/-- Down: the window of each layer as the layers above narrow it. -/
def fw (L S : List (Int × Int)) : Nat → Int × Int
  | 0 => pr L 0
  | i + 1 => bothW (pr L (i + 1)) ((fw L S i).1 + (pr S i).1) ((fw L S i).2 + (pr S i).2)

/-- Up again: k layers from the last of n. -/
def bw (L S : List (Int × Int)) (n : Nat) : Nat → Int × Int
  | 0 => fw L S (n - 1)
  | k + 1 => bothW (fw L S (n - 1 - (k + 1))) ((bw L S n k).1 - (pr S (n - 1 - (k + 1))).2) ((bw L S n k).2 - (pr S (n - 1 - (k + 1))).1)

/-- The tight window of layer i of n. -/
def tw (L S : List (Int × Int)) (n i : Nat) : Int × Int := bw L S n (n - 1 - i)

theorem tw_last (L S : List (Int × Int)) (n : Nat) : tw L S n (n - 1) = fw L S (n - 1) := by
  unfold tw; rw [Nat.sub_self]; rfl
theorem tw_step (L S : List (Int × Int)) (n i : Nat) (h : i + 1 < n) : tw L S n i = bothW (fw L S i) ((tw L S n (i + 1)).1 - (pr S i).2) ((tw L S n (i + 1)).2 - (pr S i).1) := by
  unfold tw
  have e : n - 1 - i = (n - 1 - (i + 1)) + 1 := by omega
  rw [e]
  show bothW (fw L S (n - 1 - (n - 1 - (i + 1) + 1))) _ _ = _
  rw [show n - 1 - (n - 1 - (i + 1) + 1) = i by omega]

/-- Ages that fit. -/
def FitF (L S : List (Int × Int)) (n : Nat) (a : Nat → Int) : Prop :=
  (∀ i, i < n → (pr L i).1 ≤ a i ∧ a i ≤ (pr L i).2) ∧ ∀ i, i + 1 < n → (pr S i).1 ≤ a (i + 1) - a i ∧ a (i + 1) - a i ≤ (pr S i).2

def StepsOk (S : List (Int × Int)) (n : Nat) : Prop := ∀ i, i + 1 < n → (pr S i).1 ≤ (pr S i).2

theorem fit_fw {L S : List (Int × Int)} {n : Nat} {a : Nat → Int} (h : FitF L S n a) : ∀ i, i < n → (fw L S i).1 ≤ a i ∧ a i ≤ (fw L S i).2 := by
  intro i
  induction i with
  | zero => intro hi; exact h.1 0 hi
  | succ i ih =>
    intro hi
    obtain ⟨u1, u2⟩ := ih (by omega)
    obtain ⟨v1, v2⟩ := h.1 (i + 1) hi
    obtain ⟨s1, s2⟩ := h.2 i hi
    show max _ _ ≤ _ ∧ _ ≤ min _ _
    omega

theorem fit_tw_aux {L S : List (Int × Int)} {n : Nat} {a : Nat → Int} (h : FitF L S n a) : ∀ k i, i + k + 1 = n → (tw L S n i).1 ≤ a i ∧ a i ≤ (tw L S n i).2 := by
  intro k
  induction k with
  | zero =>
    intro i hi
    have e : i = n - 1 := by omega
    rw [e, tw_last]
    exact fit_fw h _ (by omega)
  | succ k ih =>
    intro i hi
    obtain ⟨u1, u2⟩ := ih (i + 1) (by omega)
    obtain ⟨v1, v2⟩ := fit_fw h i (by omega)
    obtain ⟨s1, s2⟩ := h.2 i (by omega)
    rw [tw_step L S n i (by omega)]
    show max _ _ ≤ _ ∧ _ ≤ min _ _
    omega

/-- Ages that fit lie in the tight windows. -/
theorem fit_tw {L S : List (Int × Int)} {n : Nat} {a : Nat → Int} (h : FitF L S n a) (i : Nat) (hi : i < n) : (tw L S n i).1 ≤ a i ∧ a i ≤ (tw L S n i).2 :=
  fit_tw_aux h (n - 1 - i) i (by omega)

theorem fw_in (L S : List (Int × Int)) (i : Nat) : (pr L i).1 ≤ (fw L S i).1 ∧ (fw L S i).2 ≤ (pr L i).2 := by
  cases i with
  | zero => exact ⟨Int.le_refl _, Int.le_refl _⟩
  | succ i => show _ ≤ max _ _ ∧ min _ _ ≤ _; omega
theorem tw_fw {L S : List (Int × Int)} {n i : Nat} (hi : i < n) : (fw L S i).1 ≤ (tw L S n i).1 ∧ (tw L S n i).2 ≤ (fw L S i).2 := by
  by_cases e : i = n - 1
  · rw [e, tw_last]; exact ⟨Int.le_refl _, Int.le_refl _⟩
  · rw [tw_step L S n i (by omega)]; show _ ≤ max _ _ ∧ min _ _ ≤ _; omega
theorem tw_in {L S : List (Int × Int)} {n i : Nat} (hi : i < n) : (pr L i).1 ≤ (tw L S n i).1 ∧ (tw L S n i).2 ≤ (pr L i).2 := by
  have h1 := fw_in L S i
  have h2 := tw_fw (L := L) (S := S) hi
  omega

/-- No tight window is empty. -/
def TwOk (L S : List (Int × Int)) (n : Nat) : Prop := ∀ i, i < n → (tw L S n i).1 ≤ (tw L S n i).2

theorem fw_steps (L S : List (Int × Int)) (i : Nat) : (fw L S i).1 + (pr S i).1 ≤ (fw L S (i + 1)).1 ∧ (fw L S (i + 1)).2 ≤ (fw L S i).2 + (pr S i).2 := by
  show _ ≤ max _ _ ∧ min _ _ ≤ _
  omega

/-- The least ages fit. -/
theorem young_fits {L S : List (Int × Int)} {n : Nat} (hs : StepsOk S n) (h : TwOk L S n) : FitF L S n (fun i => (tw L S n i).1) := by
  refine ⟨fun i hi => ?_, fun i hi => ?_⟩
  · have h1 := tw_in (L := L) (S := S) hi
    have h2 := h i hi
    dsimp only
    omega
  · have h1 := tw_step L S n i hi
    have h2 := fw_steps L S i
    have h3 := tw_fw (L := L) (S := S) hi
    have h4 := hs i hi
    have e : (tw L S n i).1 = max (fw L S i).1 ((tw L S n (i + 1)).1 - (pr S i).2) := by rw [h1]; rfl
    dsimp only
    omega
/-- The greatest ages fit. -/
theorem old_fits {L S : List (Int × Int)} {n : Nat} (hs : StepsOk S n) (h : TwOk L S n) : FitF L S n (fun i => (tw L S n i).2) := by
  refine ⟨fun i hi => ?_, fun i hi => ?_⟩
  · have h1 := tw_in (L := L) (S := S) hi
    have h2 := h i hi
    dsimp only
    omega
  · have h1 := tw_step L S n i hi
    have h2 := fw_steps L S i
    have h3 := tw_fw (L := L) (S := S) hi
    have h4 := hs i hi
    have e : (tw L S n i).2 = min (fw L S i).2 ((tw L S n (i + 1)).2 - (pr S i).1) := by rw [h1]; rfl
    dsimp only
    omega

theorem twOk_of_fit {L S : List (Int × Int)} {n : Nat} {a : Nat → Int} (h : FitF L S n a) : TwOk L S n := fun i hi => by
  have := fit_tw h i hi; omega

/-- Each age in a tight window is that of some ages that fit. -/
theorem any_fits {L S : List (Int × Int)} {n k : Nat} {age : Int} (hs : StepsOk S n) (h : TwOk L S n) (hk : k < n) (h1 : (tw L S n k).1 ≤ age) (h2 : age ≤ (tw L S n k).2) :
    ∃ a, FitF L S n a ∧ a k = age := by
  have fy := young_fits hs h
  have fo := old_fits hs h
  refine ⟨fun i => min (tw L S n i).2 ((tw L S n i).1 + (age - (tw L S n k).1)), ⟨fun i hi => ?_, fun i hi => ?_⟩, ?_⟩
  · have a1 := tw_in (L := L) (S := S) hi
    have a2 := h i hi
    dsimp only
    omega
  · have a1 := fy.2 i hi
    have a2 := fo.2 i hi
    dsimp only at a1 a2 ⊢
    omega
  · dsimp only
    omega

/-- What is tight is told by the ages that fit. -/
theorem tw_eq {L S : List (Int × Int)} {n : Nat} (hs : StepsOk S n) (h : TwOk L S n) {i : Nat} (hi : i < n) {lo hi' : Int}
    (hlo : ∃ a, FitF L S n a ∧ a i = lo) (hhi : ∃ a, FitF L S n a ∧ a i = hi') (hall : ∀ a, FitF L S n a → lo ≤ a i ∧ a i ≤ hi') : tw L S n i = (lo, hi') := by
  obtain ⟨a, fa, rfl⟩ := hlo
  obtain ⟨b, fb, rfl⟩ := hhi
  have h1 := fit_tw fa i hi
  have h2 := fit_tw fb i hi
  have h3 := hall _ (young_fits hs h)
  have h4 := hall _ (old_fits hs h)
  exact Prod.ext (by dsimp only; omega) (by dsimp only; omega)

/-- Windows and steps that are no wider let fewer ages fit. -/
theorem fit_mono {L S L' S' : List (Int × Int)} {n : Nat} {a : Nat → Int} (h : FitF L S n a) (hL : ∀ i, i < n → (pr L' i).1 ≤ (pr L i).1 ∧ (pr L i).2 ≤ (pr L' i).2) (hS : ∀ i, i + 1 < n → (pr S' i).1 ≤ (pr S i).1 ∧ (pr S i).2 ≤ (pr S' i).2) : FitF L' S' n a :=
  ⟨fun i hi => by have := h.1 i hi; have := hL i hi; omega, fun i hi => by have := h.2 i hi; have := hS i hi; omega⟩

theorem tw_mono {L S L' S' : List (Int × Int)} {n : Nat} (hs : StepsOk S n) (h : TwOk L S n) (hL : ∀ i, i < n → (pr L' i).1 ≤ (pr L i).1 ∧ (pr L i).2 ≤ (pr L' i).2) (hS : ∀ i, i + 1 < n → (pr S' i).1 ≤ (pr S i).1 ∧ (pr S i).2 ≤ (pr S' i).2) :
    TwOk L' S' n ∧ ∀ i, i < n → (tw L' S' n i).1 ≤ (tw L S n i).1 ∧ (tw L S n i).2 ≤ (tw L' S' n i).2 := by
  have f1 := fit_mono (young_fits hs h) hL hS
  have f2 := fit_mono (old_fits hs h) hL hS
  exact ⟨twOk_of_fit f1, fun i hi => ⟨(fit_tw f1 i hi).1, (fit_tw f2 i hi).2⟩⟩
end Go.Proofs.Yteflaibcldknmaa
