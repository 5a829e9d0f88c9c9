/- Plain lemmas: ages that fit; least and greatest ages; what is left. -/
import Derived.Test.YteflaibcldknmaaTightQ
import Derived.Test.YteflaibcldknmaaInts
namespace Go.Proofs.Yteflaibcldknmaa
set_option linter.unusedVariables false
set_option linter.unusedSimpArgs false

def fitAt (L S : List (Int × Int)) (A : List Int) (i : Nat) : Prop :=
  (pr L i).1 ≤ it A i ∧ it A i ≤ (pr L i).2 ∧ (0 < i → (pr S (i - 1)).1 ≤ it A i - it A (i - 1) ∧ it A i - it A (i - 1) ≤ (pr S (i - 1)).2)
instance (L S : List (Int × Int)) (A : List Int) (i : Nat) : Decidable (fitAt L S A i) := by unfold fitAt; exact inferInstance
def fitAll (L S : List (Int × Int)) (A : List Int) (k : Nat) : Prop := ∀ i, i < k → fitAt L S A i
instance (L S : List (Int × Int)) (A : List Int) (k : Nat) : Decidable (fitAll L S A k) := inferInstanceAs (Decidable (∀ i, i < k → fitAt L S A i))
def fitB (L S : List (Int × Int)) (A : List Int) : Bool := wdB L S && decide (A.length = L.length ∧ fitAll L S A L.length)

theorem fitAll_F {L S : List (Int × Int)} {A : List Int} {n : Nat} : fitAll L S A n ↔ FitF L S n (it A) := by
  constructor
  · intro h
    refine ⟨fun i hi => ⟨(h i hi).1, (h i hi).2.1⟩, fun i hi => ?_⟩
    have := (h (i + 1) hi).2.2 (by omega)
    rw [show i + 1 - 1 = i by omega] at this
    exact this
  · intro h i hi
    refine ⟨(h.1 i hi).1, (h.1 i hi).2, fun h0 => ?_⟩
    have := h.2 (i - 1) (by omega)
    rw [show i - 1 + 1 = i by omega] at this
    exact this

theorem fit_true {L S : List (Int × Int)} {A : List Int} (h : fitB L S A = true) : wdB L S = true ∧ A.length = L.length ∧ FitF L S L.length (it A) := by
  unfold fitB at h
  simp only [Bool.and_eq_true, decide_eq_true_eq] at h
  exact ⟨h.1, h.2.1, fitAll_F.1 h.2.2⟩
theorem fit_mk {L S : List (Int × Int)} {A : List Int} (h1 : wdB L S = true) (h2 : A.length = L.length) (h3 : FitF L S L.length (it A)) : fitB L S A = true := by
  unfold fitB; rw [h1, decide_eq_true ⟨h2, fitAll_F.2 h3⟩]; rfl
theorem fit_congr {L S : List (Int × Int)} {n : Nat} {a b : Nat → Int} (h : FitF L S n a) (e : ∀ i, i < n → a i = b i) : FitF L S n b :=
  ⟨fun i hi => by rw [← e i hi]; exact h.1 i hi, fun i hi => by rw [← e i (by omega), ← e (i + 1) hi]; exact h.2 i hi⟩

def yg (L S : List (Int × Int)) : List Int := (List.range L.length).map fun i => (tw L S L.length i).1
def od (L S : List (Int × Int)) : List Int := (List.range L.length).map fun i => (tw L S L.length i).2
theorem yg_it (L S : List (Int × Int)) (i : Nat) (h : i < L.length) : it (yg L S) i = (tw L S L.length i).1 := it_map _ _ i h
theorem od_it (L S : List (Int × Int)) (i : Nat) (h : i < L.length) : it (od L S) i = (tw L S L.length i).2 := it_map _ _ i h
theorem yg_len (L S : List (Int × Int)) : (yg L S).length = L.length := by simp [yg]
theorem od_len (L S : List (Int × Int)) : (od L S).length = L.length := by simp [od]

theorem yg_fit {L S : List (Int × Int)} (h : tkB L S = true) : fitB L S (yg L S) = true := by
  obtain ⟨hw, ht⟩ := tk_true h
  exact fit_mk hw (yg_len L S) (fit_congr (young_fits (steps_ok hw) ht) (fun i hi => (yg_it L S i hi).symm))
theorem od_fit {L S : List (Int × Int)} (h : tkB L S = true) : fitB L S (od L S) = true := by
  obtain ⟨hw, ht⟩ := tk_true h
  exact fit_mk hw (od_len L S) (fit_congr (old_fits (steps_ok hw) ht) (fun i hi => (od_it L S i hi).symm))

/-- Ages beyond what is tight do not fit. -/
theorem no_fit {L S : List (Int × Int)} {A : List Int} {k : Nat} (hk : k < L.length) (h : it A k < (tw L S L.length k).1 ∨ (tw L S L.length k).2 < it A k) : fitB L S A = false := by
  cases hf : fitB L S A with
  | false => rfl
  | true =>
    obtain ⟨_, _, f⟩ := fit_true hf
    have := fit_tw f k hk
    omega
theorem fit_tk {L S : List (Int × Int)} {A : List Int} (h : fitB L S A = true) : tkB L S = true ∧ ∀ i, i < L.length → (tw L S L.length i).1 ≤ it A i ∧ it A i ≤ (tw L S L.length i).2 := by
  obtain ⟨hw, hl, f⟩ := fit_true h
  exact ⟨tk_fit hw f, fun i hi => fit_tw f i hi⟩

/-- What is left, up to layer k. -/
def wide (f : Nat → Int × Int) : Nat → Int
  | 0 => 0
  | k + 1 => wide f k + ((f k).2 - (f k).1)
theorem wide_bd {f : Nat → Int × Int} {k : Nat} {c : Int} (h : ∀ i, i < k → (f i).1 ≤ (f i).2 ∧ (f i).2 - (f i).1 ≤ c) : 0 ≤ wide f k ∧ wide f k ≤ k * c := by
  induction k with
  | zero => exact ⟨Int.le_refl _, by simp [wide]⟩
  | succ k ih =>
    obtain ⟨a, b⟩ := ih (fun i hi => h i (by omega))
    have := h k (by omega)
    show 0 ≤ wide f k + _ ∧ wide f k + _ ≤ _
    have e : ((k + 1 : Nat) : Int) * c = k * c + c := by rw [Int.natCast_add, Int.add_mul]; simp
    omega
theorem wide_le {f g : Nat → Int × Int} {k : Nat} (h : ∀ i, i < k → (f i).2 - (f i).1 ≤ (g i).2 - (g i).1) : wide f k ≤ wide g k := by
  induction k with
  | zero => exact Int.le_refl _
  | succ k ih =>
    have := ih (fun i hi => h i (by omega))
    have := h k (by omega)
    show wide f k + _ ≤ wide g k + _
    omega
theorem wide_nn {f : Nat → Int × Int} {k : Nat} (h : ∀ i, i < k → (f i).1 ≤ (f i).2) : 0 ≤ wide f k := by
  induction k with
  | zero => exact Int.le_refl _
  | succ k ih =>
    have := ih (fun i hi => h i (by omega))
    have := h k (by omega)
    show 0 ≤ wide f k + _
    omega
theorem wide_zero {f : Nat → Int × Int} {k : Nat} (h : ∀ i, i < k → (f i).1 ≤ (f i).2) : wide f k = 0 ↔ ∀ i, i < k → (f i).1 = (f i).2 := by
  induction k with
  | zero => exact ⟨fun _ i hi => by omega, fun _ => rfl⟩
  | succ k ih =>
    have ih := ih (fun i hi => h i (by omega))
    have hk := h k (by omega)
    have hw : 0 ≤ wide f k := wide_nn (fun i hi => h i (by omega))
    constructor
    · intro e i hi
      have e' : wide f k + ((f k).2 - (f k).1) = 0 := e
      by_cases q : i = k
      · subst q; omega
      · exact ih.1 (by omega) i (by omega)
    · intro e
      show wide f k + ((f k).2 - (f k).1) = 0
      have := ih.2 (fun i hi => e i (by omega))
      have := e k (by omega)
      omega
end Go.Proofs.Yteflaibcldknmaa
