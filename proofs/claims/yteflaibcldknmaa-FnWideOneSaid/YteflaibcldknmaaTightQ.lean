/- Plain lemmas: valid windows, and what the laws on tight windows say. -/
import Derived.Test.YteflaibcldknmaaTightP
namespace Go.Proofs.Yteflaibcldknmaa
set_option linter.unusedVariables false
set_option linter.unusedSimpArgs false

def rgB (p : Int × Int) : Bool := decide (0 ≤ p.1 ∧ p.1 ≤ p.2 ∧ p.2 ≤ 100000)
def rgAll (L : List (Int × Int)) (k : Nat) : Prop := ∀ i, i < k → rgB (pr L i) = true
instance (L : List (Int × Int)) (k : Nat) : Decidable (rgAll L k) := inferInstanceAs (Decidable (∀ i, i < k → rgB (pr L i) = true))
instance (L S : List (Int × Int)) (n : Nat) : Decidable (TwOk L S n) := inferInstanceAs (Decidable (∀ i, i < n → (tw L S n i).1 ≤ (tw L S n i).2))
def wdB (L S : List (Int × Int)) : Bool := decide (1 ≤ L.length ∧ L.length ≤ 12 ∧ S.length + 1 = L.length ∧ rgAll L L.length ∧ rgAll S S.length)
def tkB (L S : List (Int × Int)) : Bool := wdB L S && decide (TwOk L S L.length)
def twl (L S : List (Int × Int)) : List (Int × Int) := (List.range L.length).map (tw L S L.length)

theorem rg_bd {p : Int × Int} (h : rgB p = true) : 0 ≤ p.1 ∧ p.1 ≤ p.2 ∧ p.2 ≤ 100000 := by unfold rgB at h; simpa using h
theorem rg_mk {p : Int × Int} (h1 : 0 ≤ p.1) (h2 : p.1 ≤ p.2) (h3 : p.2 ≤ 100000) : rgB p = true := by unfold rgB; simp; omega
theorem wd_true {L S : List (Int × Int)} (h : wdB L S = true) : 1 ≤ L.length ∧ L.length ≤ 12 ∧ S.length + 1 = L.length ∧ rgAll L L.length ∧ rgAll S S.length := by
  unfold wdB at h; simpa using h
theorem wd_mk {L S : List (Int × Int)} (h : 1 ≤ L.length ∧ L.length ≤ 12 ∧ S.length + 1 = L.length ∧ rgAll L L.length ∧ rgAll S S.length) : wdB L S = true := by
  unfold wdB; exact decide_eq_true h
theorem tk_true {L S : List (Int × Int)} (h : tkB L S = true) : wdB L S = true ∧ TwOk L S L.length := by
  unfold tkB at h; simpa using h
theorem tk_mk {L S : List (Int × Int)} (h1 : wdB L S = true) (h2 : TwOk L S L.length) : tkB L S = true := by
  unfold tkB; rw [h1, decide_eq_true h2]; rfl
theorem tk_fit {L S : List (Int × Int)} (h1 : wdB L S = true) {a : Nat → Int} (h2 : FitF L S L.length a) : tkB L S = true := tk_mk h1 (twOk_of_fit h2)
theorem tk_no {L S : List (Int × Int)} (h : ∀ a, FitF L S L.length a → False) : tkB L S = false := by
  cases hk : tkB L S with
  | false => rfl
  | true =>
    obtain ⟨h1, h2⟩ := tk_true hk
    have hs : StepsOk S L.length := fun i hi => by
      obtain ⟨_, _, h3, _, h5⟩ := wd_true h1
      have := rg_bd (h5 i (by omega)); omega
    exact (h _ (young_fits hs h2)).elim
theorem steps_ok {L S : List (Int × Int)} (h : wdB L S = true) : StepsOk S L.length := fun i hi => by
  obtain ⟨_, _, h3, _, h5⟩ := wd_true h
  have := rg_bd (h5 i (by omega)); omega
theorem twl_len (L S : List (Int × Int)) : (twl L S).length = L.length := by simp [twl]
theorem twl_pr (L S : List (Int × Int)) (i : Nat) (h : i < L.length) : pr (twl L S) i = tw L S L.length i := pr_map _ _ i h

theorem pr_set (L : List (Int × Int)) (k : Nat) (x : Int × Int) (i : Nat) (h : k < L.length) : pr (L.set k x) i = if i = k then x else pr L i := by
  unfold pr
  rw [List.getD_eq_getElem?_getD, List.getElem?_set]
  by_cases e : i = k
  · subst e; simp [h]
  · rw [if_neg (fun q => e q.symm), if_neg e, List.getD_eq_getElem?_getD]

/-- The same ages fit what is tight. -/
theorem fit_twl {L S : List (Int × Int)} {a : Nat → Int} : FitF (twl L S) S L.length a ↔ FitF L S L.length a := by
  constructor
  · intro h
    refine fit_mono h (fun i hi => ?_) (fun i hi => ⟨Int.le_refl _, Int.le_refl _⟩)
    rw [twl_pr L S i hi]
    exact tw_in hi
  · intro h
    refine ⟨fun i hi => ?_, h.2⟩
    rw [twl_pr L S i hi]
    exact fit_tw h i hi

theorem tk_again {L S : List (Int × Int)} (h : tkB L S = true) : tkB (twl L S) S = true ∧ twl (twl L S) S = twl L S := by
  obtain ⟨h1, h2⟩ := tk_true h
  have hs := steps_ok h1
  obtain ⟨w1, w2, w3, w4, w5⟩ := wd_true h1
  have hl := twl_len L S
  have hw : wdB (twl L S) S = true := by
    refine wd_mk ⟨by omega, by omega, by omega, fun i hi => ?_, w5⟩
    rw [hl] at hi
    rw [twl_pr L S i hi]
    have a1 := rg_bd (w4 i hi)
    have a2 := tw_in (L := L) (S := S) hi
    have a3 := h2 i hi
    exact rg_mk (by omega) (by omega) (by omega)
  have hy : FitF (twl L S) S (twl L S).length (fun i => (tw L S L.length i).1) := by rw [hl]; exact fit_twl.2 (young_fits hs h2)
  have ho : FitF (twl L S) S (twl L S).length (fun i => (tw L S L.length i).2) := by rw [hl]; exact fit_twl.2 (old_fits hs h2)
  have hk := tk_fit hw hy
  refine ⟨hk, ?_⟩
  have ht := (tk_true hk).2
  unfold twl
  rw [List.length_map, List.length_range]
  refine List.map_congr_left (fun i hi => ?_)
  rw [List.mem_range] at hi
  rw [hl] at ht hy ho
  have := tw_eq (steps_ok (L := twl L S) (S := S) hw |> fun q => by rw [hl] at q; exact q) ht hi ⟨_, hy, rfl⟩ ⟨_, ho, rfl⟩ (fun a fa => fit_tw (fit_twl.1 fa) i hi)
  exact this

/-- One window cut to a single age. -/
theorem tk_any {L S : List (Int × Int)} {k : Nat} {age : Int} (h : tkB L S = true) (hk : k < L.length) (h1 : (tw L S L.length k).1 ≤ age) (h2 : age ≤ (tw L S L.length k).2) :
    tkB (L.set k (age, age)) S = true ∧ tw (L.set k (age, age)) S L.length k = (age, age) := by
  obtain ⟨hw, ht⟩ := tk_true h
  have hs := steps_ok hw
  obtain ⟨w1, w2, w3, w4, w5⟩ := wd_true hw
  have hl : (L.set k (age, age)).length = L.length := by simp
  obtain ⟨a, fa, ea⟩ := any_fits hs ht hk h1 h2
  have hin := tw_in (L := L) (S := S) hk
  have hrk := rg_bd (w4 k hk)
  have hx : wdB (L.set k (age, age)) S = true := by
    refine wd_mk ⟨by omega, by omega, by omega, fun i hi => ?_, w5⟩
    rw [pr_set L k _ i hk]
    split
    · exact rg_mk (by dsimp only; omega) (Int.le_refl _) (by dsimp only; omega)
    · exact w4 i (by omega)
  have fx : FitF (L.set k (age, age)) S L.length a := by
    refine ⟨fun i hi => ?_, fa.2⟩
    rw [pr_set L k _ i hk]
    split
    · rename_i e; subst e; rw [ea]; exact ⟨Int.le_refl _, Int.le_refl _⟩
    · exact fa.1 i hi
  refine ⟨tk_fit hx (by rw [hl]; exact fx), ?_⟩
  refine tw_eq hs (twOk_of_fit fx) hk ⟨a, fx, ea⟩ ⟨a, fx, ea⟩ (fun b fb => ?_)
  have := fb.1 k hk
  rw [pr_set L k _ k hk, if_pos rfl] at this
  exact this

/-- A window that leaves out the tight one lets no ages fit. -/
theorem tk_none {L S : List (Int × Int)} {k : Nat} {x : Int × Int} (hk : k < L.length) (hx : (pr L k).1 ≤ x.1) (hy : x.2 ≤ (pr L k).2) (ho : x.2 < (tw L S L.length k).1 ∨ (tw L S L.length k).2 < x.1) : tkB (L.set k x) S = false := by
  refine tk_no (fun a fa => ?_)
  rw [List.length_set] at fa
  have f : FitF L S L.length a := by
    refine fit_mono fa (fun i hi => ?_) (fun i hi => ⟨Int.le_refl _, Int.le_refl _⟩)
    rw [pr_set L k _ i hk]
    split
    · rename_i e; subst e; exact ⟨hx, hy⟩
    · exact ⟨Int.le_refl _, Int.le_refl _⟩
  have h1 := fit_tw f k hk
  have h2 := fa.1 k hk
  rw [pr_set L k _ k hk, if_pos rfl] at h2
  omega

/-- The first windows alone are no tighter. -/
theorem tk_first {L S : List (Int × Int)} {k : Nat} (h : tkB L S = true) (h1 : 1 ≤ k) (hk : k ≤ L.length) :
    tkB (L.take k) (S.take (k - 1)) = true ∧ ∀ i, i < k → (tw (L.take k) (S.take (k - 1)) k i).1 ≤ (tw L S L.length i).1 ∧ (tw L S L.length i).2 ≤ (tw (L.take k) (S.take (k - 1)) k i).2 := by
  obtain ⟨hw, ht⟩ := tk_true h
  have hs := steps_ok hw
  obtain ⟨w1, w2, w3, w4, w5⟩ := wd_true hw
  have hl : (L.take k).length = k := by rw [List.length_take]; omega
  have hl2 : (S.take (k - 1)).length = k - 1 := by rw [List.length_take]; omega
  have cut : ∀ a, FitF L S L.length a → FitF (L.take k) (S.take (k - 1)) k a := by
    intro a fa
    refine ⟨fun i hi => ?_, fun i hi => ?_⟩
    · rw [pr_take L k i hi]; exact fa.1 i (by omega)
    · rw [pr_take S (k - 1) i (by omega)]; exact fa.2 i (by omega)
  have hx : wdB (L.take k) (S.take (k - 1)) = true := by
    refine wd_mk ⟨by omega, by omega, by omega, fun i hi => ?_, fun i hi => ?_⟩
    · rw [pr_take L k i (by omega)]; exact w4 i (by omega)
    · rw [pr_take S (k - 1) i (by omega)]; exact w5 i (by omega)
  have fy := cut _ (young_fits hs ht)
  have fo := cut _ (old_fits hs ht)
  refine ⟨tk_fit hx (by rw [hl]; exact fy), fun i hi => ⟨(fit_tw fy i hi).1, (fit_tw fo i hi).2⟩⟩

/-- Wider windows or steps are no tighter. -/
theorem tk_wider {L S L' S' : List (Int × Int)} (h : tkB L S = true) (hw' : wdB L' S' = true) (hlen : L'.length = L.length) (hL : ∀ i, i < L.length → (pr L' i).1 ≤ (pr L i).1 ∧ (pr L i).2 ≤ (pr L' i).2) (hS : ∀ i, i + 1 < L.length → (pr S' i).1 ≤ (pr S i).1 ∧ (pr S i).2 ≤ (pr S' i).2) :
    tkB L' S' = true ∧ ∀ i, i < L.length → (tw L' S' L.length i).1 ≤ (tw L S L.length i).1 ∧ (tw L S L.length i).2 ≤ (tw L' S' L.length i).2 := by
  obtain ⟨hw, ht⟩ := tk_true h
  obtain ⟨m1, m2⟩ := tw_mono (steps_ok hw) ht hL hS
  exact ⟨tk_mk hw' (by rw [hlen]; exact m1), m2⟩

/-- All ages shifted. -/
theorem tk_shift {L S : List (Int × Int)} {c : Int} (h : tkB L S = true) (hw' : wdB (L.map fun p => (p.1 + c, p.2 + c)) S = true) :
    tkB (L.map fun p => (p.1 + c, p.2 + c)) S = true ∧ ∀ i, i < L.length → tw (L.map fun p => (p.1 + c, p.2 + c)) S L.length i = ((tw L S L.length i).1 + c, (tw L S L.length i).2 + c) := by
  obtain ⟨hw, ht⟩ := tk_true h
  have hs := steps_ok hw
  have hp : ∀ i, i < L.length → pr (L.map fun p => (p.1 + c, p.2 + c)) i = ((pr L i).1 + c, (pr L i).2 + c) := by
    intro i hi
    unfold pr
    rw [List.getD_eq_getElem?_getD, List.getElem?_map, List.getElem?_eq_getElem hi, List.getD_eq_getElem?_getD, List.getElem?_eq_getElem hi]
    rfl
  have up : ∀ a, FitF L S L.length a → FitF (L.map fun p => (p.1 + c, p.2 + c)) S L.length (fun i => a i + c) := by
    intro a fa
    refine ⟨fun i hi => ?_, fun i hi => ?_⟩
    · rw [hp i hi]; have := fa.1 i hi; dsimp only; omega
    · have := fa.2 i hi; dsimp only; omega
  have dn : ∀ a, FitF (L.map fun p => (p.1 + c, p.2 + c)) S L.length a → FitF L S L.length (fun i => a i - c) := by
    intro a fa
    refine ⟨fun i hi => ?_, fun i hi => ?_⟩
    · have := fa.1 i hi; rw [hp i hi] at this; dsimp only at this ⊢; omega
    · have := fa.2 i hi; dsimp only; omega
  have fy := up _ (young_fits hs ht)
  have fo := up _ (old_fits hs ht)
  refine ⟨tk_fit hw' (by simpa using fy), fun i hi => ?_⟩
  refine tw_eq hs (twOk_of_fit fy) hi ⟨_, fy, rfl⟩ ⟨_, fo, rfl⟩ (fun a fa => ?_)
  have := fit_tw (dn a fa) i hi
  omega
end Go.Proofs.Yteflaibcldknmaa
