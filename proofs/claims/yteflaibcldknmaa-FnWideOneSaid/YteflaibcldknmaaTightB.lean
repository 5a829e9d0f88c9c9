/- Plain: bounds of tight windows; the result of WindowsTight. -/
import Derived.Test.YteflaibcldknmaaWinV
namespace Go.Proofs.Yteflaibcldknmaa
open Go.RowKit
set_option linter.unusedVariables false

theorem wv_wd (L S : List (Int × Int)) : wvB L S = wdB L S := by
  unfold wvB wdB rgAllB inB
  rw [Bool.eq_iff_iff]
  simp only [Bool.and_eq_true, decide_eq_true_eq]
  constructor
  · rintro ⟨⟨a, b⟩, c, d, e⟩; exact ⟨by omega, by omega, by omega, d, e⟩
  · rintro ⟨a, b, c, d, e⟩; exact ⟨⟨by omega, by omega⟩, by omega, d, e⟩

theorem fw_bd {L S : List (Int × Int)} (h : wdB L S = true) : ∀ i, i < L.length → 0 ≤ (fw L S i).1 ∧ (fw L S i).1 ≤ 100000 * (i + 1) ∧ 0 ≤ (fw L S i).2 ∧ (fw L S i).2 ≤ 100000
  | 0, hi => by
    obtain ⟨_, _, _, hL, _⟩ := wd_true h
    have := rg_bd (hL 0 hi)
    show 0 ≤ (pr L 0).1 ∧ (pr L 0).1 ≤ _ ∧ 0 ≤ (pr L 0).2 ∧ (pr L 0).2 ≤ _
    omega
  | i + 1, hi => by
    obtain ⟨_, _, hl, hL, hS⟩ := wd_true h
    have a := fw_bd h i (by omega)
    have b := rg_bd (hL (i + 1) hi)
    have c := rg_bd (hS i (by omega))
    show 0 ≤ max (pr L (i + 1)).1 ((fw L S i).1 + (pr S i).1) ∧ max (pr L (i + 1)).1 ((fw L S i).1 + (pr S i).1) ≤ _ ∧ 0 ≤ min (pr L (i + 1)).2 ((fw L S i).2 + (pr S i).2) ∧ min (pr L (i + 1)).2 ((fw L S i).2 + (pr S i).2) ≤ _
    omega

theorem tw_bd_aux {L S : List (Int × Int)} (h : wdB L S = true) : ∀ k i, i + k + 1 = L.length → 0 ≤ (tw L S L.length i).1 ∧ (tw L S L.length i).1 ≤ 1200000 ∧ -(100000 * k) ≤ (tw L S L.length i).2 ∧ (tw L S L.length i).2 ≤ 100000
  | 0, i, hi => by
    obtain ⟨_, h12, _⟩ := wd_true h
    obtain rfl : i = L.length - 1 := by omega
    rw [tw_last]
    have := fw_bd h (L.length - 1) (by omega)
    omega
  | k + 1, i, hi => by
    obtain ⟨_, h12, hl, hL, hS⟩ := wd_true h
    rw [tw_step L S L.length i (by omega)]
    have a := tw_bd_aux h k (i + 1) (by omega)
    have b := fw_bd h i (by omega)
    have c := rg_bd (hS i (by omega))
    show 0 ≤ max (fw L S i).1 ((tw L S L.length (i + 1)).1 - (pr S i).2) ∧ max (fw L S i).1 ((tw L S L.length (i + 1)).1 - (pr S i).2) ≤ _ ∧ _ ≤ min (fw L S i).2 ((tw L S L.length (i + 1)).2 - (pr S i).1) ∧ min (fw L S i).2 ((tw L S L.length (i + 1)).2 - (pr S i).1) ≤ _
    omega

theorem tw_bd {L S : List (Int × Int)} (h : wdB L S = true) (i : Nat) (hi : i < L.length) : 0 ≤ (tw L S L.length i).1 ∧ (tw L S L.length i).1 ≤ 1200000 ∧ -1200000 ≤ (tw L S L.length i).2 ∧ (tw L S L.length i).2 ≤ 100000 := by
  obtain ⟨_, h12, _⟩ := wd_true h
  have := tw_bd_aux h (L.length - 1 - i) i (by omega)
  omega

/-- The windows that WindowsTight returns. -/
def tRes (L S : List (Int × Int)) : List (Int × Int) := if tkB L S = true then twl L S else []
theorem tRes_yes {L S : List (Int × Int)} (h : tkB L S = true) : tRes L S = twl L S := by unfold tRes; rw [if_pos h]
theorem tRes_no {L S : List (Int × Int)} (h : tkB L S = false) : tRes L S = [] := by unfold tRes; rw [if_neg (by simp [h])]

def TightPost (w : World) (L S : List (Int × Int)) (e : Ending) (w' : World) : Prop :=
  ∃ (a : Option Addr) (n c : Nat), e = .returned (.tuple #[.slice a n c, .bool (tkB L S)]) ∧ Prs w' a n (tRes L S) ∧ n ≤ c ∧ c ≤ maxLen ∧ Below w.heap.size w w' ∧
    (tkB L S = true → ∃ g, a = some ⟨g, 0, none⟩ ∧ n = L.length ∧ w.heap.size ≤ g ∧ OwnF w' g L.length (pr (twl L S)))

theorem TightPost.yes {w w' : World} {L S : List (Int × Int)} {g c : Nat} (h : tkB L S = true) (hc : L.length ≤ c) (hm : c ≤ maxLen) (hg : w.heap.size ≤ g) (O : OwnF w' g L.length (tw L S L.length)) (B : Below w.heap.size w w') :
    TightPost w L S (.returned (.tuple #[.slice (some ⟨g, 0, none⟩) L.length c, .bool true])) w' := by
  have O' : OwnF w' g L.length (pr (twl L S)) := O.congr (fun i hi => (twl_pr L S i hi).symm)
  exact ⟨_, _, _, by rw [h], by rw [tRes_yes h]; exact O'.prs (twl_len L S) (fun _ _ => rfl), hc, hm, B, fun _ => ⟨g, rfl, rfl, hg, O'⟩⟩

theorem TightPost.yes' {w w' : World} {L S : List (Int × Int)} {g c n : Nat} (hn : L.length = n) (h : tkB L S = true) (hc : n ≤ c) (hm : c ≤ maxLen) (hg : w.heap.size ≤ g) (O : OwnF w' g n (tw L S n)) (B : Below w.heap.size w w') :
    TightPost w L S (.returned (.tuple #[.slice (some ⟨g, 0, none⟩) n c, .bool true])) w' := by
  subst hn; exact TightPost.yes h hc hm hg O B

theorem TightPost.no {w w' : World} {L S : List (Int × Int)} {a : Option Addr} (h : tkB L S = false) (B : Below w.heap.size w w') :
    TightPost w L S (.returned (.tuple #[.slice a 0 0, .bool false])) w' :=
  ⟨_, _, _, by rw [h], by rw [tRes_no h]; exact ⟨rfl, .inl rfl⟩, Nat.le_refl _, by unfold maxLen; omega, B, fun q => by rw [h] at q; cases q⟩

theorem tk_wd {L S : List (Int × Int)} (h : wdB L S = false) : tkB L S = false := by unfold tkB; rw [h]; rfl
theorem tk_bad {L S : List (Int × Int)} {i : Nat} (hi : i < L.length) (h : (tw L S L.length i).2 < (tw L S L.length i).1) : tkB L S = false := by
  unfold tkB
  rw [Bool.and_eq_false_iff]
  refine .inr (decide_eq_false fun q => ?_)
  have := q i hi
  omega
end Go.Proofs.Yteflaibcldknmaa
