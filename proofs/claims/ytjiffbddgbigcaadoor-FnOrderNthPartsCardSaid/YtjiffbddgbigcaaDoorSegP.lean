/- Segments letter by letter: plain lemmas. -/
import Derived.Test.YtjiffbddgbigcaaDoorBox
namespace Go.Proofs.YtjiffbddgbigcaaDoor
set_option linter.unusedVariables false
set_option linter.unusedSimpArgs false

theorem snoc_of {α : Type} (S : List α) (h : S ≠ []) : ∃ T s, S = T ++ [s] := ⟨S.dropLast, S.getLast h, (List.dropLast_concat_getLast h).symm⟩
theorem upL_snoc (T : List (List UInt8)) (s : List UInt8) (c : UInt8) : upL (T ++ [s]) c = T ++ [s ++ [c]] := by
  unfold upL
  rw [List.dropLast_concat, List.getLastD_concat]
theorem set_last {α : Type} (T : List α) (x y : α) : (T ++ [x]).set T.length y = T ++ [y] := by simp
theorem it_last (T : List Int) (x : Int) : it (T ++ [x]) T.length = x := by
  unfold it
  simp
theorem cA_bar (p : List UInt8) : cA (p ++ [124]) = cA p ++ [0] ∧ cB (p ++ [124]) = cB p ++ [0] := by
  unfold cA cB
  rw [sg_snoc_bar]
  simp
theorem c_up (p : List UInt8) (c : UInt8) (h : c ≠ 124) : ∃ T s, sg p = T ++ [s] ∧ sg (p ++ [c]) = T ++ [s ++ [c]] := by
  obtain ⟨T, s, e⟩ := snoc_of (sg p) (sg_ne p)
  exact ⟨T, s, e, by rw [sg_snoc p c h, e, upL_snoc]⟩
theorem cA_a (p : List UInt8) : cA (p ++ [97]) = (cA p).set ((sg p).length - 1) (it (cA p) ((sg p).length - 1) + 1) ∧ cB (p ++ [97]) = cB p := by
  obtain ⟨T, s, e1, e2⟩ := c_up p 97 (by decide)
  unfold cA cB
  rw [e2, e1]
  simp only [List.map_append, List.map_cons, List.map_nil, List.length_append, List.length_cons, List.length_nil, Nat.zero_add, Nat.add_sub_cancel]
  constructor
  · have l : T.length = (T.map fun s => ((s.count 97 : Nat) : Int)).length := by simp
    rw [l, it_last, set_last]
    simp
  · rw [List.count_append]
    simp
theorem cB_b (p : List UInt8) : cB (p ++ [98]) = (cB p).set ((sg p).length - 1) (it (cB p) ((sg p).length - 1) + 1) ∧ cA (p ++ [98]) = cA p := by
  obtain ⟨T, s, e1, e2⟩ := c_up p 98 (by decide)
  unfold cA cB
  rw [e2, e1]
  simp only [List.map_append, List.map_cons, List.map_nil, List.length_append, List.length_cons, List.length_nil, Nat.zero_add, Nat.add_sub_cancel]
  constructor
  · have l : T.length = (T.map fun s => ((s.count 98 : Nat) : Int)).length := by simp
    rw [l, it_last, set_last]
    simp
  · rw [List.count_append]
    simp
theorem sg_len_up (p : List UInt8) (c : UInt8) (h : c ≠ 124) : (sg (p ++ [c])).length = (sg p).length := by
  obtain ⟨T, s, e1, e2⟩ := c_up p c h
  rw [e1, e2]
  simp
theorem sg_len_bar (p : List UInt8) : (sg (p ++ [124])).length = (sg p).length + 1 := by
  rw [sg_snoc_bar]
  simp
theorem it_le (l : List UInt8) (k : Nat) : 0 ≤ it (cA l) k ∧ it (cA l) k ≤ l.length ∧ 0 ≤ it (cB l) k ∧ it (cB l) k ≤ l.length := by
  rw [cA_it, cB_it]
  by_cases h : k < (sg l).length
  · have a := sg_le l _ (gS_mem h)
    have b := List.count_le_length (a := (97 : UInt8)) (l := gS (sg l) k)
    have c := List.count_le_length (a := (98 : UInt8)) (l := gS (sg l) k)
    omega
  · have e : gS (sg l) k = [] := by
      unfold gS
      rw [List.getD_eq_getElem?_getD, List.getElem?_eq_none (by omega)]
      rfl
    rw [e]
    simp
theorem let_snoc (p : List UInt8) (c : UInt8) : letters (p ++ [c]) = (letters p && decide (c = 97 ∨ c = 98 ∨ c = 124)) := by
  unfold letters
  rw [List.all_append]
  simp
theorem pr_letter {l : List UInt8} {c : UInt8} (h : c ∈ l) (h1 : c ≠ 97) (h2 : c ≠ 98) (h3 : c ≠ 124) : prB l = false := by
  unfold prB
  have : letters l = false := by
    cases e : letters l with
    | false => rfl
    | true =>
      unfold letters at e
      have := List.all_eq_true.mp e c h
      simp [h1, h2, h3] at this
  rw [this]
  rfl
theorem take_up (l : List UInt8) (k : Nat) (h : k < l.length) : l.take (k + 1) = l.take k ++ [l[k]] := List.take_succ_eq_append_getElem h
end Go.Proofs.YtjiffbddgbigcaaDoor
