/- sameWindows. -/
import Derived.Test.YtgendnkemdcjeaaWinS
import Derived.Test.YtgendnkemdcjeaaDrawN
namespace Go.Proofs.Ytgendnkemdcjeaa
open Go.RowKit
set_option linter.unusedVariables false
set_option linter.unusedSimpArgs false

theorem prs_ext {L L' : List (Int × Int)} (hl : L.length = L'.length) (h : ∀ j, j < L.length → pr L j = pr L' j) : L = L' := by
  apply List.ext_getElem hl
  intro i h1 h2
  have := h i h1
  unfold pr at this
  rw [List.getD_eq_getElem?_getD, List.getElem?_eq_getElem h1, List.getD_eq_getElem?_getD, List.getElem?_eq_getElem h2] at this
  exact this

def eqL (L L' : List (Int × Int)) : Bool := decide (L = L')
theorem eqL_self (L : List (Int × Int)) : eqL L L = true := by unfold eqL; simp
theorem eqL_no {L L' : List (Int × Int)} (h : L ≠ L') : eqL L L' = false := by unfold eqL; simp [h]
theorem eqL_yes {L L' : List (Int × Int)} (h : L = L') : eqL L L' = true := by unfold eqL; simp [h]


end Go.Proofs.Ytgendnkemdcjeaa
