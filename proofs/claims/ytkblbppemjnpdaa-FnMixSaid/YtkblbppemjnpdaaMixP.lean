/- Plain lemmas on mixtures. -/
import Derived.Test.YtkblbppemjnpdaaMixS
import Derived.Test.YtkblbppemjnpdaaDrawM
import Derived.Test.YtkblbppemjnpdaaFnWater
import Derived.Test.YtkblbppemjnpdaaFracC
namespace Go.Proofs.Ytkblbppemjnpdaa
open Go.RowKit

theorem mx_true {L : List (Int × Int)} (h : mxOk L = true) : 1 ≤ L.length ∧ L.length ≤ 6 ∧ mxAll L L.length ∧ wvB (psA L L.length) (psH L L.length) = true := by
  unfold mxOk at h
  simp only [Bool.and_eq_true, decide_eq_true_eq] at h
  exact ⟨h.1.1, h.1.2.1, h.1.2.2, h.2⟩
end Go.Proofs.Ytkblbppemjnpdaa
