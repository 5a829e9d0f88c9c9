/- Plain: ages that fit, cut; WindowsFit with a known answer; rows of two lists of numbers. -/
import Derived.Test.YtgendnkemdcjeaaFitI
import Derived.Test.YtgendnkemdcjeaaCopyW
namespace Go.Proofs.Ytgendnkemdcjeaa
open Go.RowKit
set_option linter.unusedVariables false
set_option linter.unusedSimpArgs false

theorem wd_takeF {L S : List (Int × Int)} {k : Nat} (h : wdB L S = true) (h1 : 1 ≤ k) (hk : k ≤ L.length) : wdB (L.take k) (S.take (k - 1)) = true := by
  obtain ⟨w1, w2, w3, w4, w5⟩ := wd_true h
  have hl : (L.take k).length = k := by rw [List.length_take]; omega
  have hl2 : (S.take (k - 1)).length = k - 1 := by rw [List.length_take]; omega
  refine wd_mk ⟨by omega, by omega, by omega, fun i hi => ?_, fun i hi => ?_⟩
  · rw [pr_take L k i (by omega)]; exact w4 i (by omega)
  · rw [pr_take S (k - 1) i (by omega)]; exact w5 i (by omega)
theorem fit_take {L S : List (Int × Int)} {A : List Int} {k : Nat} (h : fitB L S A = true) (h1 : 1 ≤ k) (hk : k ≤ L.length) : fitB (L.take k) (S.take (k - 1)) (A.take k) = true := by
  obtain ⟨hw, hl, f⟩ := fit_true h
  refine fit_mk (wd_takeF hw h1 hk) (by rw [List.length_take, List.length_take, hl]) ?_
  rw [List.length_take, Nat.min_eq_left hk]
  refine ⟨fun i hi => ?_, fun i hi => ?_⟩
  · rw [pr_take L k i hi, it_take A k i hi]; exact f.1 i (by omega)
  · rw [pr_take S (k - 1) i (by omega), it_take A k i (by omega), it_take A k (i + 1) hi]; exact f.2 i (by omega)
theorem implFit_is (a a' a3 : Option Addr) (len cap len' cap' n3 c3 : Nat) (L S : List (Int × Int)) (A : List Int) (v : Bool) (w : World) (hlc : len ≤ cap) (hm : cap ≤ maxLen) (hlc' : len' ≤ cap') (hm' : cap' ≤ maxLen) (hc3 : n3 ≤ c3) (hm3 : c3 ≤ maxLen) (h : Prs w a len L) (h' : Prs w a' len' S) (h3 : Ints w a3 n3 A) (ha : a ≠ none) (ha' : a' ≠ none) (hv : fitB L S A = v) :
    Calls Try.prog 15 #[.slice a len cap, .slice a' len' cap', .slice a3 n3 c3] w fun e w' => e = .returned (.bool v) ∧ Below w.heap.size w w' := by
  subst hv
  exact implFit_any a a' a3 len cap len' cap' n3 c3 L S A w hlc hm hlc' hm' hc3 hm3 h h' h3 ha ha'
end Go.Proofs.Ytgendnkemdcjeaa
