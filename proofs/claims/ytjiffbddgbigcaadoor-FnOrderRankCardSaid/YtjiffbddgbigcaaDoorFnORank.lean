/- The walk of FnOrderRank. -/
import Derived.Test.YtjiffbddgbigcaaDoorParL
namespace Go.Proofs.YtjiffbddgbigcaaDoor
open Go.RowKit
set_option linter.unusedVariables false
set_option linter.unusedSimpArgs false

set_option maxRecDepth 100000 in
set_option maxHeartbeats 3200000 in
theorem fnORank_walk (a : Option Addr) (len cap : Nat) (zs : List Int) (w : World) (h : IsRow .u8 w a len cap zs) :
    Calls Tryd.prog 5 #[.slice a len cap] w fun e w' => e = .returned (.bool true) ∧ Below w.heap.size w w' := by
  obtain ⟨hc, hm⟩ := h.le
  have hm' := hm
  unfold maxLen at hm'
  have h0 := Lib.hid h.bytes
  clear h
  by_cases hl : 1048576 < len
  · go_enter Tryd.func5, Tryd.ntmps5
    go_wp2_with fail
    go_ret
    exact ⟨rfl, Below.refl _ _⟩
  go_enter Tryd.func5, Tryd.ntmps5
  go_wp2_with fail
  refine (drawOR_any _ _ _ _ hc hm h0.out).mono ?_
  rintro e w1 ⟨l, rfl, hl9, b1⟩
  have HB := Lib.hid b1
  clear b1 h0
  go_wp2_with fail
  by_cases hp : prB l = false
  · refine (rank_is l (by omega) _ (rkV_no hp)).mono ?_
    rintro e w2 ⟨rfl, b2⟩
    have RN := Lib.hid (rkV_no hp)
    replace HB := Lib.hid (Below.step0 HB.out b2)
    clear b2 hp
    go_wp2_with fail
    refine (specRank_any l (by omega) _).mono ?_
    rintro e w3 ⟨rfl, b3⟩
    rw [RN.out]
    replace HB := Lib.hid (Below.step0 HB.out b3)
    clear b3
    go_wp2_with fail
    go_ret
    exact ⟨rfl, HB.out⟩
  have hp' : prB l = true := by simpa using hp
  have HP := Lib.hid hp'
  obtain ⟨v, hv⟩ : ∃ v, rkN l = v := ⟨_, rfl⟩
  have RV := Lib.hid (show rkV l = (v : Int) by rw [rkV_nat hp', hv])
  have RC := Lib.hid (show (v : Int) < cntV (cA l) (cB l) by rw [← hv]; exact rkN_cnt hp')
  have NT := Lib.hid (show nthT (cA l) (cB l) (v : Int) = l ∧ nthB (cA l) (cB l) (v : Int) = true by rw [← hv]; exact rkN_nth hp')
  clear hp hp' hv
  refine (rank_is l (by omega) _ RV.out).mono ?_
  rintro e w2 ⟨rfl, b2⟩
  replace HB := Lib.hid (Below.step0 HB.out b2)
  clear b2
  go_wp2_with fail
  refine (specRank_any l (by omega) _).mono ?_
  rintro e w3 ⟨rfl, b3⟩
  rw [RV.out]
  replace HB := Lib.hid (Below.step0 HB.out b3)
  have t1 : ((v : Int) != (v : Int)) = false := by simp
  have t2 : ¬ ((v : Int) < 0) := by omega
  clear b3
  go_wp2_with fail
  refine (parts_yes l (by omega) HP.out _).mono ?_
  rintro e w4 ⟨ba, oa, bb, ob, n, c, c', rfl, h1, h2, h3, h4, n1, n4, nA, nB, I1, I2, b4⟩
  replace HB := Lib.hid (Below.step0 HB.out b4)
  have J1 := Lib.hid I1
  have J2 := Lib.hid I2
  clear I1 I2 b4 nA nB
  go_wp2_with fail
  refine (nth_is _ _ _ _ _ _ (cA l) (cB l) _ _ h1 h2 h3 h4 J1.out J2.out (by simp) (by simp) (by omega) NT.out.1 NT.out.2).mono ?_
  rintro e w5 ⟨rfl, b5⟩
  replace HB := Lib.hid (Below.step0 HB.out b5)
  replace J1 := Lib.hid (J1.out.below b5)
  replace J2 := Lib.hid (J2.out.below b5)
  clear b5
  obtain ⟨q, hq⟩ : ∃ q, cntV (cA l) (cB l) = q := ⟨_, rfl⟩
  have CQ := Lib.hid hq
  have t3 : (v : Int) < q := by rw [← hq]; exact RC.out
  clear hq
  generalize bs l = ss at *
  have t4 : (ss.toList == ss.toList) = true := by simp
  go_wp2_with fail
  refine (count_is _ _ _ _ _ _ (cA l) (cB l) _ h1 h2 h3 h4 J1.out J2.out (by simp) (by simp) (by omega) CQ.out).mono ?_
  rintro e w6 ⟨rfl, b6⟩
  replace HB := Lib.hid (Below.step0 HB.out b6)
  clear b6
  go_wp2_with fail
  go_ret
  exact ⟨rfl, HB.out⟩
end Go.Proofs.YtjiffbddgbigcaaDoor
