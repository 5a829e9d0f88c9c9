/- The walk of FnOrderNth. -/
import Derived.Test.YtjiffbddgbigcaaDoorParL
namespace Go.Proofs.YtjiffbddgbigcaaDoor
open Go.RowKit
set_option linter.unusedVariables false
set_option linter.unusedSimpArgs false

set_option maxRecDepth 100000 in
set_option maxHeartbeats 3200000 in
theorem fnONth_walk (a : Option Addr) (len cap : Nat) (zs : List Int) (w : World) (h : IsRow .u8 w a len cap zs) :
    Calls Tryd.prog 4 #[.slice a len cap] w fun e w' => e = .returned (.bool true) ∧ Below w.heap.size w w' := by
  obtain ⟨hc, hm⟩ := h.le
  have hm' := hm
  unfold maxLen at hm'
  have h0 := Lib.hid h.bytes
  clear h
  by_cases hl : 1048576 < len
  · go_enter Tryd.func4, Tryd.ntmps4
    go_wp2_with fail
    go_ret
    exact ⟨rfl, Below.refl _ _⟩
  go_enter Tryd.func4, Tryd.ntmps4
  go_wp2_with fail
  refine (drawON_any _ _ _ _ hc hm h0.out).mono ?_
  rintro e w1 ⟨g, g', n, m, c, c', A, B, v, rfl, n1, n3, m1, m2, hnc, hmc, hcm, hcm', hA, hB, bA, bB, O1, O2, hgg, v0, v5, b1⟩
  have OA := Lib.hid (O1.ints hA (fun _ _ => rfl))
  have OB := Lib.hid (O2.ints hB (fun _ _ => rfl))
  have HB := Lib.hid b1
  clear hA hB bA bB O1 O2 b1 h0
  go_wp2_with fail
  refine (implNth_any _ _ _ _ _ _ A B v _ hnc hcm hmc hcm' OA.out OB.out (by simp) (by simp) (by omega)).mono ?_
  rintro e w2 ⟨rfl, b2⟩
  replace OA := Lib.hid (OA.out.below b2)
  replace OB := Lib.hid (OB.out.below b2)
  replace HB := Lib.hid (Below.step0 HB.out b2)
  clear b2
  go_wp2_with fail
  refine (specNth_b _ _ _ _ _ _ A B v _ hnc hcm hmc hcm' OA.out OB.out).mono ?_
  rintro e w3 ⟨rfl, b3⟩
  replace OA := Lib.hid (OA.out.below b3)
  replace OB := Lib.hid (OB.out.below b3)
  replace HB := Lib.hid (Below.step0 HB.out b3)
  clear b3
  by_cases hno : nthB A B v = false
  · rw [hno, nthT_no hno]
    generalize bs [] = ss at *
    have t2 : (ss.toList == ss.toList) = true := by simp
    clear hno
    go_wp2_with fail
    go_ret
    exact ⟨rfl, HB.out⟩
  have hyes : nthB A B v = true := by simpa using hno
  rw [hyes, nthT_yes hyes]
  obtain ⟨hok, r, rfl, hr⟩ := nthB_yes hyes
  rw [show ((r : Int)).toNat = r from Int.toNat_natCast r]
  have hr9 : r ≤ 728933458176 := by have := (tl_bd hok (k := 0) (by omega)).2; omega
  obtain ⟨l, hlx⟩ : ∃ l, ordT A B r = l := ⟨_, rfl⟩
  have hp : prB l = true := by rw [← hlx]; exact ord_prB hok r
  have hcc := ord_parts hok r
  rw [hlx] at hcc ⊢
  have RV := Lib.hid (show rkV l = (r : Int) by rw [rkV_nat hp, ← hlx, ord_rank hok hr])
  have PB := Lib.hid hp
  have PA := Lib.hid hcc
  have hl52 : l.length ≤ 52 := pr_len hp
  clear hno hyes hok hr hlx hp hcc
  have PR := Lib.hid (fun W => parts_yes l (by omega) PB.out W)
  have RR := Lib.hid (fun W => rank_is l (by omega) W RV.out)
  have t4 : ((bs l).toList == (bs l).toList) = true := by simp
  go_wp2_with fail
  refine (PR.out _).mono ?_
  rintro e w4 ⟨ba, oa, bb, ob, n9, d, d', rfl, h1, h2, h3, h4, k1, k4, nA, nB, I1, I2, b4⟩
  rw [PA.out.1] at I1
  rw [PA.out.2] at I2
  replace OA := Lib.hid (OA.out.below b4)
  replace OB := Lib.hid (OB.out.below b4)
  replace HB := Lib.hid (Below.step0 HB.out b4)
  have J1 := Lib.hid I1
  have J2 := Lib.hid I2
  clear I1 I2 b4 nA nB
  go_wp2_with fail
  refine (RR.out _).mono ?_
  rintro e w5 ⟨rfl, b5⟩
  replace OA := Lib.hid (OA.out.below b5)
  replace OB := Lib.hid (OB.out.below b5)
  replace J1 := Lib.hid (J1.out.below b5)
  replace J2 := Lib.hid (J2.out.below b5)
  replace HB := Lib.hid (Below.step0 HB.out b5)
  clear b5
  go_wp2_with fail
  refine (sameInts_b _ _ _ _ _ _ A A _ h1 h2 hnc hcm J1.out OA.out).mono ?_
  rintro e w6 ⟨rfl, b6⟩
  rw [eqI_self]
  replace OB := Lib.hid (OB.out.below b6)
  replace J2 := Lib.hid (J2.out.below b6)
  replace HB := Lib.hid (Below.step0 HB.out b6)
  clear b6
  go_wp2_with fail
  refine (sameInts_b _ _ _ _ _ _ B B _ h3 h4 hmc hcm' J2.out OB.out).mono ?_
  rintro e w7 ⟨rfl, b7⟩
  rw [eqI_self]
  replace HB := Lib.hid (Below.step0 HB.out b7)
  clear b7
  go_wp2_with fail
  go_ret
  exact ⟨rfl, HB.out⟩
end Go.Proofs.YtjiffbddgbigcaaDoor
