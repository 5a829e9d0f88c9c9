/- The walk of FnExactWindowsFit. -/
import Derived.Test.YtgendnkemdcjeaaFitI
import Derived.Test.YtgendnkemdcjeaaWith
import Derived.Test.YtgendnkemdcjeaaOpenP
namespace Go.Proofs.Ytgendnkemdcjeaa
open Go.RowKit
set_option linter.unusedVariables false

set_option maxRecDepth 100000 in
set_option maxHeartbeats 1600000 in
theorem exactWindowsFit_walk (a : Option Addr) (len cap : Nat) (L : List (Int × Int)) (a' : Option Addr) (len' cap' : Nat) (S : List (Int × Int)) (a3 : Option Addr) (len3 cap3 : Nat) (zs : List Int) (w : World) (h : IsPairs w a len cap L) (h' : IsPairs w a' len' cap' S) (h3 : IsRow .i64 w a3 len3 cap3 zs) :
    Calls Try.prog 3 #[.slice a len cap, .slice a' len' cap', .slice a3 len3 cap3] w fun e w' => e = .returned (.bool true) ∧ Below w.heap.size w w' := by
  obtain ⟨hP, hlc, hm⟩ := h
  obtain ⟨hQ, hlc', hm'⟩ := h'
  obtain ⟨hlc3, hm3⟩ := h3.le
  have HA := Lib.hid h3.ints.1
  generalize zs.take len3 = A at *
  have HP := Lib.hid hP
  have HQ := Lib.hid hQ
  have HPL := Lib.hid hP.1
  have hm1 : cap ≤ 9223372036854775807 := hm
  have hm2 : cap' ≤ 9223372036854775807 := hm'
  have hm4 : cap3 ≤ 9223372036854775807 := hm3
  have hn3 : len3 ≤ maxLen := Nat.le_trans hlc3 hm3
  clear hP hQ h3
  by_cases hl3 : 1048576 < len3
  · have d1 : decide ((1048576 : Int) < (len3 : Int)) = true := by simp; omega
    go_enter Try.func3, Try.ntmps3
    go_wp2_with fail
    go_ret
    exact ⟨rfl, Below.refl _ _⟩
  have d1 : decide ((1048576 : Int) < (len3 : Int)) = false := by simp; omega
  go_enter Try.func3, Try.ntmps3
  go_wp2_with fail
  refine (szWindowS_any _ _ _ _ _ hlc hm (by omega) (by omega)).mono ?_
  rintro e w1 ⟨rfl, rfl⟩
  by_cases hl : 1048576 < len
  · rw [if_pos (by omega)]
    go_wp2_with fail
    go_ret
    exact ⟨rfl, Below.refl _ _⟩
  rw [if_neg (by omega)]
  go_wp2_with fail
  refine (szWindowS_any _ _ _ _ _ hlc' hm' (by omega) (by omega)).mono ?_
  rintro e w1 ⟨rfl, rfl⟩
  by_cases hl2 : 1048576 - (len : Int) < len'
  · rw [if_pos (by omega)]
    go_wp2_with fail
    go_ret
    exact ⟨rfl, Below.refl _ _⟩
  rw [if_neg (by omega)]
  have hn : len ≤ maxLen := Nat.le_trans hlc hm
  have hn' : len' ≤ maxLen := Nat.le_trans hlc' hm'
  have HB := Lib.hid (Below.refl w.heap.size w)
  go_wp2_with fail
  refine (toWindowS_any _ _ _ L _ hlc hm (by omega) (HP.out.below HB.out)).mono ?_
  rintro e w1 ⟨g1, rfl, hL1, O1, hg1, b1⟩
  have T1 := Lib.hid (RowP.of_new hL1 O1 hg1)
  clear hL1 O1 hg1
  replace HB := Lib.hid (Below.step0 HB.out b1)
  have s1 := b1.size
  clear b1
  go_wp2_with fail
  refine (toWindowS_any _ _ _ S _ hlc' hm' (by omega) (HQ.out.below HB.out)).mono ?_
  rintro e w2 ⟨g2, rfl, hL2, O2, hg2, b2⟩
  have T2 := Lib.hid (RowP.of_new hL2 O2 hg2)
  clear hL2 O2 hg2
  replace T1 := Lib.hid (T1.out.below b2)
  replace HB := Lib.hid (Below.step0 HB.out b2)
  have s2 := b2.size
  clear b2
  go_wp2_with fail
  refine (toIntS_any _ _ _ A _ hlc3 hm3 (by omega) (HA.out.below HB.out)).mono ?_
  rintro e w3 ⟨g3, rfl, hL3, O3, hg3, b3⟩
  have T3 := Lib.hid (RowI.of_new hL3 O3 hg3)
  clear hL3 O3 hg3
  replace T1 := Lib.hid (T1.out.below b3)
  replace T2 := Lib.hid (T2.out.below b3)
  replace HB := Lib.hid (Below.step0 HB.out b3)
  have s3 := b3.size
  clear b3
  go_wp2_with fail
  refine (specFit_b _ _ _ _ _ _ _ _ _ L S A _ (Nat.le_refl _) hn (Nat.le_refl _) hn' (Nat.le_refl _) hn3 T1.out.prs T2.out.prs T3.out.ints).mono ?_
  rintro e w4 ⟨rfl, b4⟩
  replace T1 := Lib.hid (T1.out.below b4)
  replace T2 := Lib.hid (T2.out.below b4)
  replace T3 := Lib.hid (T3.out.below b4)
  replace HB := Lib.hid (Below.step0 HB.out b4)
  have s4 := b4.size
  clear b4
  clear T1 T2 T3
  go_wp2_with fail
  refine (toWindowS_any _ _ _ L _ hlc hm (by omega) (HP.out.below HB.out)).mono ?_
  rintro e w5 ⟨g5, rfl, hL5, O5, hg5, b5⟩
  have X0 := Lib.hid (RowP.of_new hL5 O5 hg5)
  clear hL5 O5 hg5
  replace HB := Lib.hid (Below.step0 HB.out b5)
  have s5 := b5.size
  clear b5
  go_wp2_with fail
  refine (toWindowS_any _ _ _ S _ hlc' hm' (by omega) (HQ.out.below HB.out)).mono ?_
  rintro e w6 ⟨g6, rfl, hL6, O6, hg6, b6⟩
  have X1 := Lib.hid (RowP.of_new hL6 O6 hg6)
  clear hL6 O6 hg6
  replace X0 := Lib.hid (X0.out.below b6)
  replace HB := Lib.hid (Below.step0 HB.out b6)
  have s6 := b6.size
  clear b6
  go_wp2_with fail
  refine (toIntS_any _ _ _ A _ hlc3 hm3 (by omega) (HA.out.below HB.out)).mono ?_
  rintro e w7 ⟨g7, rfl, hL7, O7, hg7, b7⟩
  have X2 := Lib.hid (RowI.of_new hL7 O7 hg7)
  clear hL7 O7 hg7
  replace X0 := Lib.hid (X0.out.below b7)
  replace X1 := Lib.hid (X1.out.below b7)
  replace HB := Lib.hid (Below.step0 HB.out b7)
  have s7 := b7.size
  clear b7
  go_wp2_with fail
  refine (implFit_any _ _ _ _ _ _ _ _ _ L S A _ (Nat.le_refl _) hn (Nat.le_refl _) hn' (Nat.le_refl _) hn3 X0.out.prs X1.out.prs X2.out.ints (by simp) (by simp)).mono ?_
  rintro e w8 ⟨rfl, b8⟩
  replace X0 := Lib.hid (X0.out.below b8)
  replace X1 := Lib.hid (X1.out.below b8)
  replace X2 := Lib.hid (X2.out.below b8)
  replace HB := Lib.hid (Below.step0 HB.out b8)
  have s8 := b8.size
  clear b8
  have t1 : (fitB L S A != fitB L S A) = false := by simp
  go_wp2_with fail
  refine (toWindowS_any _ _ _ L _ hlc hm (by omega) (HP.out.below HB.out)).mono ?_
  rintro e w9 ⟨g9, rfl, hL9, O9, hg9, b9⟩
  have Y0 := Lib.hid (RowP.of_new hL9 O9 hg9)
  clear hL9 O9 hg9
  replace X0 := Lib.hid (X0.out.below b9)
  replace X1 := Lib.hid (X1.out.below b9)
  replace X2 := Lib.hid (X2.out.below b9)
  replace HB := Lib.hid (Below.step0 HB.out b9)
  have s9 := b9.size
  clear b9
  go_wp2_with fail
  refine (eqWindowS_same _ _ _ _ _ L _ (Nat.le_refl _) hn X0.out.prs Y0.out.prs).mono ?_
  rintro e w10 ⟨rfl, b10⟩
  replace X0 := Lib.hid (X0.out.below b10)
  replace X1 := Lib.hid (X1.out.below b10)
  replace X2 := Lib.hid (X2.out.below b10)
  replace Y0 := Lib.hid (Y0.out.below b10)
  replace HB := Lib.hid (Below.step0 HB.out b10)
  have s10 := b10.size
  clear b10
  clear Y0
  go_wp2_with fail
  refine (toWindowS_any _ _ _ S _ hlc' hm' (by omega) (HQ.out.below HB.out)).mono ?_
  rintro e w11 ⟨g11, rfl, hL11, O11, hg11, b11⟩
  have Y1 := Lib.hid (RowP.of_new hL11 O11 hg11)
  clear hL11 O11 hg11
  replace X0 := Lib.hid (X0.out.below b11)
  replace X1 := Lib.hid (X1.out.below b11)
  replace X2 := Lib.hid (X2.out.below b11)
  replace HB := Lib.hid (Below.step0 HB.out b11)
  have s11 := b11.size
  clear b11
  go_wp2_with fail
  refine (eqWindowS_same _ _ _ _ _ S _ (Nat.le_refl _) hn' X1.out.prs Y1.out.prs).mono ?_
  rintro e w12 ⟨rfl, b12⟩
  replace X0 := Lib.hid (X0.out.below b12)
  replace X1 := Lib.hid (X1.out.below b12)
  replace X2 := Lib.hid (X2.out.below b12)
  replace Y1 := Lib.hid (Y1.out.below b12)
  replace HB := Lib.hid (Below.step0 HB.out b12)
  have s12 := b12.size
  clear b12
  clear Y1
  go_wp2_with fail
  refine (toIntS_any _ _ _ A _ hlc3 hm3 (by omega) (HA.out.below HB.out)).mono ?_
  rintro e w13 ⟨g13, rfl, hL13, O13, hg13, b13⟩
  have Y2 := Lib.hid (RowI.of_new hL13 O13 hg13)
  clear hL13 O13 hg13
  replace X0 := Lib.hid (X0.out.below b13)
  replace X1 := Lib.hid (X1.out.below b13)
  replace X2 := Lib.hid (X2.out.below b13)
  replace HB := Lib.hid (Below.step0 HB.out b13)
  have s13 := b13.size
  clear b13
  go_wp2_with fail
  refine (eqIntS_b _ _ _ _ _ _ A A _ (Nat.le_refl _) hn3 (Nat.le_refl _) hn3 X2.out.ints Y2.out.ints).mono ?_
  rintro e w14 ⟨rfl, b14⟩
  rw [eqI_self]
  replace X0 := Lib.hid (X0.out.below b14)
  replace X1 := Lib.hid (X1.out.below b14)
  replace X2 := Lib.hid (X2.out.below b14)
  replace Y2 := Lib.hid (Y2.out.below b14)
  replace HB := Lib.hid (Below.step0 HB.out b14)
  have s14 := b14.size
  clear b14
  go_wp2_with fail
  go_ret
  exact ⟨rfl, HB.out⟩
end Go.Proofs.Ytgendnkemdcjeaa
