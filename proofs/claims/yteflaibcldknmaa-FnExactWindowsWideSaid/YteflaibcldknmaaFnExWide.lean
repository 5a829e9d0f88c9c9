/- The walk of FnExactWindowsWide. -/
import Derived.Test.YteflaibcldknmaaWide
import Derived.Test.YteflaibcldknmaaWith
import Derived.Test.YteflaibcldknmaaOpenP
namespace Go.Proofs.Yteflaibcldknmaa
open Go.RowKit
set_option linter.unusedVariables false

set_option maxRecDepth 100000 in
set_option maxHeartbeats 1600000 in
theorem exactWindowsWide_walk (a : Option Addr) (len cap : Nat) (L : List (Int × Int)) (a' : Option Addr) (len' cap' : Nat) (S : List (Int × Int)) (w : World) (h : IsPairs w a len cap L) (h' : IsPairs w a' len' cap' S) :
    Calls Try.prog 3 #[.slice a len cap, .slice a' len' cap'] w fun e w' => e = .returned (.bool true) ∧ Below w.heap.size w w' := by
  obtain ⟨hP, hlc, hm⟩ := h
  obtain ⟨hQ, hlc', hm'⟩ := h'
  have HP := Lib.hid hP
  have HQ := Lib.hid hQ
  have HPL := Lib.hid hP.1
  have hm1 : cap ≤ 9223372036854775807 := hm
  have hm2 : cap' ≤ 9223372036854775807 := hm'
  clear hP hQ
  go_enter Try.func3, Try.ntmps3
  go_wp2_with fail
  refine (szWindowS_any _ _ _ _ _ hlc hm (by omega) (by omega)).mono ?_
  rintro e w1 ⟨rfl, rfl⟩
  by_cases hl : 1048576 < len
  · rw [if_pos (by omega)]
    go_wp2_with fail
    go_ret
    exact ⟨rfl, Below.refl _ _⟩
  rw [if_neg (by omega)]
  go_wp2_with fail
  refine (szWindowS_any _ _ _ _ _ hlc' hm' (by omega) (by omega)).mono ?_
  rintro e w1 ⟨rfl, rfl⟩
  by_cases hl2 : 1048576 - (len : Int) < len'
  · rw [if_pos (by omega)]
    go_wp2_with fail
    go_ret
    exact ⟨rfl, Below.refl _ _⟩
  rw [if_neg (by omega)]
  have hn : len ≤ maxLen := Nat.le_trans hlc hm
  have hn' : len' ≤ maxLen := Nat.le_trans hlc' hm'
  have HB := Lib.hid (Below.refl w.heap.size w)
  go_wp2_with fail
  refine (toWindowS_any _ _ _ L _ hlc hm (by omega) (HP.out.below HB.out)).mono ?_
  rintro e w1 ⟨g1, rfl, hL1, O1, hg1, b1⟩
  have T1 := Lib.hid (RowP.of_new hL1 O1 hg1)
  clear hL1 O1 hg1
  replace HB := Lib.hid (Below.step0 HB.out b1)
  have s1 := b1.size
  clear b1
  go_wp2_with fail
  refine (toWindowS_any _ _ _ S _ hlc' hm' (by omega) (HQ.out.below HB.out)).mono ?_
  rintro e w2 ⟨g2, rfl, hL2, O2, hg2, b2⟩
  have T2 := Lib.hid (RowP.of_new hL2 O2 hg2)
  clear hL2 O2 hg2
  replace T1 := Lib.hid (T1.out.below b2)
  replace HB := Lib.hid (Below.step0 HB.out b2)
  have s2 := b2.size
  clear b2
  go_wp2_with fail
  refine (specWide_any _ _ _ _ _ _ L S _ (Nat.le_refl _) hn (Nat.le_refl _) hn' T1.out.prs T2.out.prs).mono ?_
  rintro e w3 ⟨rfl, b3⟩
  replace T1 := Lib.hid (T1.out.below b3)
  replace T2 := Lib.hid (T2.out.below b3)
  replace HB := Lib.hid (Below.step0 HB.out b3)
  have s3 := b3.size
  clear b3
  clear T1 T2
  go_wp2_with fail
  refine (toWindowS_any _ _ _ L _ hlc hm (by omega) (HP.out.below HB.out)).mono ?_
  rintro e w4 ⟨g4, rfl, hL4, O4, hg4, b4⟩
  have X0 := Lib.hid (RowP.of_new hL4 O4 hg4)
  clear hL4 O4 hg4
  replace HB := Lib.hid (Below.step0 HB.out b4)
  have s4 := b4.size
  clear b4
  go_wp2_with fail
  refine (toWindowS_any _ _ _ S _ hlc' hm' (by omega) (HQ.out.below HB.out)).mono ?_
  rintro e w5 ⟨g5, rfl, hL5, O5, hg5, b5⟩
  have X1 := Lib.hid (RowP.of_new hL5 O5 hg5)
  clear hL5 O5 hg5
  replace X0 := Lib.hid (X0.out.below b5)
  replace HB := Lib.hid (Below.step0 HB.out b5)
  have s5 := b5.size
  clear b5
  go_wp2_with fail
  refine (implWide_any _ _ _ _ _ _ L S _ (Nat.le_refl _) hn (Nat.le_refl _) hn' X0.out.prs X1.out.prs (by simp) (by simp)).mono ?_
  rintro e w6 ⟨rfl, b6⟩
  replace X0 := Lib.hid (X0.out.below b6)
  replace X1 := Lib.hid (X1.out.below b6)
  replace HB := Lib.hid (Below.step0 HB.out b6)
  have s6 := b6.size
  clear b6
  have t1 : (wdV L S != wdV L S) = false := by simp
  go_wp2_with fail
  refine (toWindowS_any _ _ _ L _ hlc hm (by omega) (HP.out.below HB.out)).mono ?_
  rintro e w7 ⟨g7, rfl, hL7, O7, hg7, b7⟩
  have Y0 := Lib.hid (RowP.of_new hL7 O7 hg7)
  clear hL7 O7 hg7
  replace X0 := Lib.hid (X0.out.below b7)
  replace X1 := Lib.hid (X1.out.below b7)
  replace HB := Lib.hid (Below.step0 HB.out b7)
  have s7 := b7.size
  clear b7
  go_wp2_with fail
  refine (eqWindowS_same _ _ _ _ _ L _ (Nat.le_refl _) hn X0.out.prs Y0.out.prs).mono ?_
  rintro e w8 ⟨rfl, b8⟩
  replace X0 := Lib.hid (X0.out.below b8)
  replace X1 := Lib.hid (X1.out.below b8)
  replace Y0 := Lib.hid (Y0.out.below b8)
  replace HB := Lib.hid (Below.step0 HB.out b8)
  have s8 := b8.size
  clear b8
  clear Y0
  go_wp2_with fail
  refine (toWindowS_any _ _ _ S _ hlc' hm' (by omega) (HQ.out.below HB.out)).mono ?_
  rintro e w9 ⟨g9, rfl, hL9, O9, hg9, b9⟩
  have Y1 := Lib.hid (RowP.of_new hL9 O9 hg9)
  clear hL9 O9 hg9
  replace X0 := Lib.hid (X0.out.below b9)
  replace X1 := Lib.hid (X1.out.below b9)
  replace HB := Lib.hid (Below.step0 HB.out b9)
  have s9 := b9.size
  clear b9
  go_wp2_with fail
  refine (eqWindowS_same _ _ _ _ _ S _ (Nat.le_refl _) hn' X1.out.prs Y1.out.prs).mono ?_
  rintro e w10 ⟨rfl, b10⟩
  replace X0 := Lib.hid (X0.out.below b10)
  replace X1 := Lib.hid (X1.out.below b10)
  replace Y1 := Lib.hid (Y1.out.below b10)
  replace HB := Lib.hid (Below.step0 HB.out b10)
  have s10 := b10.size
  clear b10
  clear Y1
  go_wp2_with fail
  go_ret
  exact ⟨rfl, HB.out⟩
end Go.Proofs.Yteflaibcldknmaa
