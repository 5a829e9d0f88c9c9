/- The walk of FnExactWindowsOld. -/
import Derived.Test.YtgendnkemdcjeaaYoung
import Derived.Test.YtgendnkemdcjeaaWith
import Derived.Test.YtgendnkemdcjeaaOpenP
namespace Go.Proofs.Ytgendnkemdcjeaa
open Go.RowKit
set_option linter.unusedVariables false

theorem oRes_le (L S : List (Int × Int)) : (oRes L S).length ≤ L.length := by
  unfold oRes
  split
  · rw [od_len]; exact Nat.le_refl _
  · simp
theorem RowI.of_oRes {w w' : World} {a : Option Addr} {n : Nat} {L S : List (Int × Int)} (b : Below w.heap.size w w') (R : Ints w' a n (oRes L S))
    (y : tkB L S = true → ∃ g, a = some ⟨g, 0, none⟩ ∧ n = L.length ∧ w.heap.size ≤ g ∧ OwnI w' g L.length (it (oRes L S))) : RowI w' a n (oRes L S) w.heap.size w'.heap.size := by
  refine ⟨R.1, Nat.le_refl _, ?_⟩
  cases h : tkB L S with
  | false =>
    have := R.1
    rw [oRes_no h] at this
    exact .inl this.symm
  | true =>
    obtain ⟨g, rfl, rfl, hg, o⟩ := y h
    exact .inr ⟨g, rfl, hg, o.1, o⟩

set_option maxRecDepth 100000 in
set_option maxHeartbeats 1600000 in
theorem exactWindowsOld_walk (a : Option Addr) (len cap : Nat) (L : List (Int × Int)) (a' : Option Addr) (len' cap' : Nat) (S : List (Int × Int)) (w : World) (h : IsPairs w a len cap L) (h' : IsPairs w a' len' cap' S) :
    Calls Try.prog 7 #[.slice a len cap, .slice a' len' cap'] w fun e w' => e = .returned (.bool true) ∧ Below w.heap.size w w' := by
  obtain ⟨hP, hlc, hm⟩ := h
  obtain ⟨hQ, hlc', hm'⟩ := h'
  have HP := Lib.hid hP
  have HQ := Lib.hid hQ
  have HPL := Lib.hid hP.1
  have hm1 : cap ≤ 9223372036854775807 := hm
  have hm2 : cap' ≤ 9223372036854775807 := hm'
  clear hP hQ
  go_enter Try.func7, Try.ntmps7
  go_wp2_with fail
  refine (szWindowS_any _ _ _ _ _ hlc hm (by omega) (by omega)).mono ?_
  rintro e w1 ⟨rfl, rfl⟩
  by_cases hl : 1048576 < len
  · rw [if_pos (by omega)]
    go_wp2_with fail
    go_ret
    exact ⟨rfl, Below.refl _ _⟩
  rw [if_neg (by omega)]
  go_wp2_with fail
  refine (szWindowS_any _ _ _ _ _ hlc' hm' (by omega) (by omega)).mono ?_
  rintro e w1 ⟨rfl, rfl⟩
  by_cases hl2 : 1048576 - (len : Int) < len'
  · rw [if_pos (by omega)]
    go_wp2_with fail
    go_ret
    exact ⟨rfl, Below.refl _ _⟩
  rw [if_neg (by omega)]
  have hn : len ≤ maxLen := Nat.le_trans hlc hm
  have hn' : len' ≤ maxLen := Nat.le_trans hlc' hm'
  have HB := Lib.hid (Below.refl w.heap.size w)
  go_wp2_with fail
  refine (toWindowS_any _ _ _ L _ hlc hm (by omega) (HP.out.below HB.out)).mono ?_
  rintro e w1 ⟨g1, rfl, hL1, O1, hg1, b1⟩
  have T1 := Lib.hid (RowP.of_new hL1 O1 hg1)
  clear hL1 O1 hg1
  replace HB := Lib.hid (Below.step0 HB.out b1)
  have s1 := b1.size
  clear b1
  go_wp2_with fail
  refine (toWindowS_any _ _ _ S _ hlc' hm' (by omega) (HQ.out.below HB.out)).mono ?_
  rintro e w2 ⟨g2, rfl, hL2, O2, hg2, b2⟩
  have T2 := Lib.hid (RowP.of_new hL2 O2 hg2)
  clear hL2 O2 hg2
  replace T1 := Lib.hid (T1.out.below b2)
  replace HB := Lib.hid (Below.step0 HB.out b2)
  have s2 := b2.size
  clear b2
  go_wp2_with fail
  refine (specOld_any _ _ _ _ _ _ L S _ (Nat.le_refl _) hn (Nat.le_refl _) hn' T1.out.prs T2.out.prs).mono ?_
  rintro e w3 ⟨a3, n3, c3, rfl, R3, hc3, hm3, b3, y3⟩
  have W0 := Lib.hid (RowI.of_oRes b3 R3 y3)
  clear R3 y3
  replace T1 := Lib.hid (T1.out.below b3)
  replace T2 := Lib.hid (T2.out.below b3)
  replace HB := Lib.hid (Below.step0 HB.out b3)
  have s3 := b3.size
  clear b3
  clear T1 T2
  have s0 := HB.out.size
  go_wp2_with fail
  refine (toWindowS_any _ _ _ L _ hlc hm (by omega) (HP.out.below HB.out)).mono ?_
  rintro e w4 ⟨g4, rfl, hL4, O4, hg4, b4⟩
  have X0 := Lib.hid (RowP.of_new hL4 O4 hg4)
  clear hL4 O4 hg4
  replace W0 := Lib.hid (W0.out.below b4)
  replace HB := Lib.hid (Below.step0 HB.out b4)
  have s4 := b4.size
  clear b4
  go_wp2_with fail
  refine (toWindowS_any _ _ _ S _ hlc' hm' (by omega) (HQ.out.below HB.out)).mono ?_
  rintro e w5 ⟨g5, rfl, hL5, O5, hg5, b5⟩
  have X1 := Lib.hid (RowP.of_new hL5 O5 hg5)
  clear hL5 O5 hg5
  replace W0 := Lib.hid (W0.out.below b5)
  replace X0 := Lib.hid (X0.out.below b5)
  replace HB := Lib.hid (Below.step0 HB.out b5)
  have s5 := b5.size
  clear b5
  go_wp2_with fail
  refine (implOld_any _ _ _ _ _ _ L S _ (Nat.le_refl _) hn (Nat.le_refl _) hn' X0.out.prs X1.out.prs (by simp) (by simp)).mono ?_
  rintro e w6 ⟨a6, n6, c6, rfl, R6, hc6, hm6, b6, y6⟩
  have G0 := Lib.hid (RowI.of_oRes b6 R6 y6)
  clear R6 y6
  replace W0 := Lib.hid (W0.out.below b6)
  replace X0 := Lib.hid (X0.out.below b6)
  replace X1 := Lib.hid (X1.out.below b6)
  replace HB := Lib.hid (Below.step0 HB.out b6)
  have s6 := b6.size
  clear b6
  obtain rfl : n3 = n6 := W0.out.1.symm.trans G0.out.1
  have hn3 : n3 ≤ 1048576 := by have := oRes_le L S; have := W0.out.1; have := HPL.out; omega
  have t1 : (tkB L S != tkB L S) = false := by simp
  go_wp2_with fail
  refine (eqIntS_b _ _ _ _ _ _ (oRes L S) (oRes L S) _ hc6 hm6 hc3 hm3 G0.out.ints W0.out.ints).mono ?_
  rintro e w7 ⟨rfl, b7⟩
  rw [eqI_self]
  replace W0 := Lib.hid (W0.out.below b7)
  replace X0 := Lib.hid (X0.out.below b7)
  replace X1 := Lib.hid (X1.out.below b7)
  replace G0 := Lib.hid (G0.out.below b7)
  replace HB := Lib.hid (Below.step0 HB.out b7)
  have s7 := b7.size
  clear b7
  go_wp2_with fail
  refine (toWindowS_any _ _ _ L _ hlc hm (by omega) (HP.out.below HB.out)).mono ?_
  rintro e w8 ⟨g8, rfl, hL8, O8, hg8, b8⟩
  have T3 := Lib.hid (RowP.of_new hL8 O8 hg8)
  clear hL8 O8 hg8
  replace W0 := Lib.hid (W0.out.below b8)
  replace X0 := Lib.hid (X0.out.below b8)
  replace X1 := Lib.hid (X1.out.below b8)
  replace G0 := Lib.hid (G0.out.below b8)
  replace HB := Lib.hid (Below.step0 HB.out b8)
  have s8 := b8.size
  clear b8
  go_wp2_with fail
  refine (eqWindowS_same _ _ _ _ _ L _ (Nat.le_refl _) hn X0.out.prs T3.out.prs).mono ?_
  rintro e w9 ⟨rfl, b9⟩
  replace W0 := Lib.hid (W0.out.below b9)
  replace X0 := Lib.hid (X0.out.below b9)
  replace X1 := Lib.hid (X1.out.below b9)
  replace G0 := Lib.hid (G0.out.below b9)
  replace T3 := Lib.hid (T3.out.below b9)
  replace HB := Lib.hid (Below.step0 HB.out b9)
  have s9 := b9.size
  clear b9
  clear T3
  go_wp2_with fail
  refine (toWindowS_any _ _ _ S _ hlc' hm' (by omega) (HQ.out.below HB.out)).mono ?_
  rintro e w10 ⟨g10, rfl, hL10, O10, hg10, b10⟩
  have T4 := Lib.hid (RowP.of_new hL10 O10 hg10)
  clear hL10 O10 hg10
  replace W0 := Lib.hid (W0.out.below b10)
  replace X0 := Lib.hid (X0.out.below b10)
  replace X1 := Lib.hid (X1.out.below b10)
  replace G0 := Lib.hid (G0.out.below b10)
  replace HB := Lib.hid (Below.step0 HB.out b10)
  have s10 := b10.size
  clear b10
  go_wp2_with fail
  refine (eqWindowS_same _ _ _ _ _ S _ (Nat.le_refl _) hn' X1.out.prs T4.out.prs).mono ?_
  rintro e w11 ⟨rfl, b11⟩
  replace W0 := Lib.hid (W0.out.below b11)
  replace X0 := Lib.hid (X0.out.below b11)
  replace X1 := Lib.hid (X1.out.below b11)
  replace G0 := Lib.hid (G0.out.below b11)
  replace T4 := Lib.hid (T4.out.below b11)
  replace HB := Lib.hid (Below.step0 HB.out b11)
  have s11 := b11.size
  clear b11
  clear T4
  go_wp2_with fail
  refine (markWindowS_any _ len _ 1 L _ _ _ (Nat.le_refl _) hn (by omega) (by omega) (by omega) X0.out).mono ?_
  rintro e w12 ⟨rfl, r12, x12⟩
  replace W0 := Lib.hid (W0.out.within x12 (by omega))
  replace X1 := Lib.hid (X1.out.within x12 (by omega))
  replace G0 := Lib.hid (G0.out.within x12 (by omega))
  replace X0 := Lib.hid r12
  replace HB := Lib.hid (HB.out.trans (x12.below (by omega) HB.out.size))
  have s12 := x12.size
  clear r12 x12
  go_wp2_with fail
  refine (markWindowS_any _ len' _ (1 + 2 * (len : Int)) S _ _ _ (Nat.le_refl _) hn' (by omega) (by omega) (by omega) X1.out).mono ?_
  rintro e w13 ⟨rfl, r13, x13⟩
  replace W0 := Lib.hid (W0.out.within x13 (by omega))
  replace X0 := Lib.hid (X0.out.within x13 (by omega))
  replace G0 := Lib.hid (G0.out.within x13 (by omega))
  replace X1 := Lib.hid r13
  replace HB := Lib.hid (HB.out.trans (x13.below (by omega) HB.out.size))
  have s13 := x13.size
  clear r13 x13
  clear X0 X1
  have t2 : decide (1 + 2 * (len : Int) + 2 * (len' : Int) < 0) = false := by simp; omega
  go_wp2_with fail
  refine (eqIntS_b _ _ _ _ _ _ (oRes L S) (oRes L S) _ hc6 hm6 hc3 hm3 G0.out.ints W0.out.ints).mono ?_
  rintro e w14 ⟨rfl, b14⟩
  rw [eqI_self]
  replace W0 := Lib.hid (W0.out.below b14)
  replace G0 := Lib.hid (G0.out.below b14)
  replace HB := Lib.hid (Below.step0 HB.out b14)
  have s14 := b14.size
  clear b14
  go_wp2_with fail
  refine (markIntS_any _ n3 _ 1 (oRes L S) _ _ _ hc6 hm6 (by omega) (by omega) (by omega) G0.out).mono ?_
  rintro e w15 ⟨rfl, r15, x15⟩
  replace W0 := Lib.hid (W0.out.within x15 (by omega))
  replace G0 := Lib.hid r15
  replace HB := Lib.hid (HB.out.trans (x15.below (by omega) HB.out.size))
  have s15 := x15.size
  clear r15 x15
  go_wp2_with fail
  refine (heldIntS_any _ n3 _ 1 _ _ _ hc6 hm6 (by omega) (by omega) (by omega) G0.out).mono ?_
  rintro e _ ⟨rfl, rfl⟩
  go_wp2_with fail
  refine (toWindowS_any _ _ _ L _ hlc hm (by omega) (HP.out.below HB.out)).mono ?_
  rintro e w16 ⟨g16, rfl, hL16, O16, hg16, b16⟩
  have T5 := Lib.hid (RowP.of_new hL16 O16 hg16)
  clear hL16 O16 hg16
  replace W0 := Lib.hid (W0.out.below b16)
  replace G0 := Lib.hid (G0.out.below b16)
  replace HB := Lib.hid (Below.step0 HB.out b16)
  have s16 := b16.size
  clear b16
  go_wp2_with fail
  refine (toWindowS_any _ _ _ S _ hlc' hm' (by omega) (HQ.out.below HB.out)).mono ?_
  rintro e w17 ⟨g17, rfl, hL17, O17, hg17, b17⟩
  have T6 := Lib.hid (RowP.of_new hL17 O17 hg17)
  clear hL17 O17 hg17
  replace W0 := Lib.hid (W0.out.below b17)
  replace G0 := Lib.hid (G0.out.below b17)
  replace T5 := Lib.hid (T5.out.below b17)
  replace HB := Lib.hid (Below.step0 HB.out b17)
  have s17 := b17.size
  clear b17
  go_wp2_with fail
  refine (implOld_any _ _ _ _ _ _ L S _ (Nat.le_refl _) hn (Nat.le_refl _) hn' T5.out.prs T6.out.prs (by simp) (by simp)).mono ?_
  rintro e w18 ⟨a7, n7, c7, rfl, R7, hc7, hm7, b18, y7⟩
  have H0 := Lib.hid (RowI.of_oRes b18 R7 y7)
  clear R7 y7
  replace W0 := Lib.hid (W0.out.below b18)
  replace G0 := Lib.hid (G0.out.below b18)
  replace T5 := Lib.hid (T5.out.below b18)
  replace T6 := Lib.hid (T6.out.below b18)
  replace HB := Lib.hid (Below.step0 HB.out b18)
  have s18 := b18.size
  clear b18
  clear T5 T6
  obtain rfl : n3 = n7 := W0.out.1.symm.trans H0.out.1
  go_wp2_with fail
  refine (eqIntS_b _ _ _ _ _ _ (oRes L S) (oRes L S) _ hc7 hm7 hc3 hm3 H0.out.ints W0.out.ints).mono ?_
  rintro e w19 ⟨rfl, b19⟩
  rw [eqI_self]
  replace W0 := Lib.hid (W0.out.below b19)
  replace G0 := Lib.hid (G0.out.below b19)
  replace H0 := Lib.hid (H0.out.below b19)
  replace HB := Lib.hid (Below.step0 HB.out b19)
  have s19 := b19.size
  clear b19
  go_wp2_with fail
  refine (heldIntS_any _ n3 _ 1 _ _ _ hc6 hm6 (by omega) (by omega) (by omega) G0.out).mono ?_
  rintro e _ ⟨rfl, rfl⟩
  go_wp2_with fail
  go_ret
  exact ⟨rfl, HB.out⟩
end Go.Proofs.Ytgendnkemdcjeaa
