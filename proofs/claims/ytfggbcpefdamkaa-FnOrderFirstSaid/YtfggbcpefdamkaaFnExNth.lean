/- The walk of FnExactOrderNth. -/
import Derived.Test.YtfggbcpefdamkaaNthI
namespace Go.Proofs.Ytfggbcpefdamkaa
open Go.RowKit
set_option linter.unusedVariables false

theorem specNth_b (a b : Option Addr) (la ca lb cb : Nat) (A B : List Int) (n : Int) (w : World) (hla : la ≤ ca) (hma : ca ≤ maxLen) (hlb : lb ≤ cb) (hmb : cb ≤ maxLen) (h : Ints w a la A) (h' : Ints w b lb B) :
    Calls Try.prog 7 #[.slice a la ca, .slice b lb cb, .int .i64 n] w fun e w' => e = .returned (.tuple #[.string (bs (nthT A B n)), .bool (nthB A B n)]) ∧ Below w.heap.size w w' := by
  refine (specNth_any a b la ca lb cb A B n w hla hma hlb hmb h h').mono ?_
  rintro e w1 ⟨rfl, m, rfl⟩
  exact ⟨rfl, below_drewN (Below.refl _ _) m⟩

set_option maxRecDepth 100000 in
set_option maxHeartbeats 1600000 in
theorem exactOrderNth_walk (a : Option Addr) (len cap : Nat) (zs : List Int) (a' : Option Addr) (len' cap' : Nat) (zs' : List Int) (n : Int) (w : World) (h : IsRow .i64 w a len cap zs) (h' : IsRow .i64 w a' len' cap' zs') (wi : (Lit.int .i64 n).wf = true) :
    Calls Try.prog 3 #[.slice a len cap, .slice a' len' cap', .int .i64 n] w fun e w' => e = .returned (.bool true) ∧ Below w.heap.size w w' := by
  have bi := i64_bounds wi
  clear wi
  obtain ⟨hlc, hm⟩ := h.le
  obtain ⟨hlc', hm'⟩ := h'.le
  have HP := Lib.hid h.ints.1
  have HQ := Lib.hid h'.ints.1
  generalize zs.take len = A at *
  generalize zs'.take len' = B at *
  have hm1 : cap ≤ 9223372036854775807 := hm
  have hm2 : cap' ≤ 9223372036854775807 := hm'
  have hn : len ≤ maxLen := Nat.le_trans hlc hm
  have hn' : len' ≤ maxLen := Nat.le_trans hlc' hm'
  have HB := Lib.hid (Below.refl w.heap.size w)
  clear h h'
  by_cases hl : 1048576 < len
  · have d1 : decide ((1048576 : Int) < (len : Int)) = true := by simp; omega
    go_enter Try.func3, Try.ntmps3
    go_wp2_with fail
    go_ret
    exact ⟨rfl, Below.refl _ _⟩
  have d1 : decide ((1048576 : Int) < (len : Int)) = false := by simp; omega
  by_cases hl' : 1048576 < len'
  · have d2 : decide ((1048576 : Int) < (len' : Int)) = true := by simp; omega
    go_enter Try.func3, Try.ntmps3
    go_wp2_with fail
    go_ret
    exact ⟨rfl, Below.refl _ _⟩
  have d2 : decide ((1048576 : Int) < (len' : Int)) = false := by simp; omega
  go_enter Try.func3, Try.ntmps3
  go_wp2_with fail
  refine (toIntS_any _ _ _ A _ hlc hm (by omega) (HP.out.below HB.out)).mono ?_
  rintro e w1 ⟨g1, rfl, hL1, O1, hg1, b1⟩
  have T1 := Lib.hid (RowI.of_new hL1 O1 hg1)
  clear hL1 O1 hg1
  replace HB := Lib.hid (Below.step0 HB.out b1)
  have s1 := b1.size
  clear b1
  go_wp2_with fail
  refine (toIntS_any _ _ _ B _ hlc' hm' (by omega) (HQ.out.below HB.out)).mono ?_
  rintro e w2 ⟨g2, rfl, hL2, O2, hg2, b2⟩
  have T2 := Lib.hid (RowI.of_new hL2 O2 hg2)
  clear hL2 O2 hg2
  replace T1 := Lib.hid (T1.out.below b2)
  replace HB := Lib.hid (Below.step0 HB.out b2)
  have s2 := b2.size
  clear b2
  go_wp2_with fail
  refine (specNth_b _ _ _ _ _ _ A B n _ (Nat.le_refl _) hn (Nat.le_refl _) hn' T1.out.ints T2.out.ints).mono ?_
  rintro e w3 ⟨rfl, b3⟩
  replace T1 := Lib.hid (T1.out.below b3)
  replace T2 := Lib.hid (T2.out.below b3)
  replace HB := Lib.hid (Below.step0 HB.out b3)
  have s3 := b3.size
  clear b3
  clear T1 T2
  go_wp2_with fail
  refine (toIntS_any _ _ _ A _ hlc hm (by omega) (HP.out.below HB.out)).mono ?_
  rintro e w4 ⟨g4, rfl, hL4, O4, hg4, b4⟩
  have X0 := Lib.hid (RowI.of_new hL4 O4 hg4)
  clear hL4 O4 hg4
  replace HB := Lib.hid (Below.step0 HB.out b4)
  have s4 := b4.size
  clear b4
  go_wp2_with fail
  refine (toIntS_any _ _ _ B _ hlc' hm' (by omega) (HQ.out.below HB.out)).mono ?_
  rintro e w5 ⟨g5, rfl, hL5, O5, hg5, b5⟩
  have X1 := Lib.hid (RowI.of_new hL5 O5 hg5)
  clear hL5 O5 hg5
  replace X0 := Lib.hid (X0.out.below b5)
  replace HB := Lib.hid (Below.step0 HB.out b5)
  have s5 := b5.size
  clear b5
  go_wp2_with fail
  refine (implNth_any _ _ _ _ _ _ A B n _ (Nat.le_refl _) hn (Nat.le_refl _) hn' X0.out.ints X1.out.ints (by simp) (by simp) (by omega)).mono ?_
  rintro e w6 ⟨rfl, b6⟩
  replace X0 := Lib.hid (X0.out.below b6)
  replace X1 := Lib.hid (X1.out.below b6)
  replace HB := Lib.hid (Below.step0 HB.out b6)
  have s6 := b6.size
  clear b6
  generalize nthB A B n = bb at *
  generalize bs (nthT A B n) = ss at *
  have t1 : (bb != bb) = false := by simp
  have t2 : (ss.toList == ss.toList) = true := by simp
  go_wp2_with fail
  refine (toIntS_any _ _ _ A _ hlc hm (by omega) (HP.out.below HB.out)).mono ?_
  rintro e w7 ⟨g7, rfl, hL7, O7, hg7, b7⟩
  have T3 := Lib.hid (RowI.of_new hL7 O7 hg7)
  clear hL7 O7 hg7
  replace X0 := Lib.hid (X0.out.below b7)
  replace X1 := Lib.hid (X1.out.below b7)
  replace HB := Lib.hid (Below.step0 HB.out b7)
  have s7 := b7.size
  clear b7
  go_wp2_with fail
  refine (eqIntS_b _ _ _ _ _ _ A A _ (Nat.le_refl _) hn (Nat.le_refl _) hn X0.out.ints T3.out.ints).mono ?_
  rintro e w8 ⟨rfl, b8⟩
  rw [eqI_self]
  replace X0 := Lib.hid (X0.out.below b8)
  replace X1 := Lib.hid (X1.out.below b8)
  replace T3 := Lib.hid (T3.out.below b8)
  replace HB := Lib.hid (Below.step0 HB.out b8)
  have s8 := b8.size
  clear b8
  clear T3
  go_wp2_with fail
  refine (toIntS_any _ _ _ B _ hlc' hm' (by omega) (HQ.out.below HB.out)).mono ?_
  rintro e w9 ⟨g9, rfl, hL9, O9, hg9, b9⟩
  have T4 := Lib.hid (RowI.of_new hL9 O9 hg9)
  clear hL9 O9 hg9
  replace X0 := Lib.hid (X0.out.below b9)
  replace X1 := Lib.hid (X1.out.below b9)
  replace HB := Lib.hid (Below.step0 HB.out b9)
  have s9 := b9.size
  clear b9
  go_wp2_with fail
  refine (eqIntS_b _ _ _ _ _ _ B B _ (Nat.le_refl _) hn' (Nat.le_refl _) hn' X1.out.ints T4.out.ints).mono ?_
  rintro e w10 ⟨rfl, b10⟩
  rw [eqI_self]
  replace X0 := Lib.hid (X0.out.below b10)
  replace X1 := Lib.hid (X1.out.below b10)
  replace T4 := Lib.hid (T4.out.below b10)
  replace HB := Lib.hid (Below.step0 HB.out b10)
  have s10 := b10.size
  clear b10
  go_wp2_with fail
  go_ret
  exact ⟨rfl, HB.out⟩
end Go.Proofs.Ytfggbcpefdamkaa
