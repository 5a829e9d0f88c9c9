/- The walk of FnBetween24. -/
import Derived.Test.YtjgbhdidboofbaaFnExOrdB
import Derived.Test.YtjgbhdidboofbaaDrawB
import Derived.Test.YtjgbhdidboofbaaBetL
import Derived.Deep.RegionHeld3
namespace Go.Proofs.Ytjgbhdidboofbaa
open Go.RowKit
set_option linter.unusedVariables false
set_option linter.unusedSimpArgs false

theorem bet_is (a b : Option Addr) (la ca lb cb : Nat) (A B : List Int) (i k : Int) (w : World) (hla : la ≤ ca) (hma : ca ≤ maxLen) (hlb : lb ≤ cb) (hmb : cb ≤ maxLen) (i1 : -9223372036854775808 ≤ i) (i2 : i ≤ 9223372036854775807) (k1 : -9223372036854775808 ≤ k) (k2 : k ≤ 9223372036854775807) (h : Ints w a la A) (h' : Ints w b lb B) (ha : a ≠ none) (hb : b ≠ none) (hlim : la + lb ≤ 3000000) (v : Int) (hv : betV A B i k = v) :
    Calls Try.prog 19 #[.slice a la ca, .slice b lb cb, .int .i64 i, .int .i64 k] w fun e w' => e = .returned (.int .i64 v) ∧ Below w.heap.size w w' := by
  subst hv; exact implBet_any a b la ca lb cb A B i k w hla hma hlb hmb i1 i2 k1 k2 h h' ha hb hlim

theorem count_is3 (a b : Option Addr) (la ca lb cb : Nat) (A B : List Int) (w : World) (hla : la ≤ ca) (hma : ca ≤ maxLen) (hlb : lb ≤ cb) (hmb : cb ≤ maxLen) (h : Ints w a la A) (h' : Ints w b lb B) (ha : a ≠ none) (hb : b ≠ none) (hlim : la + lb ≤ 3000000) (v : Int) (hv : cntV A B = v) :
    Calls Try.prog 14 #[.slice a la ca, .slice b lb cb] w fun e w' => e = .returned (.int .i64 v) ∧ Below w.heap.size w w' := by
  subst hv; exact implCount_any a b la ca lb cb A B w hla hma hlb hmb h h' ha hb hlim

set_option maxRecDepth 100000 in
set_option maxHeartbeats 3200000 in
theorem fnBetween24_walk (a : Option Addr) (len cap : Nat) (zs : List Int) (w : World) (h : IsRow .u8 w a len cap zs) :
    Calls Try.prog 8 #[.slice a len cap] w fun e w' => e = .returned (.bool true) ∧ Below w.heap.size w w' := by
  obtain ⟨hc, hm⟩ := h.le
  have hm' := hm
  unfold maxLen at hm'
  have h0 := Lib.hid h.bytes
  clear h
  by_cases hl : 1048576 < len
  · go_enter Try.func8, Try.ntmps8
    go_wp2_with fail
    go_ret
    exact ⟨rfl, Below.refl _ _⟩
  · go_enter Try.func8, Try.ntmps8
    go_wp2_with fail
    refine (drawOB_any _ _ _ _ hc hm h0.out).mono ?_
    rintro e w1 ⟨g, g', n, m, c, c', A, B, i, k, rfl, n1, n3, m1, m2, hnc, hmc, hcm, hcm', hA, hB, bA, bB, O1, O2, hgg, i0, i5, k0, k5, b1⟩
    have x1 : c ≤ 9223372036854775807 := hcm
    have x2 : c' ≤ 9223372036854775807 := hcm'
    have HA := Lib.hid hA
    have HBL := Lib.hid hB
    have BA := Lib.hid bA
    have BB := Lib.hid bB
    have OA := Lib.hid O1
    have OB := Lib.hid O2
    have HB := Lib.hid b1
    clear hA hB bA bB O1 O2 b1 h0
    go_wp2_with fail
    refine (implBet_any _ _ _ _ _ _ A B i k _ hnc hcm hmc hcm' (by omega) (by omega) (by omega) (by omega) (OA.out.ints HA.out (fun _ _ => rfl)) (OB.out.ints HBL.out (fun _ _ => rfl)) (by simp) (by simp) (by omega)).mono ?_
    rintro e w2 ⟨rfl, b2⟩
    replace OA := Lib.hid (OA.out.below b2)
    replace OB := Lib.hid (OB.out.below b2)
    replace HB := Lib.hid (Below.step0 HB.out b2)
    clear b2
    go_wp2_with fail
    refine (specBet_b _ _ _ _ _ _ A B i k _ hnc hcm hmc hcm' (by omega) (by omega) (OA.out.ints HA.out (fun _ _ => rfl)) (OB.out.ints HBL.out (fun _ _ => rfl))).mono ?_
    rintro e w3 ⟨rfl, b3⟩
    replace OA := Lib.hid (OA.out.below b3)
    replace OB := Lib.hid (OB.out.below b3)
    replace HB := Lib.hid (Below.step0 HB.out b3)
    clear b3
    have t1 : (betV A B i k != betV A B i k) = false := by simp
    have t2 : (betV A B i k == betV A B i k) = true := by simp
    by_cases hneg : betV A B i k < 0
    · go_wp2_with fail
      go_ret
      exact ⟨rfl, HB.out⟩
    have hok : okB A B = true := by
      cases q : okB A B
      · exact absurd (betV_no (i := i) (k := k) q) (by omega)
      · rfl
    have CB := cntV_bd hok
    have BL := betV_le i k hok
    have HK := Lib.hid hok
    obtain rfl : m = n := by have := (ok_true hok).2.2.1; rw [HA.out, HBL.out] at this; exact this
    have H0 := Lib.hid (show 0 ≤ betV A B i k by omega)
    clear hok
    obtain ⟨x, X⟩ : ∃ x, betV B A k i = x := ⟨_, rfl⟩
    have L1 : betV A B i k + x = cntV A B := by rw [← X]; exact bet24 HK.out H0.out
    have XL := betV_le k i (ok_symm HK.out)
    rw [X, cntV_symm HK.out] at XL
    replace X := Lib.hid X
    have a1 : IntKind.i64.wrap (betV A B i k + x) = cntV A B := by rw [L1]; exact IntWalk.i64_in _ (by omega)
    have t5 : (cntV A B == cntV A B) = true := by simp
    have t6 : 0 ≤ betV A B i k := H0.out
    clear L1
    go_wp2_with fail
    refine (bet_is _ _ _ _ _ _ B A k i _ hmc hcm' hnc hcm (by omega) (by omega) (by omega) (by omega) (OB.out.ints HBL.out (fun _ _ => rfl)) (OA.out.ints HA.out (fun _ _ => rfl)) (by simp) (by simp) (by omega) x X.out).mono ?_
    rintro e w4 ⟨rfl, b4⟩
    replace OA := Lib.hid (OA.out.below b4)
    replace OB := Lib.hid (OB.out.below b4)
    replace HB := Lib.hid (Below.step0 HB.out b4)
    clear b4
    go_wp2_with fail
    refine (count_is3 _ _ _ _ _ _ A B _ hnc hcm hmc hcm' (OA.out.ints HA.out (fun _ _ => rfl)) (OB.out.ints HBL.out (fun _ _ => rfl)) (by simp) (by simp) (by omega) (cntV A B) rfl).mono ?_
    rintro e w5 ⟨rfl, b5⟩
    replace HB := Lib.hid (Below.step0 HB.out b5)
    clear b5
    go_wp2_with fail
    go_ret
    exact ⟨rfl, HB.out⟩
end Go.Proofs.Ytjgbhdidboofbaa
