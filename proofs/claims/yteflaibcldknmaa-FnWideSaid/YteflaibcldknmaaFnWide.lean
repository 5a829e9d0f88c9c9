/- The walk of FnWide. -/
import Derived.Test.YteflaibcldknmaaWide
import Derived.Test.YteflaibcldknmaaYoung
import Derived.Test.YteflaibcldknmaaDrawT
import Derived.Test.YteflaibcldknmaaCopyW
namespace Go.Proofs.Yteflaibcldknmaa
open Go.RowKit
set_option linter.unusedVariables false
set_option linter.unusedSimpArgs false

theorem sm_diff {L S : List (Int × Int)} : ∀ k, k ≤ L.length → smI (od L S) k - smI (yg L S) k = wide (tw L S L.length) k
  | 0, _ => rfl
  | k + 1, h => by
    have ih := sm_diff (L := L) (S := S) k (by omega)
    have e1 := od_it L S k h
    have e2 := yg_it L S k h
    show smI (od L S) k + it (od L S) k - (smI (yg L S) k + it (yg L S) k) = wide (tw L S L.length) k + ((tw L S L.length k).2 - (tw L S L.length k).1)
    omega

set_option maxRecDepth 100000 in
set_option maxHeartbeats 3200000 in
theorem fnWide_walk (a : Option Addr) (len cap : Nat) (zs : List Int) (w : World) (h : IsRow .u8 w a len cap zs) :
    Calls Try.prog 6 #[.slice a len cap] w fun e w' => e = .returned (.bool true) ∧ Below w.heap.size w w' := by
  obtain ⟨hc, hm⟩ := h.le
  have hm' := hm
  unfold maxLen at hm'
  have h0 := Lib.hid h.bytes
  clear h
  by_cases hl : 1048576 < len
  · go_enter Try.func6, Try.ntmps6
    go_wp2_with fail
    go_ret
    exact ⟨rfl, Below.refl _ _⟩
  · go_enter Try.func6, Try.ntmps6
    go_wp2_with fail
    refine (drawWide_any _ _ _ _ hc hm h0.out).mono ?_
    rintro e w1 ⟨g, g', n, m, c, c', L, S, rfl, n1, n5, m6, hnc, hmc, hcm, hcm', hL, hS, O1, O2, hgg, hg, hg', b1⟩
    have HL := Lib.hid hL
    have HS := Lib.hid hS
    have x3 : c ≤ 9223372036854775807 := hcm
    have x4 : c' ≤ 9223372036854775807 := hcm'
    have OL := Lib.hid O1
    have OS := Lib.hid O2
    have HB := Lib.hid b1
    clear hL hS O1 O2 b1 h0
    go_wp2_with fail
    refine (implWide_any _ _ _ _ _ _ L S _ hnc hcm hmc hcm' (OL.out.prs HL.out (fun _ _ => rfl)) (OS.out.prs HS.out (fun _ _ => rfl)) (by simp) (by simp)).mono ?_
    rintro e w2 ⟨rfl, b2⟩
    replace OL := Lib.hid (OL.out.below b2)
    replace OS := Lib.hid (OS.out.below b2)
    replace HB := Lib.hid (Below.step0 HB.out b2)
    clear b2
    go_wp2_with fail
    refine (specWide_any _ _ _ _ _ _ L S _ hnc hcm hmc hcm' (OL.out.prs HL.out (fun _ _ => rfl)) (OS.out.prs HS.out (fun _ _ => rfl))).mono ?_
    rintro e w3 ⟨rfl, b3⟩
    replace OL := Lib.hid (OL.out.below b3)
    replace OS := Lib.hid (OS.out.below b3)
    replace HB := Lib.hid (Below.step0 HB.out b3)
    clear b3
    have t1 : (wdV L S != wdV L S) = false := by simp
    by_cases hk : tkB L S = true
    rotate_left
    · rw [wdV_no (by simpa using hk)]
      clear t1 hk
      go_wp2_with fail
      go_ret
      exact ⟨rfl, HB.out⟩
    have HK := Lib.hid hk
    have WB := wide_tw hk L.length (Nat.le_refl _)
    have WE := Lib.hid (wdV_yes hk)
    have l5 : L.length ≤ 5 := by rw [HL.out]; exact n5
    have v0 : 0 ≤ wdV L S := by rw [WE.out]; omega
    have v1 : wdV L S ≤ 500000 := by rw [WE.out]; omega
    have t2 : decide (wdV L S < 0) = false := by simp; omega
    clear hk WB l5
    generalize wdV L S = wv at *
    go_wp2_with fail
    refine (implYoung_any _ _ _ _ _ _ L S _ hnc hcm hmc hcm' (OL.out.prs HL.out (fun _ _ => rfl)) (OS.out.prs HS.out (fun _ _ => rfl)) (by simp) (by simp)).mono ?_
    rintro e w6 ⟨a6, n6, c6, rfl, R6, hc6, hm6, b6, y6⟩
    replace OL := Lib.hid (OL.out.below b6)
    replace OS := Lib.hid (OS.out.below b6)
    replace HB := Lib.hid (Below.step0 HB.out b6)
    have xx6 : c6 ≤ 9223372036854775807 := hm6
    obtain ⟨gy, rfl, hn6, _, o6⟩ := y6 HK.out
    rw [HL.out] at o6
    obtain rfl : n = n6 := (hn6.trans HL.out).symm
    rw [yRes_yes HK.out] at o6
    have OY := Lib.hid o6
    rw [HK.out]
    clear R6 y6 o6 b6 hn6
    go_wp2_with fail
    refine (implOld_any _ _ _ _ _ _ L S _ hnc hcm hmc hcm' (OL.out.prs HL.out (fun _ _ => rfl)) (OS.out.prs HS.out (fun _ _ => rfl)) (by simp) (by simp)).mono ?_
    rintro e w7 ⟨a7, n7, c7, rfl, R7, hc7, hm7, b7, y7⟩
    replace OL := Lib.hid (OL.out.below b7)
    replace OS := Lib.hid (OS.out.below b7)
    replace OY := Lib.hid (OY.out.below b7)
    replace HB := Lib.hid (Below.step0 HB.out b7)
    have xx7 : c7 ≤ 9223372036854775807 := hm7
    obtain ⟨go, rfl, hn7, _, o7⟩ := y7 HK.out
    rw [HL.out] at o7
    obtain rfl : n = n7 := (hn7.trans HL.out).symm
    rw [oRes_yes HK.out] at o7
    have OO := Lib.hid o7
    rw [HK.out]
    clear R7 y7 o7 b7 hn7
    have WL := Lib.hid (fun k (hk : k ≤ n) => wide_bd (f := pr L) (k := k) (c := 100000) (fun i hi => by
      have := wd_pr (tk_true HK.out).1 (k := i) (by rw [HL.out]; omega)
      omega))
    go_wp2_with fail
    go_loopw [11, 12] (fun v i wr => ∃ k : Nat, i = .int .i64 k ∧ k ≤ n ∧ v = .int .i64 (wide (pr L) k) ∧ ∃ q, wr = w7.drewN q) (fun _ i _ => n - (intOf i).toNat)
    case atStart => exact ⟨0, rfl, Nat.zero_le _, rfl, 0, rfl⟩
    case round =>
      obtain ⟨k, rfl, hk, rfl, q, rfl⟩ := hrel
      by_cases hlt : k < n
      · obtain ⟨q1, q2, q3, q4⟩ := OL.out.2 k hlt
        have Z := wd_pr (tk_true HK.out).1 (k := k) (by rw [HL.out]; exact hlt)
        have WB := WL.out k hk
        have E := Lib.hid (show wide (pr L) (k + 1) = wide (pr L) k + ((pr L k).2 - (pr L k).1) from rfl)
        generalize (pr L k).1 = x1 at *
        generalize (pr L k).2 = x2 at *
        generalize wide (pr L) k = s at *
        have a1 : IntKind.i64.wrap (s + x2) = s + x2 := IntWalk.i64_in _ (by omega)
        have a2 : IntKind.i64.wrap (s + x2 - x1) = s + x2 - x1 := IntWalk.i64_in _ (by omega)
        have i1 : (0 : Int) ≤ (k : Int) := by omega
        have i2 : (k : Int) < (n : Int) := by omega
        clear Z WB
        go_wp2_with fail
        go_quiet (fail)
        clear a1 a2
        go_wp2_with fail
        go_roundw
        case rel => exact ⟨k + 1, by go_num, by omega, by rw [E.out, show s + (x2 - x1) = s + x2 - x1 by omega], q + nq, rfl⟩
        case measure => simp [intOf] <;> omega
      · obtain rfl : n = k := by omega
        have D7 := Lib.hid (below_drewN (Below.refl w7.heap.size w7) q)
        replace OY := Lib.hid (OY.out.below D7.out)
        replace OO := Lib.hid (OO.out.below D7.out)
        replace HB := Lib.hid (below_drewN HB.out q)
        have HYL := Lib.hid (show (yg L S).length = n by rw [yg_len]; exact HL.out)
        have HOL := Lib.hid (show (od L S).length = n by rw [od_len]; exact HL.out)
        have BY : ∀ i, i < n → 0 ≤ it (yg L S) i ∧ it (yg L S) i ≤ 1200000 := fun i hi => by
          rw [yg_it L S i (by rw [HL.out]; exact hi)]
          have := tw_bd (tk_true HK.out).1 i (by rw [HL.out]; exact hi)
          omega
        have BO : ∀ i, i < n → -1200000 ≤ it (od L S) i ∧ it (od L S) i ≤ 1200000 := fun i hi => by
          rw [od_it L S i (by rw [HL.out]; exact hi)]
          have := tw_bd (tk_true HK.out).1 i (by rw [HL.out]; exact hi)
          omega
        have SY := smI_bd (A := yg L S) (lo := 0) (hi := 1200000) (by omega) (by omega) n (fun i hi => by have := BY i hi; omega)
        have SO := smI_bd (A := od L S) (lo := -1200000) (hi := 1200000) (by omega) (by omega) n (fun i hi => by have := BO i hi; omega)
        have DD := sm_diff (L := L) (S := S) n (by rw [HL.out]; exact Nat.le_refl _)
        have LE := wide_le (f := tw L S L.length) (g := pr L) (k := n) (fun i hi => by
          have := tw_in (L := L) (S := S) (n := L.length) (i := i) (by rw [HL.out]; exact hi)
          omega)
        have WE2 := WE.out
        rw [HL.out] at WE2 LE DD
        have BY2 := Lib.hid (fun i (hi : i < n) => show -1000000000000 ≤ it (yg L S) i ∧ it (yg L S) i ≤ 1000000000000 by have := BY i hi; omega)
        have BO2 := Lib.hid (fun i (hi : i < n) => show -1000000000000 ≤ it (od L S) i ∧ it (od L S) i ≤ 1000000000000 by have := BO i hi; omega)
        have F1 := Lib.hid (show smI (od L S) n - smI (yg L S) n = wv by rw [DD, WE2])
        have F2 : wv ≤ wide (pr L) n := by rw [WE2]; exact LE
        have g1 : -100000000 ≤ smI (od L S) n := by omega
        have g2 : smI (od L S) n ≤ 100000000 := by omega
        have g3 : 0 ≤ smI (yg L S) n := by omega
        have g4 : smI (yg L S) n ≤ 100000000 := by omega
        clear BY BO SY SO DD LE WE2 D7
        go_wp2_with fail
        refine (sumOf_any _ n _ (od L S) _ hc7 hm7 (by omega) BO2.out (OO.out.ints HOL.out (fun _ _ => rfl))).mono ?_
        rintro e _ ⟨rfl, rfl⟩
        go_wp2_with fail
        refine (sumOf_any _ n _ (yg L S) _ hc6 hm6 (by omega) BY2.out (OY.out.ints HYL.out (fun _ _ => rfl))).mono ?_
        rintro e _ ⟨rfl, rfl⟩
        have t3 : ((smI (od L S) n - smI (yg L S) n) == wv) = true := by rw [F1.out]; simp
        have t4 : decide (wv ≤ wide (pr L) n) = true := by simpa using F2
        go_wp2_with fail
        go_ret
        exact ⟨rfl, HB.out⟩
end Go.Proofs.Yteflaibcldknmaa
