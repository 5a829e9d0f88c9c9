/- The walk of FnFit. -/
import Derived.Test.YtgendnkemdcjeaaDrawF
import Derived.Test.YtgendnkemdcjeaaFitQ
namespace Go.Proofs.Ytgendnkemdcjeaa
open Go.RowKit
set_option linter.unusedVariables false
set_option linter.unusedSimpArgs false

set_option maxRecDepth 100000 in
set_option maxHeartbeats 3200000 in
theorem fnFit_walk (a : Option Addr) (len cap : Nat) (zs : List Int) (w : World) (h : IsRow .u8 w a len cap zs) :
    Calls Try.prog 9 #[.slice a len cap] w fun e w' => e = .returned (.bool true) ∧ Below w.heap.size w w' := by
  obtain ⟨hc, hm⟩ := h.le
  have hm' := hm
  unfold maxLen at hm'
  have h0 := Lib.hid h.bytes
  clear h
  by_cases hl : 1048576 < len
  · go_enter Try.func9, Try.ntmps9
    go_wp2_with fail
    go_ret
    exact ⟨rfl, Below.refl _ _⟩
  · go_enter Try.func9, Try.ntmps9
    go_wp2_with fail
    refine (drawFit_any _ _ _ _ hc hm h0.out).mono ?_
    rintro e w1 ⟨g, g', g3, n, m, c, c', c3, L, S, A, rfl, n1, n5, m6, hnc, hmc, hnc3, hcm, hcm', hcm3, hL, hS, hA, O1, O2, O3, b1⟩
    have HL := Lib.hid hL
    have HS := Lib.hid hS
    have HA := Lib.hid hA
    have x3 : c ≤ 9223372036854775807 := hcm
    have x4 : c' ≤ 9223372036854775807 := hcm'
    have x5 : c3 ≤ 9223372036854775807 := hcm3
    have OL := Lib.hid O1
    have OS := Lib.hid O2
    have OA := Lib.hid O3
    have HB := Lib.hid b1
    clear hL hS hA O1 O2 O3 b1 h0
    go_wp2_with fail
    refine (implFit_any _ _ _ _ _ _ _ _ _ L S A _ hnc hcm hmc hcm' hnc3 hcm3 (OL.out.prs HL.out (fun _ _ => rfl)) (OS.out.prs HS.out (fun _ _ => rfl)) (OA.out.ints HA.out (fun _ _ => rfl)) (by simp) (by simp)).mono ?_
    rintro e w2 ⟨rfl, b2⟩
    replace OL := Lib.hid (OL.out.below b2)
    replace OS := Lib.hid (OS.out.below b2)
    replace OA := Lib.hid (OA.out.below b2)
    replace HB := Lib.hid (Below.step0 HB.out b2)
    clear b2
    go_wp2_with fail
    refine (specFit_b _ _ _ _ _ _ _ _ _ L S A _ hnc hcm hmc hcm' hnc3 hcm3 (OL.out.prs HL.out (fun _ _ => rfl)) (OS.out.prs HS.out (fun _ _ => rfl)) (OA.out.ints HA.out (fun _ _ => rfl))).mono ?_
    rintro e w3 ⟨rfl, b3⟩
    replace OL := Lib.hid (OL.out.below b3)
    replace OS := Lib.hid (OS.out.below b3)
    replace OA := Lib.hid (OA.out.below b3)
    replace HB := Lib.hid (Below.step0 HB.out b3)
    clear b3
    have t1 : (fitB L S A != fitB L S A) = false := by simp
    by_cases hf : fitB L S A = true
    rotate_left
    · have hf' : fitB L S A = false := by simpa using hf
      rw [hf']
      clear t1 hf hf'
      go_wp2_with fail
      go_ret
      exact ⟨rfl, HB.out⟩
    rw [hf]
    have HF := Lib.hid hf
    clear t1 hf
    have FT := fit_tk HF.out
    have HK := Lib.hid FT.1
    have HT := Lib.hid FT.2
    clear FT
    go_wp2_with fail
    refine (implTight_any _ _ _ _ _ _ L S _ hnc hcm hmc hcm' (OL.out.prs HL.out (fun _ _ => rfl)) (OS.out.prs HS.out (fun _ _ => rfl)) (by simp) (by simp)).mono ?_
    rintro e w6 ⟨a6, n6, c6, rfl, R6, hc6, hm6, b6, y6⟩
    replace OL := Lib.hid (OL.out.below b6)
    replace OS := Lib.hid (OS.out.below b6)
    replace OA := Lib.hid (OA.out.below b6)
    replace HB := Lib.hid (Below.step0 HB.out b6)
    have x6 : c6 ≤ 9223372036854775807 := hm6
    obtain ⟨gt, rfl, hn6, _, o6⟩ := y6 HK.out
    rw [HL.out] at o6
    obtain rfl : n = n6 := (hn6.trans HL.out).symm
    have OT := Lib.hid o6
    rw [HK.out]
    clear R6 y6 o6 b6 hn6
    go_wp2_with fail
    refine (implYoung_any _ _ _ _ _ _ L S _ hnc hcm hmc hcm' (OL.out.prs HL.out (fun _ _ => rfl)) (OS.out.prs HS.out (fun _ _ => rfl)) (by simp) (by simp)).mono ?_
    rintro e w7 ⟨a7, n7, c7, rfl, R7, hc7, hm7, b7, y7⟩
    replace OL := Lib.hid (OL.out.below b7)
    replace OS := Lib.hid (OS.out.below b7)
    replace OA := Lib.hid (OA.out.below b7)
    replace OT := Lib.hid (OT.out.below b7)
    replace HB := Lib.hid (Below.step0 HB.out b7)
    have x7 : c7 ≤ 9223372036854775807 := hm7
    obtain ⟨gy, rfl, hn7, _, o7⟩ := y7 HK.out
    rw [HL.out] at o7
    obtain rfl : n = n7 := (hn7.trans HL.out).symm
    rw [yRes_yes HK.out] at o7
    have OY := Lib.hid o7
    rw [HK.out]
    clear R7 y7 o7 b7 hn7
    go_wp2_with fail
    refine (implOld_any _ _ _ _ _ _ L S _ hnc hcm hmc hcm' (OL.out.prs HL.out (fun _ _ => rfl)) (OS.out.prs HS.out (fun _ _ => rfl)) (by simp) (by simp)).mono ?_
    rintro e w8 ⟨a8, n8, c8, rfl, R8, hc8, hm8, b8, y8⟩
    replace OL := Lib.hid (OL.out.below b8)
    replace OS := Lib.hid (OS.out.below b8)
    replace OA := Lib.hid (OA.out.below b8)
    replace OT := Lib.hid (OT.out.below b8)
    replace OY := Lib.hid (OY.out.below b8)
    replace HB := Lib.hid (Below.step0 HB.out b8)
    have x8 : c8 ≤ 9223372036854775807 := hm8
    obtain ⟨go, rfl, hn8, _, o8⟩ := y8 HK.out
    rw [HL.out] at o8
    obtain rfl : n = n8 := (hn8.trans HL.out).symm
    rw [oRes_yes HK.out] at o8
    have OO := Lib.hid o8
    rw [HK.out]
    clear R8 y8 o8 b8 hn8
    go_wp2_with fail
    go_loopw [14] (fun i wr => ∃ k : Nat, i = .int .i64 k ∧ k ≤ n ∧ ∃ q, wr = w8.drewN q) (fun i _ => n - (intOf i).toNat)
    case atStart => exact ⟨0, rfl, Nat.zero_le _, 0, rfl⟩
    case round =>
      obtain ⟨i, rfl, hki, q, rfl⟩ := hrel
      by_cases hlt : i < n
      · have hiL : i < L.length := by rw [HL.out]; exact hlt
        obtain ⟨q1, q2, q3, q4⟩ := OT.out.2 i hlt
        obtain ⟨p1, p2⟩ := OY.out.2 i hlt
        obtain ⟨r1, r2⟩ := OO.out.2 i hlt
        obtain ⟨v1, v2⟩ := OA.out.2 i hlt
        rw [twl_pr L S i hiL] at q1 q2
        rw [yg_it L S i hiL] at p1
        rw [od_it L S i hiL] at r1
        have F := HT.out i hiL
        generalize (tw L S L.length i).1 = x1 at *
        generalize (tw L S L.length i).2 = x2 at *
        generalize it A i = av at *
        have i0 : (0 : Int) ≤ (i : Int) := by omega
        have i1 : (i : Int) < (n : Int) := by omega
        have t1 : decide (av < x1) = false := by simp; omega
        have t2 : decide (x2 < av) = false := by simp; omega
        clear F hiL
        go_wp2_with fail
        go_quiet (fail)
        go_wp2_with fail
        go_roundw
        case rel => exact ⟨i + 1, by go_num, by omega, q + nq, rfl⟩
        case measure => simp [intOf] <;> omega
      · go_wp2_with fail
        go_ret
        exact ⟨rfl, below_drewN HB.out q⟩
end Go.Proofs.Ytgendnkemdcjeaa
