/- The walk of FnWindowsOne. -/
import Derived.Test.YteflaibcldknmaaYoung
import Derived.Test.YteflaibcldknmaaSameW
import Derived.Test.YteflaibcldknmaaDrawT
import Derived.Test.YteflaibcldknmaaCopyW
namespace Go.Proofs.Yteflaibcldknmaa
open Go.RowKit
set_option linter.unusedVariables false
set_option linter.unusedSimpArgs false

theorem one_tk {x1 x2 : Int} (h : 0 ≤ x1 ∧ x1 ≤ x2 ∧ x2 ≤ 100000) : tkB [(x1, x2)] [] = true := by
  refine tk_mk (wd_mk ⟨by simp, by simp, by simp, fun i hi => ?_, fun i hi => absurd hi (by simp)⟩) (fun i hi => ?_)
  · obtain rfl : i = 0 := by simpa using hi
    exact rg_mk h.1 h.2.1 h.2.2
  · obtain rfl : i = 0 := by simpa using hi
    exact h.2.1
theorem one_yg (x1 x2 : Int) : yg [(x1, x2)] [] = [x1] := rfl
theorem one_od (x1 x2 : Int) : od [(x1, x2)] [] = [x2] := rfl
theorem one_prs (w : World) (x1 x2 : Int) (t : TypeId) : Prs (w.alloc (.cells #[.int .i64 x1, .int .i64 x2] t)) (some ⟨w.heap.size, 0, none⟩) 1 [(x1, x2)] := by
  refine ⟨rfl, .inr ⟨w.heap.size, 0, rfl, by simp, fun i hi => ?_⟩⟩
  obtain rfl : i = 0 := by simpa using hi
  exact ⟨by simp [pr], by simp [pr]⟩
theorem one_ints (w : World) (x : Int) (t : TypeId) : Ints (w.alloc (.cells #[.int .i64 x] t)) (some ⟨w.heap.size, 0, none⟩) 1 [x] := by
  refine ⟨rfl, .inr ⟨w.heap.size, 0, rfl, by simp, fun i hi => ?_⟩⟩
  obtain rfl : i = 0 := by simpa using hi
  simp [it]

set_option maxRecDepth 100000 in
set_option maxHeartbeats 3200000 in
theorem fnWindowsOne_walk (a : Option Addr) (len cap : Nat) (zs : List Int) (a2 : Option Addr) (mlen mcap : Nat) (zs2 : List Int) (w : World) (h : IsRow .u8 w a len cap zs) (h' : IsRow .u8 w a2 mlen mcap zs2) :
    Calls Try.prog 5 #[.slice a len cap, .slice a2 mlen mcap] w fun e w' => e = .returned (.bool true) ∧ Below w.heap.size w w' := by
  obtain ⟨hc, hm⟩ := h.le
  have hm' := hm
  unfold maxLen at hm'
  obtain ⟨hc', hn⟩ := h'.le
  have hn' := hn
  unfold maxLen at hn'
  have h0 := Lib.hid h.bytes
  clear h h'
  by_cases hl : 1048576 < len
  · have d1 : decide ((1048576 : Int) < (len : Int)) = true := by simp; omega
    go_enter Try.func5, Try.ntmps5
    go_wp2_with fail
    go_ret
    exact ⟨rfl, Below.refl _ _⟩
  · have d1 : decide ((1048576 : Int) < (len : Int)) = false := by simp; omega
    by_cases hl' : 1048576 < mlen
    · have d2 : decide ((1048576 : Int) < (mlen : Int)) = true := by simp; omega
      go_enter Try.func5, Try.ntmps5
      go_wp2_with fail
      go_ret
      exact ⟨rfl, Below.refl _ _⟩
    · have d2 : decide ((1048576 : Int) < (mlen : Int)) = false := by simp; omega
      go_enter Try.func5, Try.ntmps5
      go_wp2_with fail
      refine (drawValid_any _ _ _ _ hc hm h0.out).mono ?_
      rintro e w1 ⟨g, g', n, m, c, c', L, S, rfl, n1, n5, m6, hnc, hmc, hcm, hcm', hL, hS, O1, O2, hgg, hg, hg', b1⟩
      have HL := Lib.hid hL
      have HS := Lib.hid hS
      have x3 : c ≤ 9223372036854775807 := hcm
      have x4 : c' ≤ 9223372036854775807 := hcm'
      have OL := Lib.hid O1
      have OS := Lib.hid O2
      have HB := Lib.hid b1
      clear hL hS O1 O2 b1 h0
      go_wp2_with fail
      refine (implValid_any _ _ _ _ _ _ L S _ hnc hcm hmc hcm' (OL.out.prs HL.out (fun _ _ => rfl)) (OS.out.prs HS.out (fun _ _ => rfl)) (by simp) (by simp)).mono ?_
      rintro e w2 ⟨rfl, b2⟩
      replace OL := Lib.hid (OL.out.below b2)
      replace OS := Lib.hid (OS.out.below b2)
      replace HB := Lib.hid (Below.step0 HB.out b2)
      clear b2
      go_wp2_with fail
      refine (specValid_any _ _ _ _ _ _ L S _ hnc hcm hmc hcm' (OL.out.prs HL.out (fun _ _ => rfl)) (OS.out.prs HS.out (fun _ _ => rfl))).mono ?_
      rintro e w3 ⟨rfl, d3, hw3⟩
      have b3 : Below w2.heap.size w2 w3 := by rw [hw3]; exact below_drewN (Below.refl _ _) d3
      replace OL := Lib.hid (OL.out.below b3)
      replace OS := Lib.hid (OS.out.below b3)
      replace HB := Lib.hid (Below.step0 HB.out b3)
      clear b3 hw3
      have t1 : (wvB L S != wvB L S) = false := by simp
      by_cases hv : wvB L S = true
      rotate_left
      · have hv' : wvB L S = false := by simpa using hv
        rw [hv']
        clear t1 hv hv'
        go_wp2_with fail
        go_ret
        exact ⟨rfl, HB.out⟩
      rw [hv]
      have HV := Lib.hid ((wv_wd L S).symm.trans hv)
      clear t1 hv
      obtain ⟨k, hk, ek, ek2⟩ := mod_ix mlen n n1
      have hkL : k < L.length := by rw [HL.out]; exact hk
      have Z := wd_pr HV.out hkL
      obtain ⟨q1, q2, q3, q4⟩ := OL.out.2 k hk
      have QC := Lib.hid (And.intro q1 q2)
      generalize (pr L k).1 = x1 at *
      generalize (pr L k).2 = x2 at *
      have TK := Lib.hid (one_tk Z)
      have E1 := Lib.hid (show twl [(x1, x2)] [] = [(x1, x2)] from twl_one rfl)
      have E2 := Lib.hid (one_yg x1 x2)
      have E3 := Lib.hid (one_od x1 x2)
      have P1 := Lib.hid (show Prs ((w3.alloc (.cells #[.int .i64 x1, .int .i64 x2] 35)).alloc (.cells #[] 35)) (some ⟨w3.heap.size, 0, none⟩) 1 [(x1, x2)] from (one_prs w3 x1 x2 _).below ((Below.refl _ _).alloc (Nat.le_refl _) _))
      have P0 := Lib.hid (show Prs ((w3.alloc (.cells #[.int .i64 x1, .int .i64 x2] 35)).alloc (.cells #[] 35)) (some ⟨w3.heap.size + 1, 0, none⟩) 0 [] from ⟨rfl, .inl rfl⟩)
      have b34 : Below w3.heap.size w3 ((w3.alloc (.cells #[.int .i64 x1, .int .i64 x2] 35)).alloc (.cells #[] 35)) := ((Below.refl _ _).alloc (Nat.le_refl _) _).alloc (by simp) _
      replace OL := Lib.hid (OL.out.below b34)
      have HB0 := Lib.hid (Below.step0 HB.out b34)
      have i1 : (0 : Int) ≤ (k : Int) := by omega
      have i2 : (k : Int) < (n : Int) := by omega
      have HC2 := QC.out
      have HQ := Lib.hid (show ∀ W', Below w3.heap.size w3 W' → W'.cell? ⟨g, k * 2, none⟩ = some (.int .i64 x1) ∧ W'.cell? ⟨g, k * 2 + 1, none⟩ = some (.int .i64 x2) from fun W' b => ⟨(b.cell (World.block_lt_of_cell? _ _ HC2.1)).trans HC2.1, (b.cell (World.block_lt_of_cell? _ _ HC2.2)).trans HC2.2⟩)
      have B3 := Lib.hid b34
      clear b34 HC2 QC Z OS ek2 hkL OL HB HV
      have HB := HB0
      clear HB0
      go_wp2_with fail
      refine (implTight_any _ _ 1 1 0 0 [(x1, x2)] [] _ (Nat.le_refl _) (by unfold maxLen; omega) (Nat.le_refl _) (by unfold maxLen; omega) P1.out P0.out (by simp) (by simp)).mono ?_
      rintro e w4 ⟨a4, n4, c4, rfl, R4, hc4, hm4, b4, y4⟩
      replace P1 := Lib.hid (P1.out.below b4)
      replace P0 := Lib.hid (P0.out.below b4)
      replace HB := Lib.hid (Below.step0 HB.out b4)
      have xx4 : c4 ≤ 9223372036854775807 := hm4
      rw [tRes_yes TK.out, E1.out] at R4
      rw [TK.out]
      obtain rfl : 1 = n4 := R4.1
      have RT := Lib.hid R4
      replace B3 := Lib.hid (Below.step0 B3.out b4)
      clear R4 y4 b4
      go_wp2_with fail
      refine (implYoung_any _ _ 1 1 0 0 [(x1, x2)] [] _ (Nat.le_refl _) (by unfold maxLen; omega) (Nat.le_refl _) (by unfold maxLen; omega) P1.out P0.out (by simp) (by simp)).mono ?_
      rintro e w5 ⟨a5, n5, c5, rfl, R5, hc5, hm5, b5, y5⟩
      replace P1 := Lib.hid (P1.out.below b5)
      replace P0 := Lib.hid (P0.out.below b5)
      replace RT := Lib.hid (RT.out.below b5)
      replace HB := Lib.hid (Below.step0 HB.out b5)
      have xx5 : c5 ≤ 9223372036854775807 := hm5
      rw [yRes_yes TK.out, E2.out] at R5
      rw [TK.out]
      obtain rfl : 1 = n5 := R5.1
      have RY := Lib.hid R5
      replace B3 := Lib.hid (Below.step0 B3.out b5)
      clear R5 y5 b5
      go_wp2_with fail
      refine (implOld_any _ _ 1 1 0 0 [(x1, x2)] [] _ (Nat.le_refl _) (by unfold maxLen; omega) (Nat.le_refl _) (by unfold maxLen; omega) P1.out P0.out (by simp) (by simp)).mono ?_
      rintro e w6 ⟨a6, n6, c6, rfl, R6, hc6, hm6, b6, y6⟩
      replace P1 := Lib.hid (P1.out.below b6)
      replace P0 := Lib.hid (P0.out.below b6)
      replace RT := Lib.hid (RT.out.below b6)
      replace RY := Lib.hid (RY.out.below b6)
      replace HB := Lib.hid (Below.step0 HB.out b6)
      have xx6 : c6 ≤ 9223372036854775807 := hm6
      rw [oRes_yes TK.out, E3.out] at R6
      rw [TK.out]
      obtain rfl : 1 = n6 := R6.1
      have RO := Lib.hid R6
      replace B3 := Lib.hid (Below.step0 B3.out b6)
      clear R6 y6 b6 q1 q2 q3 q4
      go_wp2_with fail
      refine (sameWindows_b _ _ _ _ _ _ [(x1, x2)] [(x1, x2)] _ hc4 hm4 (Nat.le_refl _) (by unfold maxLen; omega) RT.out P1.out).mono ?_
      rintro e w7 ⟨rfl, b7⟩
      rw [eqL_self]
      replace RY := Lib.hid (RY.out.below b7)
      replace RO := Lib.hid (RO.out.below b7)
      replace HB := Lib.hid (Below.step0 HB.out b7)
      replace B3 := Lib.hid (Below.step0 B3.out b7)
      obtain ⟨q1, q2⟩ := HQ.out _ B3.out
      clear b7 RT P1 P0
      go_wp2_with fail
      refine (sameInts_b _ _ _ _ _ _ [x1] [x1] _ hc5 hm5 (Nat.le_refl _) (by unfold maxLen; omega) (RY.out.below ((Below.refl _ _).alloc (Nat.le_refl _) _)) (one_ints w7 x1 _)).mono ?_
      rintro e w8 ⟨rfl, b8⟩
      rw [eqI_self]
      have b8' := Below.step1 (Below.refl w7.heap.size w7) b8
      replace RO := Lib.hid (RO.out.below b8')
      replace HB := Lib.hid (Below.step0 HB.out b8')
      replace B3 := Lib.hid (Below.step0 B3.out b8')
      clear q1 q2 b8 b8' RY
      obtain ⟨q1, q2⟩ := HQ.out _ B3.out
      go_wp2_with fail
      refine (sameInts_b _ _ _ _ _ _ [x2] [x2] _ hc6 hm6 (Nat.le_refl _) (by unfold maxLen; omega) (RO.out.below ((Below.refl _ _).alloc (Nat.le_refl _) _)) (one_ints w8 x2 _)).mono ?_
      rintro e w9 ⟨rfl, b9⟩
      rw [eqI_self]
      replace HB := Lib.hid (Below.step1 HB.out b9)
      clear q1 q2 b9
      go_wp2_with fail
      go_ret
      exact ⟨rfl, HB.out⟩
end Go.Proofs.Yteflaibcldknmaa
