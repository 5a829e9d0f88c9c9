/- The walk of FnYoungOld. -/
import Derived.Test.YteflaibcldknmaaWide
import Derived.Test.YteflaibcldknmaaYoung
import Derived.Test.YteflaibcldknmaaDrawT
namespace Go.Proofs.Yteflaibcldknmaa
open Go.RowKit
set_option linter.unusedVariables false
set_option linter.unusedSimpArgs false

theorem yo_eq {L S : List (Int × Int)} (h : tkB L S = true) : (wdV L S == 0) = eqI (od L S) (yg L S) := by
  have hz := wide_zero (f := tw L S L.length) (k := L.length) (fun i hi => (tk_true h).2 i hi)
  rw [wdV_yes h]
  unfold eqI
  rw [Bool.eq_iff_iff]
  simp only [beq_iff_eq, decide_eq_true_eq]
  rw [hz]
  constructor
  · intro q
    refine ints_ext (by rw [od_len, yg_len]) (fun j hj => ?_)
    rw [od_len] at hj
    rw [od_it L S j hj, yg_it L S j hj, q j hj]
  · intro q i hi
    rw [← od_it L S i hi, ← yg_it L S i hi, q]

set_option maxRecDepth 100000 in
set_option maxHeartbeats 3200000 in
theorem fnYoungOld_walk (a : Option Addr) (len cap : Nat) (zs : List Int) (w : World) (h : IsRow .u8 w a len cap zs) :
    Calls Try.prog 7 #[.slice a len cap] w fun e w' => e = .returned (.bool true) ∧ Below w.heap.size w w' := by
  obtain ⟨hc, hm⟩ := h.le
  have hm' := hm
  unfold maxLen at hm'
  have h0 := Lib.hid h.bytes
  clear h
  by_cases hl : 1048576 < len
  · go_enter Try.func7, Try.ntmps7
    go_wp2_with fail
    go_ret
    exact ⟨rfl, Below.refl _ _⟩
  · go_enter Try.func7, Try.ntmps7
    go_wp2_with fail
    refine (drawYoung_any _ _ _ _ hc hm h0.out).mono ?_
    rintro e w1 ⟨g, g', n, m, c, c', L, S, rfl, n1, n5, m6, hnc, hmc, hcm, hcm', hL, hS, O1, O2, hgg, hg, hg', b1⟩
    have HL := Lib.hid hL
    have HS := Lib.hid hS
    have x3 : c ≤ 9223372036854775807 := hcm
    have x4 : c' ≤ 9223372036854775807 := hcm'
    have OL := Lib.hid O1
    have OS := Lib.hid O2
    have HB := Lib.hid b1
    clear hL hS O1 O2 b1 h0
    go_wp2_with fail
    refine (implYoung_any _ _ _ _ _ _ L S _ hnc hcm hmc hcm' (OL.out.prs HL.out (fun _ _ => rfl)) (OS.out.prs HS.out (fun _ _ => rfl)) (by simp) (by simp)).mono ?_
    rintro e w2 ⟨a3, n3, c3, rfl, R2, hc3, hm3, b2, y2⟩
    replace OL := Lib.hid (OL.out.below b2)
    replace OS := Lib.hid (OS.out.below b2)
    replace HB := Lib.hid (Below.step0 HB.out b2)
    have HR := Lib.hid R2
    have HY := Lib.hid y2
    clear R2 b2 y2
    go_wp2_with fail
    refine (specYoung_any _ _ _ _ _ _ L S _ hnc hcm hmc hcm' (OL.out.prs HL.out (fun _ _ => rfl)) (OS.out.prs HS.out (fun _ _ => rfl))).mono ?_
    rintro e w3 ⟨a4, n4, c4, rfl, R3, hc4, hm4, b3, y3⟩
    replace OL := Lib.hid (OL.out.below b3)
    replace OS := Lib.hid (OS.out.below b3)
    replace HB := Lib.hid (Below.step0 HB.out b3)
    replace HR := Lib.hid (HR.out.below b3)
    replace HY := Lib.hid (fun (q : tkB L S = true) => (HY.out q).imp fun g2 (z : _ ∧ _ ∧ _ ∧ _) => And.intro z.1 (And.intro z.2.1 (z.2.2.2.below b3)))
    have HR3 := Lib.hid R3
    clear R3 b3 y3
    have t1 : (tkB L S != tkB L S) = false := by simp
    go_wp2_with fail
    refine (sameInts_b _ _ _ _ _ _ (yRes L S) (yRes L S) _ hc3 hm3 hc4 hm4 HR.out HR3.out).mono ?_
    rintro e w4 ⟨rfl, b4⟩
    rw [eqI_self]
    replace OL := Lib.hid (OL.out.below b4)
    replace OS := Lib.hid (OS.out.below b4)
    replace HB := Lib.hid (Below.step0 HB.out b4)
    replace HR := Lib.hid (HR.out.below b4)
    replace HR3 := Lib.hid (HR3.out.below b4)
    replace HY := Lib.hid (fun (q : tkB L S = true) => (HY.out q).imp fun g2 (z : _ ∧ _ ∧ _) => And.intro z.1 (And.intro z.2.1 (z.2.2.below b4)))
    clear b4
    by_cases hok : tkB L S = true
    rotate_left
    · have hok' : tkB L S = false := by simpa using hok
      rw [hok']
      clear t1 hok hok'
      go_wp2_with fail
      refine (sameInts_b _ _ _ _ _ _ (yRes L S) (yRes L S) _ hc3 hm3 hc4 hm4 HR.out HR3.out).mono ?_
      rintro e w5 ⟨rfl, b5⟩
      rw [eqI_self]
      replace HB := Lib.hid (Below.step0 HB.out b5)
      clear b5
      go_wp2_with fail
      go_ret
      exact ⟨rfl, HB.out⟩
    rw [hok]
    obtain ⟨g2, rfl, hn3, ot⟩ := HY.out hok
    obtain rfl : n = n3 := (hn3.trans HL.out).symm
    have x5 : c3 ≤ 9223372036854775807 := hm3
    rw [HL.out, yRes_yes hok] at ot
    have OT := Lib.hid ot
    have HK := Lib.hid hok
    have OT0 := OT
    have OS0 := OS
    clear t1 ot hok HR HR3 HY hn3
    go_wp2_with fail
    refine (implOld_any _ _ _ _ _ _ L S _ hnc hcm hmc hcm' (OL.out.prs HL.out (fun _ _ => rfl)) (OS.out.prs HS.out (fun _ _ => rfl)) (by simp) (by simp)).mono ?_
    rintro e w7 ⟨a7, n7, c7, rfl, R7, hc7, hm7, b7, y7⟩
    replace OL := Lib.hid (OL.out.below b7)
    replace OS := Lib.hid (OS.out.below b7)
    replace OT := Lib.hid (OT.out.below b7)
    replace HB := Lib.hid (Below.step0 HB.out b7)
    have xx7 : c7 ≤ 9223372036854775807 := hm7
    obtain ⟨go, rfl, hn7, _, o7⟩ := y7 HK.out
    rw [HL.out] at o7
    obtain rfl : n = n7 := (hn7.trans HL.out).symm
    rw [oRes_yes HK.out] at o7
    have OO := Lib.hid o7
    rw [HK.out]
    clear R7 y7 o7 b7 hn7
    clear OT0 OS0
    go_wp2_with fail
    go_loopw [11] (fun i wr => ∃ k : Nat, i = .int .i64 k ∧ k ≤ n ∧ ∃ q, wr = w7.drewN q) (fun i _ => n - (intOf i).toNat)
    case atStart => exact ⟨0, rfl, Nat.zero_le _, 0, rfl⟩
    case round =>
      obtain ⟨i, rfl, hki, q, rfl⟩ := hrel
      by_cases hlt : i < n
      · have hiL : i < L.length := by rw [HL.out]; exact hlt
        obtain ⟨p1, p2⟩ := OT.out.2 i hlt
        obtain ⟨r1, r2⟩ := OO.out.2 i hlt
        rw [yg_it L S i hiL] at p1
        rw [od_it L S i hiL] at r1
        have F := (tk_true HK.out).2 i hiL
        generalize (tw L S L.length i).1 = x1 at *
        generalize (tw L S L.length i).2 = x2 at *
        have i0 : (0 : Int) ≤ (i : Int) := by omega
        have i1 : (i : Int) < (n : Int) := by omega
        have t1 : decide (x2 < x1) = false := by simp; omega
        clear F hiL
        go_wp2_with fail
        go_quiet (fail)
        go_wp2_with fail
        go_roundw
        case rel => exact ⟨i + 1, by go_num, by omega, q + nq, rfl⟩
        case measure => simp [intOf] <;> omega
      · have D7 := Lib.hid (below_drewN (Below.refl w7.heap.size w7) q)
        replace OL := Lib.hid (OL.out.below D7.out)
        replace OS := Lib.hid (OS.out.below D7.out)
        replace OT := Lib.hid (OT.out.below D7.out)
        replace OO := Lib.hid (OO.out.below D7.out)
        replace HB := Lib.hid (below_drewN HB.out q)
        clear D7
        have HYL := Lib.hid (show (yg L S).length = n by rw [yg_len]; exact HL.out)
        have HOL := Lib.hid (show (od L S).length = n by rw [od_len]; exact HL.out)
        have EQ := Lib.hid (yo_eq HK.out)
        go_wp2_with fail
        refine (implWide_any _ _ _ _ _ _ L S _ hnc hcm hmc hcm' (OL.out.prs HL.out (fun _ _ => rfl)) (OS.out.prs HS.out (fun _ _ => rfl)) (by simp) (by simp)).mono ?_
        rintro e w8 ⟨rfl, b8⟩
        replace OT := Lib.hid (OT.out.below b8)
        replace OO := Lib.hid (OO.out.below b8)
        replace HB := Lib.hid (Below.step0 HB.out b8)
        clear b8 OL OS
        go_wp2_with fail
        refine (sameInts_b _ _ _ _ _ _ (od L S) (yg L S) _ hc7 hm7 hc3 hm3 (OO.out.ints HOL.out (fun _ _ => rfl)) (OT.out.ints HYL.out (fun _ _ => rfl))).mono ?_
        rintro e w9 ⟨rfl, b9⟩
        replace HB := Lib.hid (Below.step0 HB.out b9)
        rw [← EQ.out]
        clear b9
        go_wp2_with fail
        go_ret
        exact ⟨by simp, HB.out⟩
end Go.Proofs.Yteflaibcldknmaa
