/- The walk of FnWideOne. -/
import Derived.Test.YteflaibcldknmaaWide
import Derived.Test.YteflaibcldknmaaDrawT
import Derived.Test.YteflaibcldknmaaCopyW
import Derived.StillTailTactics
namespace Go.Proofs.Yteflaibcldknmaa
open Go.RowKit
set_option linter.unusedVariables false
set_option linter.unusedSimpArgs false

set_option maxRecDepth 100000 in
set_option maxHeartbeats 3200000 in
theorem fnWideOne_walk (a : Option Addr) (len cap : Nat) (zs : List Int) (a2 : Option Addr) (mlen mcap : Nat) (zs2 : List Int) (w : World) (h : IsRow .u8 w a len cap zs) (h' : IsRow .u8 w a2 mlen mcap zs2) :
    Calls Try.prog 4 #[.slice a len cap, .slice a2 mlen mcap] w fun e w' => e = .returned (.bool true) ∧ Below w.heap.size w w' := by
  obtain ⟨hc, hm⟩ := h.le
  have hm' := hm
  unfold maxLen at hm'
  obtain ⟨hc', hn⟩ := h'.le
  have hn' := hn
  unfold maxLen at hn'
  have h0 := Lib.hid h.bytes
  clear h h'
  by_cases hl : 1048576 < len
  · have d1 : decide ((1048576 : Int) < (len : Int)) = true := by simp; omega
    go_enter Try.func4, Try.ntmps4
    go_wp2_with fail
    go_ret
    exact ⟨rfl, Below.refl _ _⟩
  · have d1 : decide ((1048576 : Int) < (len : Int)) = false := by simp; omega
    by_cases hl' : 1048576 < mlen
    · have d2 : decide ((1048576 : Int) < (mlen : Int)) = true := by simp; omega
      go_enter Try.func4, Try.ntmps4
      go_wp2_with fail
      go_ret
      exact ⟨rfl, Below.refl _ _⟩
    · have d2 : decide ((1048576 : Int) < (mlen : Int)) = false := by simp; omega
      go_enter Try.func4, Try.ntmps4
      go_wp2_with fail
      refine (drawWide_any _ _ _ _ hc hm h0.out).mono ?_
      rintro e w1 ⟨g, g', n, m, c, c', L, S, rfl, n1, n5, m6, hnc, hmc, hcm, hcm', hL, hS, O1, O2, hgg, hg, hg', b1⟩
      have HL := Lib.hid hL
      have HS := Lib.hid hS
      have x3 : c ≤ 9223372036854775807 := hcm
      have x4 : c' ≤ 9223372036854775807 := hcm'
      have OL := Lib.hid O1
      have OS := Lib.hid O2
      have HB := Lib.hid b1
      clear hL hS O1 O2 b1 h0
      go_wp2_with fail
      refine (implWide_any _ _ _ _ _ _ L S _ hnc hcm hmc hcm' (OL.out.prs HL.out (fun _ _ => rfl)) (OS.out.prs HS.out (fun _ _ => rfl)) (by simp) (by simp)).mono ?_
      rintro e w2 ⟨rfl, b2⟩
      replace OL := Lib.hid (OL.out.below b2)
      replace OS := Lib.hid (OS.out.below b2)
      replace HB := Lib.hid (Below.step0 HB.out b2)
      clear b2
      go_wp2_with fail
      refine (specWide_any _ _ _ _ _ _ L S _ hnc hcm hmc hcm' (OL.out.prs HL.out (fun _ _ => rfl)) (OS.out.prs HS.out (fun _ _ => rfl))).mono ?_
      rintro e w3 ⟨rfl, b3⟩
      replace OL := Lib.hid (OL.out.below b3)
      replace OS := Lib.hid (OS.out.below b3)
      replace HB := Lib.hid (Below.step0 HB.out b3)
      clear b3
      have t1 : (wdV L S != wdV L S) = false := by simp
      by_cases hk : tkB L S = true
      rotate_left
      · rw [wdV_no (by simpa using hk)]
        clear t1 hk
        go_wp2_with fail
        go_ret
        exact ⟨rfl, HB.out⟩
      have HK := Lib.hid hk
      have WB := wide_tw hk L.length (Nat.le_refl _)
      have WE := Lib.hid (wdV_yes hk)
      have l5 : L.length ≤ 5 := by rw [HL.out]; exact n5
      have v0 : 0 ≤ wdV L S := by rw [WE.out]; omega
      have v1 : wdV L S ≤ 500000 := by rw [WE.out]; omega
      have t2 : decide (wdV L S < 0) = false := by simp; omega
      clear hk WB l5
      generalize wdV L S = wv at *
      obtain ⟨i0, hi, hz0, hz1, hz2⟩ := info_parts infoWindow
      obtain ⟨k, hk, ek, ek2⟩ := mod_ix mlen n n1
      go_wp2_with fail
      refine (implTight_any _ _ _ _ _ _ L S _ hnc hcm hmc hcm' (OL.out.prs HL.out (fun _ _ => rfl)) (OS.out.prs HS.out (fun _ _ => rfl)) (by simp) (by simp)).mono ?_
      rintro e w4 ⟨a6, n6, c6, rfl, R6, hc6, hm6, b4, y6⟩
      replace OL := Lib.hid (OL.out.below b4)
      replace OS := Lib.hid (OS.out.below b4)
      replace HB := Lib.hid (Below.step0 HB.out b4)
      have xx6 : c6 ≤ 9223372036854775807 := hm6
      obtain ⟨g2, rfl, hn6, _, o6⟩ := y6 HK.out
      rw [HL.out] at o6
      obtain rfl : n = n6 := (hn6.trans HL.out).symm
      have OT := Lib.hid o6
      rw [HK.out]
      clear R6 y6 o6 b4 hn6
      go_wp2_with (at_builtin; refine wpList_append_own _ rfl _ _ 25 rfl w4.heap.size 35 i0 (.agg #[.int .i64 0, .int .i64 0]) 2 16 Try.underlying25 hi hz0 hz1 hz2 rfl (by decide) _ _ _ rfl (copy_base w4) ⟨g, 0, none⟩ _ _ (fl L) rfl (by rw [fl_len, HL.out]) (copy_src OL.out HL.out n1) (fl_one _) (by unfold maxLen; omega) (by omega) (by simp) ?_)
      intro vx w5 oxx gxx _
      obtain ⟨gx, cx, rfl, hcx, hmx, ox5, hgx, b5⟩ := copy_open n1 HL.out oxx gxx
      clear oxx gxx
      have x7 : cx ≤ 9223372036854775807 := hmx
      have hgw : w.heap.size ≤ gx := Nat.le_trans HB.out.size hgx
      have hgs : gx ≠ g' := Nat.ne_of_gt (Nat.lt_of_lt_of_le OS.out.1 hgx)
      replace OS := Lib.hid (OS.out.below b5)
      replace OT := Lib.hid (OT.out.below b5)
      replace HB := Lib.hid (Below.step0 HB.out b5)
      have hkL : k < L.length := by rw [HL.out]; exact hk
      have TA := tk_any HK.out hkL (Int.le_refl _) ((tk_true HK.out).2 k hkL)
      have TA1 := Lib.hid TA.1
      have TW1 := tk_wider TA.1 (tk_true HK.out).1 (by rw [List.length_set]) (fun i hi => by
          rw [pr_set L k _ i hkL]
          split
          · rename_i e; subst e
            have a := tw_in (L := L) (S := S) hkL
            have b := (tk_true HK.out).2 i hkL
            dsimp only; omega
          · exact ⟨Int.le_refl _, Int.le_refl _⟩) (fun i _ => ⟨Int.le_refl _, Int.le_refl _⟩)
      have LE := wide_le (f := tw (L.set k ((tw L S L.length k).1, (tw L S L.length k).1)) S L.length) (g := tw L S L.length) (k := L.length) (fun i hi => by
          have := TW1.2 i (by rw [List.length_set]; exact hi)
          rw [List.length_set] at this
          omega)
      have V0 := wide_tw TA.1 (L.set k ((tw L S L.length k).1, (tw L S L.length k).1)).length (Nat.le_refl _)
      have VE := wdV_yes TA.1
      rw [List.length_set] at V0 VE
      have VX := Lib.hid (show 0 ≤ wdV (L.set k ((tw L S L.length k).1, (tw L S L.length k).1)) S ∧ wdV (L.set k ((tw L S L.length k).1, (tw L S L.length k).1)) S ≤ wv from by rw [VE, WE.out]; exact ⟨V0.1, LE⟩)
      rw [HL.out] at VX TA1
      obtain ⟨p1, p2, p3, p4⟩ := OT.out.2 k hk
      rw [twl_pr L S k hkL, HL.out] at p1 p2
      obtain ⟨r1, r2, r3, r4⟩ := ox5.2 k hk
      have hlx := ox5.1
      have OX := Lib.hid (show OwnF (((w5.setCell ⟨gx, k * 2, none⟩ (.int .i64 (tw L S n k).1)).setCell ⟨gx, k * 2 + 1, none⟩ (.int .i64 (tw L S n k).1)).drew) gx n (pr (L.set k ((tw L S n k).1, (tw L S n k).1))) from ox5.put HL.out k hk ((tw L S n k).1, (tw L S n k).1))
      replace OS := Lib.hid (show OwnF (((w5.setCell ⟨gx, k * 2, none⟩ (.int .i64 (tw L S n k).1)).setCell ⟨gx, k * 2 + 1, none⟩ (.int .i64 (tw L S n k).1)).drew) g' m (pr S) from (OS.out.far hgs _).far hgs _)
      replace HB := Lib.hid (show Below w.heap.size w (((w5.setCell ⟨gx, k * 2, none⟩ (.int .i64 (tw L S n k).1)).setCell ⟨gx, k * 2 + 1, none⟩ (.int .i64 (tw L S n k).1)).drew) from ((HB.out.setCell hgw _).setCell hgw _).drew)
      have i1 : (0 : Int) ≤ (k : Int) := by omega
      have i2 : (k : Int) < (n : Int) := by omega
      clear ox5 b5 TA TW1 LE V0 VE hgs OL
      go_wp2_with fail
      go_still_tail 14, (by kernel_rfl)
      change wpList _ _ _ _ _ w5.drew
      go_wp2_with fail
      refine (implWide_any _ _ _ _ _ _ (L.set k ((tw L S n k).1, (tw L S n k).1)) S (((w5.setCell ⟨gx, k * 2, none⟩ (.int .i64 (tw L S n k).1)).setCell ⟨gx, k * 2 + 1, none⟩ (.int .i64 (tw L S n k).1)).drew) hcx hmx hmc hcm' (OX.out.prs (by rw [List.length_set]; exact HL.out) (fun _ _ => rfl)) (OS.out.prs HS.out (fun _ _ => rfl)) (by simp) (by simp)).mono ?_
      rintro e w6 ⟨rfl, b6⟩
      replace HB := Lib.hid (Below.step0 HB.out b6)
      have u0 := VX.out.1
      have u1 := VX.out.2
      generalize wdV (L.set k ((tw L S n k).1, (tw L S n k).1)) S = vv at *
      have t3 : decide (0 ≤ vv) = true := by simpa using u0
      have t4 : decide (vv ≤ wv) = true := by simpa using u1
      clear b6 p1 p2 p3 p4 r1 r2 r3 r4
      go_wp2_with fail
      go_ret
      exact ⟨rfl, HB.out⟩
end Go.Proofs.Yteflaibcldknmaa
