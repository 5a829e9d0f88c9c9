/- The walk of FnTightSteps. -/
import Derived.Test.YtdojjljlegandaaTightS
import Derived.Test.YtdojjljlegandaaTightI
import Derived.Test.YtdojjljlegandaaSameW
import Derived.Test.YtdojjljlegandaaDrawT
import Derived.Test.YtdojjljlegandaaCopyW
namespace Go.Proofs.Ytdojjljlegandaa
open Go.RowKit
set_option linter.unusedVariables false
set_option linter.unusedSimpArgs false

set_option maxRecDepth 100000 in
set_option maxHeartbeats 3200000 in
theorem fnTightSteps_walk (a : Option Addr) (len cap : Nat) (zs : List Int) (a2 : Option Addr) (mlen mcap : Nat) (zs2 : List Int) (w : World) (h : IsRow .u8 w a len cap zs) (h' : IsRow .u8 w a2 mlen mcap zs2) :
    Calls Try.prog 10 #[.slice a len cap, .slice a2 mlen mcap] w fun e w' => e = .returned (.bool true) ∧ Below w.heap.size w w' := by
  obtain ⟨hc, hm⟩ := h.le
  have hm' := hm
  unfold maxLen at hm'
  obtain ⟨hc', hn⟩ := h'.le
  have hn' := hn
  unfold maxLen at hn'
  have h0 := Lib.hid h.bytes
  clear h h'
  by_cases hl : 1048576 < len
  · have d1 : decide ((1048576 : Int) < (len : Int)) = true := by simp; omega
    go_enter Try.func10, Try.ntmps10
    go_wp2_with fail
    go_ret
    exact ⟨rfl, Below.refl _ _⟩
  · have d1 : decide ((1048576 : Int) < (len : Int)) = false := by simp; omega
    by_cases hl' : 1048576 < mlen
    · have d2 : decide ((1048576 : Int) < (mlen : Int)) = true := by simp; omega
      go_enter Try.func10, Try.ntmps10
      go_wp2_with fail
      go_ret
      exact ⟨rfl, Below.refl _ _⟩
    · have d2 : decide ((1048576 : Int) < (mlen : Int)) = false := by simp; omega
      go_enter Try.func10, Try.ntmps10
      go_wp2_with fail
      refine (drawTight_any _ _ _ _ hc hm h0.out).mono ?_
      rintro e w1 ⟨g, g', n, m, c, c', L, S, rfl, n1, n5, m6, hnc, hmc, hcm, hcm', hL, hS, O1, O2, hgg, hg, hg', b1⟩
      have HL := Lib.hid hL
      have HS := Lib.hid hS
      have x3 : c ≤ 9223372036854775807 := hcm
      have x4 : c' ≤ 9223372036854775807 := hcm'
      have OL := Lib.hid O1
      have OS := Lib.hid O2
      have HB := Lib.hid b1
      clear hL hS O1 O2 b1 h0
      go_wp2_with fail
      refine (implTight_any _ _ _ _ _ _ L S _ hnc hcm hmc hcm' (OL.out.prs HL.out (fun _ _ => rfl)) (OS.out.prs HS.out (fun _ _ => rfl)) (by simp) (by simp)).mono ?_
      rintro e w2 ⟨a3, n3, c3, rfl, R2, hc3, hm3, b2, y2⟩
      replace OL := Lib.hid (OL.out.below b2)
      replace OS := Lib.hid (OS.out.below b2)
      replace HB := Lib.hid (Below.step0 HB.out b2)
      have HR := Lib.hid R2
      have HY := Lib.hid y2
      clear R2 b2 y2
      go_wp2_with fail
      refine (specTight_any _ _ _ _ _ _ L S _ hnc hcm hmc hcm' (OL.out.prs HL.out (fun _ _ => rfl)) (OS.out.prs HS.out (fun _ _ => rfl))).mono ?_
      rintro e w3 ⟨a4, n4, c4, rfl, R3, hc4, hm4, b3, y3⟩
      replace OL := Lib.hid (OL.out.below b3)
      replace OS := Lib.hid (OS.out.below b3)
      replace HB := Lib.hid (Below.step0 HB.out b3)
      replace HR := Lib.hid (HR.out.below b3)
      replace HY := Lib.hid (fun (q : tkB L S = true) => (HY.out q).imp fun g2 (z : _ ∧ _ ∧ _ ∧ _) => And.intro z.1 (And.intro z.2.1 (z.2.2.2.below b3)))
      have HR3 := Lib.hid R3
      clear R3 b3 y3
      have t1 : (tkB L S != tkB L S) = false := by simp
      go_wp2_with fail
      refine (sameWindows_b _ _ _ _ _ _ (tRes L S) (tRes L S) _ hc3 hm3 hc4 hm4 HR.out HR3.out).mono ?_
      rintro e w4 ⟨rfl, b4⟩
      rw [eqL_self]
      replace OL := Lib.hid (OL.out.below b4)
      replace OS := Lib.hid (OS.out.below b4)
      replace HB := Lib.hid (Below.step0 HB.out b4)
      replace HR := Lib.hid (HR.out.below b4)
      replace HR3 := Lib.hid (HR3.out.below b4)
      replace HY := Lib.hid (fun (q : tkB L S = true) => (HY.out q).imp fun g2 (z : _ ∧ _ ∧ _) => And.intro z.1 (And.intro z.2.1 (z.2.2.below b4)))
      clear b4
      by_cases hok : tkB L S = true
      rotate_left
      · have hok' : tkB L S = false := by simpa using hok
        rw [hok']
        clear t1 hok hok'
        go_wp2_with fail
        refine (sameWindows_b _ _ _ _ _ _ (tRes L S) (tRes L S) _ hc3 hm3 hc4 hm4 HR.out HR3.out).mono ?_
        rintro e w5 ⟨rfl, b5⟩
        rw [eqL_self]
        replace HB := Lib.hid (Below.step0 HB.out b5)
        clear b5
        go_wp2_with fail
        go_ret
        exact ⟨rfl, HB.out⟩
      rw [hok]
      obtain ⟨g2, rfl, hn3, ot⟩ := HY.out hok
      obtain rfl : n = n3 := (hn3.trans HL.out).symm
      have x5 : c3 ≤ 9223372036854775807 := hm3
      have OT := Lib.hid (show OwnF w4 g2 n (pr (twl L S)) by rw [← HL.out]; exact ot)
      have HK := Lib.hid hok
      have OT0 := OT
      have OS0 := OS
      clear t1 ot hok HR HR3 HY hn3
      obtain ⟨i0, hi, hz0, hz1, hz2⟩ := info_parts infoWindow
      have W := wd_true (tk_true HK.out).1
      by_cases hm0 : m = 0
      · subst hm0
        have hL1 : L.length = 1 := by have := HS.out; omega
        have E := Lib.hid (twl_one (S := S) hL1)
        clear W hL1
        go_wp2_with fail
        refine (sameWindows_b _ _ _ _ _ _ (twl L S) L _ hc3 hm3 hnc hcm (OT.out.prs (by rw [twl_len, HL.out]) (fun _ _ => rfl)) (OL.out.prs HL.out (fun _ _ => rfl))).mono ?_
        rintro e w5 ⟨rfl, b5⟩
        rw [eqL_yes E.out]
        replace HB := Lib.hid (Below.step0 HB.out b5)
        clear b5
        go_wp2_with fail
        go_ret
        exact ⟨rfl, HB.out⟩
      have m1 : 1 ≤ m := by omega
      have tm : ((m : Int) == 0) = false := by simp; omega
      obtain ⟨k, hk, ek, ek2⟩ := mod_ix mlen m m1
      have hmn : m + 1 ≤ n := by have := HS.out; have := HL.out; omega
      clear W
      go_wp2_with (at_builtin; refine wpList_append_own _ rfl _ _ 25 rfl w4.heap.size 32 i0 (.agg #[.int .i64 0, .int .i64 0]) 2 16 Try.underlying25 hi hz0 hz1 hz2 rfl (by decide) _ _ _ rfl (copy_base w4) ⟨g', 0, none⟩ _ _ (fl S) rfl (by rw [fl_len, HS.out]) (copy_src OS.out HS.out m1) (fl_one _) (by unfold maxLen; omega) (by omega) (by simp) ?_)
      intro vx w5 oxx gxx _
      obtain ⟨gx, cx, rfl, hcx, hmx, ox5, hgx, b5⟩ := copy_open m1 HS.out oxx gxx
      clear oxx gxx
      have x6 : cx ≤ 9223372036854775807 := hmx
      have hgw : w.heap.size ≤ gx := Nat.le_trans HB.out.size hgx
      have hgt : gx ≠ g2 := Nat.ne_of_gt (Nat.lt_of_lt_of_le OT.out.1 hgx)
      have hgl : gx ≠ g := Nat.ne_of_gt (Nat.lt_of_lt_of_le OL.out.1 hgx)
      replace OL := Lib.hid (OL.out.below b5)
      replace OT := Lib.hid (OT.out.below b5)
      replace HB := Lib.hid (Below.step0 HB.out b5)
      obtain ⟨r1, r2, r3, r4⟩ := ox5.2 k hk
      have hlx := ox5.1
      have OX := Lib.hid (ox5.put HS.out k hk (0, 100000))
      replace OL := Lib.hid ((OL.out.far (p := ⟨gx, k * 2, none⟩) hgl (.int .i64 0)).far (p := ⟨gx, k * 2 + 1, none⟩) hgl (.int .i64 100000))
      replace OT := Lib.hid ((OT.out.far (p := ⟨gx, k * 2, none⟩) hgt (.int .i64 0)).far (p := ⟨gx, k * 2 + 1, none⟩) hgt (.int .i64 100000))
      replace HB := Lib.hid ((HB.out.setCell (p := ⟨gx, k * 2, none⟩) hgw (.int .i64 0)).setCell (p := ⟨gx, k * 2 + 1, none⟩) hgw (.int .i64 100000))
      have HSX := Lib.hid (show (S.set k (0, 100000)).length = m by rw [List.length_set]; exact HS.out)
      have i1 : (0 : Int) ≤ (k : Int) := by omega
      have i2 : (k : Int) < (m : Int) := by omega
      clear ox5 b5 OS OT0 OS0 hgt hgl
      go_wp2_with fail
      refine (implTight_any _ _ _ _ _ _ L (S.set k (0, 100000)) _ hnc hcm hcx hmx (OL.out.prs HL.out (fun _ _ => rfl)) (OX.out.prs HSX.out (fun _ _ => rfl)) (by simp) (by simp)).mono ?_
      rintro e w6 ⟨a6, n6, c6, rfl, R6, hc6, hm6, b6, y6⟩
      have x7 : c6 ≤ 9223372036854775807 := hm6
      have TK := tk_wider HK.out (wd_setS (tk_true HK.out).1 (k := k) (x := (0, 100000)) (by rw [HS.out]; exact hk) (rg_mk (Int.le_refl _) (by decide) (by decide))) rfl (fun i _ => ⟨Int.le_refl _, Int.le_refl _⟩) (fun i hi => by
        rw [pr_set S k _ i (by rw [HS.out]; exact hk)]
        split
        · rename_i e; subst e
          have := wd_prS (tk_true HK.out).1 (k := i) (by rw [HS.out]; exact hk)
          dsimp only; omega
        · omega)
      obtain ⟨gy, rfl, hn6, _, oy⟩ := y6 TK.1
      obtain rfl : n = n6 := (hn6.trans HL.out).symm
      have OY := Lib.hid (show OwnF w6 gy n (pr (twl L (S.set k (0, 100000)))) by rw [← HL.out]; exact oy)
      replace OT := Lib.hid (OT.out.below b6)
      replace HB := Lib.hid (Below.step0 HB.out b6)
      have TKB := Lib.hid TK.2
      rw [TK.1]
      clear TK y6 oy R6 b6 hn6 r1 r2 r3 r4 OL OX
      go_wp2_with fail
      go_loopw [14] (fun i wr => ∃ k : Nat, i = .int .i64 k ∧ k ≤ n ∧ ∃ q, wr = w6.drewN q) (fun i _ => n - (intOf i).toNat)
      case atStart => exact ⟨0, rfl, Nat.zero_le _, 0, rfl⟩
      case round =>
        obtain ⟨i, rfl, hki, q, rfl⟩ := hrel
        by_cases hlt : i < n
        · obtain ⟨q1, q2, q3, q4⟩ := OY.out.2 i hlt
          obtain ⟨p1, p2, p3, p4⟩ := OT.out.2 i (Nat.lt_of_lt_of_le hlt (Nat.le_refl _))
          rw [twl_pr L S i (by rw [HL.out]; exact Nat.lt_of_lt_of_le hlt (Nat.le_refl _))] at p1 p2
          rw [twl_pr L (S.set k (0, 100000)) i (by rw [HL.out]; exact hlt)] at q1 q2
          have F := TKB.out i (by rw [HL.out]; exact hlt)
          rw [HL.out] at q1 q2
          rw [HL.out] at p1 p2 F
          generalize (tw L S n i).1 = x1 at *
          generalize (tw L S n i).2 = x2 at *
          generalize (tw (L) ((S.set k (0, 100000))) n i).1 = y1 at *
          generalize (tw (L) ((S.set k (0, 100000))) n i).2 = y2 at *
          have i0 : (0 : Int) ≤ (i : Int) := by omega
          have i1 : (i : Int) < (n : Int) := by omega
          have i2 : (i : Int) < (n : Int) := by omega
          have t1 : decide (x1 < y1) = false := by simp; omega
          have t2 : decide (y2 < x2) = false := by simp; omega
          clear F
          go_wp2_with fail
          go_quiet (fail)
          go_wp2_with fail
          go_roundw
          case rel => exact ⟨i + 1, by go_num, by omega, q + nq, rfl⟩
          case measure => simp [intOf] <;> omega
        · go_wp2_with fail
          go_ret
          exact ⟨rfl, below_drewN HB.out q⟩
end Go.Proofs.Ytdojjljlegandaa
