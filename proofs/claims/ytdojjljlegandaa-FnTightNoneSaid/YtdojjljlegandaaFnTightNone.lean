/- The walk of FnTightNone. -/
import Derived.Test.YtdojjljlegandaaTightS
import Derived.Test.YtdojjljlegandaaTightI
import Derived.Test.YtdojjljlegandaaSameW
import Derived.Test.YtdojjljlegandaaDrawT
import Derived.Test.YtdojjljlegandaaCopyW
namespace Go.Proofs.Ytdojjljlegandaa
open Go.RowKit
set_option linter.unusedVariables false
set_option linter.unusedSimpArgs false

set_option maxRecDepth 100000 in
set_option maxHeartbeats 3200000 in
theorem fnTightNone_walk (a : Option Addr) (len cap : Nat) (zs : List Int) (a2 : Option Addr) (mlen mcap : Nat) (zs2 : List Int) (w : World) (h : IsRow .u8 w a len cap zs) (h' : IsRow .u8 w a2 mlen mcap zs2) :
    Calls Try.prog 8 #[.slice a len cap, .slice a2 mlen mcap] w fun e w' => e = .returned (.bool true) ∧ Below w.heap.size w w' := by
  obtain ⟨hc, hm⟩ := h.le
  have hm' := hm
  unfold maxLen at hm'
  obtain ⟨hc', hn⟩ := h'.le
  have hn' := hn
  unfold maxLen at hn'
  have h0 := Lib.hid h.bytes
  clear h h'
  by_cases hl : 1048576 < len
  · have d1 : decide ((1048576 : Int) < (len : Int)) = true := by simp; omega
    go_enter Try.func8, Try.ntmps8
    go_wp2_with fail
    go_ret
    exact ⟨rfl, Below.refl _ _⟩
  · have d1 : decide ((1048576 : Int) < (len : Int)) = false := by simp; omega
    by_cases hl' : 1048576 < mlen
    · have d2 : decide ((1048576 : Int) < (mlen : Int)) = true := by simp; omega
      go_enter Try.func8, Try.ntmps8
      go_wp2_with fail
      go_ret
      exact ⟨rfl, Below.refl _ _⟩
    · have d2 : decide ((1048576 : Int) < (mlen : Int)) = false := by simp; omega
      go_enter Try.func8, Try.ntmps8
      go_wp2_with fail
      refine (drawTight_any _ _ _ _ hc hm h0.out).mono ?_
      rintro e w1 ⟨g, g', n, m, c, c', L, S, rfl, n1, n5, m6, hnc, hmc, hcm, hcm', hL, hS, O1, O2, hgg, hg, hg', b1⟩
      have HL := Lib.hid hL
      have HS := Lib.hid hS
      have x3 : c ≤ 9223372036854775807 := hcm
      have x4 : c' ≤ 9223372036854775807 := hcm'
      have OL := Lib.hid O1
      have OS := Lib.hid O2
      have HB := Lib.hid b1
      clear hL hS O1 O2 b1 h0
      go_wp2_with fail
      refine (implTight_any _ _ _ _ _ _ L S _ hnc hcm hmc hcm' (OL.out.prs HL.out (fun _ _ => rfl)) (OS.out.prs HS.out (fun _ _ => rfl)) (by simp) (by simp)).mono ?_
      rintro e w2 ⟨a3, n3, c3, rfl, R2, hc3, hm3, b2, y2⟩
      replace OL := Lib.hid (OL.out.below b2)
      replace OS := Lib.hid (OS.out.below b2)
      replace HB := Lib.hid (Below.step0 HB.out b2)
      have HR := Lib.hid R2
      have HY := Lib.hid y2
      clear R2 b2 y2
      go_wp2_with fail
      refine (specTight_any _ _ _ _ _ _ L S _ hnc hcm hmc hcm' (OL.out.prs HL.out (fun _ _ => rfl)) (OS.out.prs HS.out (fun _ _ => rfl))).mono ?_
      rintro e w3 ⟨a4, n4, c4, rfl, R3, hc4, hm4, b3, y3⟩
      replace OL := Lib.hid (OL.out.below b3)
      replace OS := Lib.hid (OS.out.below b3)
      replace HB := Lib.hid (Below.step0 HB.out b3)
      replace HR := Lib.hid (HR.out.below b3)
      replace HY := Lib.hid (fun (q : tkB L S = true) => (HY.out q).imp fun g2 (z : _ ∧ _ ∧ _ ∧ _) => And.intro z.1 (And.intro z.2.1 (z.2.2.2.below b3)))
      have HR3 := Lib.hid R3
      clear R3 b3 y3
      have t1 : (tkB L S != tkB L S) = false := by simp
      go_wp2_with fail
      refine (sameWindows_b _ _ _ _ _ _ (tRes L S) (tRes L S) _ hc3 hm3 hc4 hm4 HR.out HR3.out).mono ?_
      rintro e w4 ⟨rfl, b4⟩
      rw [eqL_self]
      replace OL := Lib.hid (OL.out.below b4)
      replace OS := Lib.hid (OS.out.below b4)
      replace HB := Lib.hid (Below.step0 HB.out b4)
      replace HR := Lib.hid (HR.out.below b4)
      replace HR3 := Lib.hid (HR3.out.below b4)
      replace HY := Lib.hid (fun (q : tkB L S = true) => (HY.out q).imp fun g2 (z : _ ∧ _ ∧ _) => And.intro z.1 (And.intro z.2.1 (z.2.2.below b4)))
      clear b4
      by_cases hok : tkB L S = true
      rotate_left
      · have hok' : tkB L S = false := by simpa using hok
        rw [hok']
        clear t1 hok hok'
        go_wp2_with fail
        refine (sameWindows_b _ _ _ _ _ _ (tRes L S) (tRes L S) _ hc3 hm3 hc4 hm4 HR.out HR3.out).mono ?_
        rintro e w5 ⟨rfl, b5⟩
        rw [eqL_self]
        replace HB := Lib.hid (Below.step0 HB.out b5)
        clear b5
        go_wp2_with fail
        go_ret
        exact ⟨rfl, HB.out⟩
      rw [hok]
      obtain ⟨g2, rfl, hn3, ot⟩ := HY.out hok
      obtain rfl : n = n3 := (hn3.trans HL.out).symm
      have x5 : c3 ≤ 9223372036854775807 := hm3
      have OT := Lib.hid (show OwnF w4 g2 n (pr (twl L S)) by rw [← HL.out]; exact ot)
      have HK := Lib.hid hok
      have OT0 := OT
      have OS0 := OS
      clear t1 ot hok HR HR3 HY hn3
      obtain ⟨i0, hi, hz0, hz1, hz2⟩ := info_parts infoWindow
      obtain ⟨k, hk, ek, ek2⟩ := mod_ix mlen n n1
      go_wp2_with (at_builtin; refine wpList_append_own _ rfl _ _ 25 rfl w4.heap.size 32 i0 (.agg #[.int .i64 0, .int .i64 0]) 2 16 Try.underlying25 hi hz0 hz1 hz2 rfl (by decide) _ _ _ rfl (copy_base w4) ⟨g, 0, none⟩ _ _ (fl L) rfl (by rw [fl_len, HL.out]) (copy_src OL.out HL.out n1) (fl_one _) (by unfold maxLen; omega) (by omega) (by simp) ?_)
      intro vx w5 oxx gxx _
      obtain ⟨gx, cx, rfl, hcx, hmx, ox5, hgx, b5⟩ := copy_open n1 HL.out oxx gxx
      clear oxx gxx
      have x6 : cx ≤ 9223372036854775807 := hmx
      have hgw : w.heap.size ≤ gx := Nat.le_trans HB.out.size hgx
      have hgt : gx ≠ g2 := Nat.ne_of_gt (Nat.lt_of_lt_of_le OT.out.1 hgx)
      have hgs : gx ≠ g' := Nat.ne_of_gt (Nat.lt_of_lt_of_le OS.out.1 hgx)
      have hgl : gx ≠ g := Nat.ne_of_gt (Nat.lt_of_lt_of_le OL.out.1 hgx)
      replace OL := Lib.hid (OL.out.below b5)
      replace OS := Lib.hid (OS.out.below b5)
      replace OT := Lib.hid (OT.out.below b5)
      replace HB := Lib.hid (Below.step0 HB.out b5)
      have hkL : k < L.length := by rw [HL.out]; exact hk
      have Z := wd_pr (tk_true HK.out).1 hkL
      have F := tw_in (L := L) (S := S) hkL
      have G := (tk_true HK.out).2 k hkL
      have BD := tw_bd (tk_true HK.out).1 k hkL
      have NX := Lib.hid (tk_none (L := L) (S := S) (k := k) (x := ((pr L k).1, (tw L S L.length k).1 - 1)) hkL (Int.le_refl _) (by dsimp only; omega) (.inl (by dsimp only; omega)))
      have NY := Lib.hid (tk_none (L := L) (S := S) (k := k) (x := ((tw L S L.length k).2 + 1, (pr L k).2)) hkL (by dsimp only; omega) (Int.le_refl _) (.inr (by dsimp only; omega)))
      rw [HL.out] at F G BD NX NY
      obtain ⟨q1, q2, q3, q4⟩ := OL.out.2 k hk
      obtain ⟨p1, p2, p3, p4⟩ := OT.out.2 k hk
      rw [twl_pr L S k hkL, HL.out] at p1 p2
      obtain ⟨r1, r2, r3, r4⟩ := ox5.2 k hk
      have hlx := ox5.1
      have OX := Lib.hid (show OwnF ((w5.setCell ⟨gx, k * 2, none⟩ (.int .i64 (pr L k).1)).setCell ⟨gx, k * 2 + 1, none⟩ (.int .i64 ((tw L S n k).1 - 1))) gx n (pr (L.set k ((pr L k).1, (tw L S n k).1 - 1))) from ox5.put HL.out k hk ((pr L k).1, (tw L S n k).1 - 1))
      have OL2 := Lib.hid (show OwnF ((w5.setCell ⟨gx, k * 2, none⟩ (.int .i64 (pr L k).1)).setCell ⟨gx, k * 2 + 1, none⟩ (.int .i64 ((tw L S n k).1 - 1))) g n (pr L) from (OL.out.far hgl _).far hgl _)
      have OS2 := Lib.hid (show OwnF ((w5.setCell ⟨gx, k * 2, none⟩ (.int .i64 (pr L k).1)).setCell ⟨gx, k * 2 + 1, none⟩ (.int .i64 ((tw L S n k).1 - 1))) g' m (pr S) from (OS.out.far hgs _).far hgs _)
      have OT2 := Lib.hid (show OwnF ((w5.setCell ⟨gx, k * 2, none⟩ (.int .i64 (pr L k).1)).setCell ⟨gx, k * 2 + 1, none⟩ (.int .i64 ((tw L S n k).1 - 1))) g2 n (pr (twl L S)) from (OT.out.far hgt _).far hgt _)
      have HB2 := Lib.hid (show Below w.heap.size w ((w5.setCell ⟨gx, k * 2, none⟩ (.int .i64 (pr L k).1)).setCell ⟨gx, k * 2 + 1, none⟩ (.int .i64 ((tw L S n k).1 - 1))) from ((HB.out.setCell hgw _).setCell hgw _))
      have HZ2 : ((w5.setCell ⟨gx, k * 2, none⟩ (.int .i64 (pr L k).1)).setCell ⟨gx, k * 2 + 1, none⟩ (.int .i64 ((tw L S n k).1 - 1))).heap.size = w5.heap.size := by show ((w5.setCell _ _).setCell _ _).heap.size = _; simp [World.setCell]
      have HZ2 := Lib.hid HZ2
      have a1 : IntKind.i64.wrap ((tw L S n k).1 - 1) = (tw L S n k).1 - 1 := IntWalk.i64_in _ (by omega)
      have a2 : IntKind.i64.wrap ((tw L S n k).2 + 1) = (tw L S n k).2 + 1 := IntWalk.i64_in _ (by omega)
      have i1 : (0 : Int) ≤ (k : Int) := by omega
      have i2 : (k : Int) < (n : Int) := by omega
      clear Z F G BD ox5 b5 hkL OT0 OS0 OL OS OT HB ek2
      go_wp2_with fail
      go_still_tail 15, (by kernel_rfl)
      change wpList _ _ _ _ _ w5.drew
      go_wp2_with (at_builtin; refine wpList_append_own _ rfl _ _ 25 rfl w5.heap.size 32 i0 (.agg #[.int .i64 0, .int .i64 0]) 2 16 Try.underlying25 hi hz0 hz1 hz2 rfl (by decide) _ _ _ rfl (copy_base3 _ _ HZ2.out) ⟨g, 0, none⟩ _ _ (fl L) rfl (by rw [fl_len, HL.out]) (copy_src3 OL2.out HL.out n1) (fl_one _) (by unfold maxLen; omega) (by omega) (by show _ ≤ (((w5.setCell ⟨gx, k * 2, none⟩ (.int .i64 (pr L k).1)).setCell ⟨gx, k * 2 + 1, none⟩ (.int .i64 ((tw L S n k).1 - 1))).alloc _).heap.size; rw [World.size_alloc, HZ2.out]; omega) ?_)
      intro vx w6 oxx gxx _
      obtain ⟨gy, cy, rfl, hcy, hmy, oy6, hgy, b6⟩ := copy_open3 HZ2.out n1 HL.out oxx gxx
      clear oxx gxx
      have x7 : cy ≤ 9223372036854775807 := hmy
      have hgwy : w.heap.size ≤ gy := by have := HB2.out.size; have := HZ2.out; omega
      have b6' : Below ((w5.setCell ⟨gx, k * 2, none⟩ (.int .i64 (pr L k).1)).setCell ⟨gx, k * 2 + 1, none⟩ (.int .i64 ((tw L S n k).1 - 1))).heap.size ((w5.setCell ⟨gx, k * 2, none⟩ (.int .i64 (pr L k).1)).setCell ⟨gx, k * 2 + 1, none⟩ (.int .i64 ((tw L S n k).1 - 1))) w6 := by rw [HZ2.out]; exact b6
      have hzz := HZ2.out
      have hgty : gy ≠ g2 := by have := OT2.out.1; omega
      have hgsy : gy ≠ g' := by have := OS2.out.1; omega
      have hgly : gy ≠ g := by have := OL2.out.1; omega
      have hgxy : gy ≠ gx := by have := OX.out.1; omega
      replace OX := Lib.hid (OX.out.below b6')
      replace OL2 := Lib.hid (OL2.out.below b6')
      replace OS2 := Lib.hid (OS2.out.below b6')
      replace OT2 := Lib.hid (OT2.out.below b6')
      replace HB2 := Lib.hid (Below.step0 HB2.out b6')
      clear hzz b6 b6' HZ2 q1 q2 q3 q4 p1 p2 p3 p4 r1 r2 r3 r4
      obtain ⟨q1, q2, q3, q4⟩ := OL2.out.2 k hk
      obtain ⟨p1, p2, p3, p4⟩ := OT2.out.2 k hk
      rw [twl_pr L S k (by rw [HL.out]; exact hk), HL.out] at p1 p2
      obtain ⟨r1, r2, r3, r4⟩ := oy6.2 k hk
      have hly := oy6.1
      have OY := Lib.hid (show OwnF ((w6.setCell ⟨gy, k * 2, none⟩ (.int .i64 ((tw L S n k).2 + 1))).setCell ⟨gy, k * 2 + 1, none⟩ (.int .i64 (pr L k).2)).drew gy n (pr (L.set k ((tw L S n k).2 + 1, (pr L k).2))) from oy6.put HL.out k hk ((tw L S n k).2 + 1, (pr L k).2))
      replace OX := Lib.hid (show OwnF ((w6.setCell ⟨gy, k * 2, none⟩ (.int .i64 ((tw L S n k).2 + 1))).setCell ⟨gy, k * 2 + 1, none⟩ (.int .i64 (pr L k).2)).drew gx n (pr (L.set k ((pr L k).1, (tw L S n k).1 - 1))) from (OX.out.far hgxy _).far hgxy _)
      replace OS2 := Lib.hid (show OwnF ((w6.setCell ⟨gy, k * 2, none⟩ (.int .i64 ((tw L S n k).2 + 1))).setCell ⟨gy, k * 2 + 1, none⟩ (.int .i64 (pr L k).2)).drew g' m (pr S) from (OS2.out.far hgsy _).far hgsy _)
      replace HB2 := Lib.hid (show Below w.heap.size w ((w6.setCell ⟨gy, k * 2, none⟩ (.int .i64 ((tw L S n k).2 + 1))).setCell ⟨gy, k * 2 + 1, none⟩ (.int .i64 (pr L k).2)).drew from ((HB2.out.setCell hgwy _).setCell hgwy _).drew)
      clear oy6 OL2 OT2 hgl
      go_wp2_with fail
      go_still_tail 15, (by kernel_rfl)
      change wpList _ _ _ _ _ w6.drew
      go_wp2_with fail
      refine (implTight_any _ _ _ _ _ _ (L.set k ((pr L k).1, (tw L S n k).1 - 1)) S ((w6.setCell ⟨gy, k * 2, none⟩ (.int .i64 ((tw L S n k).2 + 1))).setCell ⟨gy, k * 2 + 1, none⟩ (.int .i64 (pr L k).2)).drew hcx hmx hmc hcm' (OX.out.prs (by rw [List.length_set]; exact HL.out) (fun _ _ => rfl)) (OS2.out.prs HS.out (fun _ _ => rfl)) (by simp) (by simp)).mono ?_
      rintro e w7 ⟨a7, n7, c7, rfl, R7, hc7, hm7, b7, y7⟩
      replace OY := Lib.hid (OY.out.below b7)
      replace OS2 := Lib.hid (OS2.out.below b7)
      replace HB2 := Lib.hid (Below.step0 HB2.out b7)
      rw [NX.out]
      clear R7 b7 y7 OX q1 q2 q3 q4 p1 p2 p3 p4 r1 r2 r3 r4 a1 a2
      go_wp2_with fail
      refine (implTight_any _ _ _ _ _ _ (L.set k ((tw L S n k).2 + 1, (pr L k).2)) S _ hcy hmy hmc hcm' (OY.out.prs (by rw [List.length_set]; exact HL.out) (fun _ _ => rfl)) (OS2.out.prs HS.out (fun _ _ => rfl)) (by simp) (by simp)).mono ?_
      rintro e w8 ⟨a8, n8, c8, rfl, R8, hc8, hm8, b8, y8⟩
      replace HB2 := Lib.hid (Below.step0 HB2.out b8)
      rw [NY.out]
      clear R8 b8 y8 OY OS2
      go_wp2_with fail
      go_ret
      exact ⟨rfl, HB2.out⟩
end Go.Proofs.Ytdojjljlegandaa
