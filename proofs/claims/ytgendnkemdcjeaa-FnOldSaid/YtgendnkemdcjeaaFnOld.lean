/- The walk of FnOld. -/
import Derived.Test.YtgendnkemdcjeaaYoung
import Derived.Test.YtgendnkemdcjeaaFitQ
import Derived.Test.YtgendnkemdcjeaaDrawT
import Derived.Deep.RegionHeld3
namespace Go.Proofs.Ytgendnkemdcjeaa
open Go.RowKit
set_option linter.unusedVariables false
set_option linter.unusedSimpArgs false

set_option maxRecDepth 100000 in
set_option maxHeartbeats 3200000 in
theorem fnOld_walk (a : Option Addr) (len cap : Nat) (zs : List Int) (a2 : Option Addr) (mlen mcap : Nat) (zs2 : List Int) (w : World) (h : IsRow .u8 w a len cap zs) (h' : IsRow .u8 w a2 mlen mcap zs2) :
    Calls Try.prog 5 #[.slice a len cap, .slice a2 mlen mcap] w fun e w' => e = .returned (.bool true) ∧ Below w.heap.size w w' := by
  obtain ⟨hc, hm⟩ := h.le
  have hm' := hm
  unfold maxLen at hm'
  obtain ⟨hc', hn⟩ := h'.le
  have hn' := hn
  unfold maxLen at hn'
  have h0 := Lib.hid h.bytes
  clear h h'
  by_cases hl : 1048576 < len
  · have d1 : decide ((1048576 : Int) < (len : Int)) = true := by simp; omega
    go_enter Try.func5, Try.ntmps5
    go_wp2_with fail
    go_ret
    exact ⟨rfl, Below.refl _ _⟩
  · have d1 : decide ((1048576 : Int) < (len : Int)) = false := by simp; omega
    by_cases hl' : 1048576 < mlen
    · have d2 : decide ((1048576 : Int) < (mlen : Int)) = true := by simp; omega
      go_enter Try.func5, Try.ntmps5
      go_wp2_with fail
      go_ret
      exact ⟨rfl, Below.refl _ _⟩
    · have d2 : decide ((1048576 : Int) < (mlen : Int)) = false := by simp; omega
      go_enter Try.func5, Try.ntmps5
      go_wp2_with fail
      refine (drawOld_any _ _ _ _ hc hm h0.out).mono ?_
      rintro e w1 ⟨g, g', n, m, c, c', L, S, rfl, n1, n5, m6, hnc, hmc, hcm, hcm', hL, hS, O1, O2, hgg, hg, hg', b1⟩
      have HL := Lib.hid hL
      have HS := Lib.hid hS
      have x3 : c ≤ 9223372036854775807 := hcm
      have x4 : c' ≤ 9223372036854775807 := hcm'
      have OL := Lib.hid O1
      have OS := Lib.hid O2
      have HB := Lib.hid b1
      clear hL hS O1 O2 b1 h0
      go_wp2_with fail
      refine (implOld_any _ _ _ _ _ _ L S _ hnc hcm hmc hcm' (OL.out.prs HL.out (fun _ _ => rfl)) (OS.out.prs HS.out (fun _ _ => rfl)) (by simp) (by simp)).mono ?_
      rintro e w2 ⟨a3, n3, c3, rfl, R2, hc3, hm3, b2, y2⟩
      replace OL := Lib.hid (OL.out.below b2)
      replace OS := Lib.hid (OS.out.below b2)
      replace HB := Lib.hid (Below.step0 HB.out b2)
      have HR := Lib.hid R2
      have HY := Lib.hid y2
      clear R2 b2 y2
      go_wp2_with fail
      refine (specOld_any _ _ _ _ _ _ L S _ hnc hcm hmc hcm' (OL.out.prs HL.out (fun _ _ => rfl)) (OS.out.prs HS.out (fun _ _ => rfl))).mono ?_
      rintro e w3 ⟨a4, n4, c4, rfl, R3, hc4, hm4, b3, y3⟩
      replace OL := Lib.hid (OL.out.below b3)
      replace OS := Lib.hid (OS.out.below b3)
      replace HB := Lib.hid (Below.step0 HB.out b3)
      replace HR := Lib.hid (HR.out.below b3)
      replace HY := Lib.hid (fun (q : tkB L S = true) => (HY.out q).imp fun g2 (z : _ ∧ _ ∧ _ ∧ _) => And.intro z.1 (And.intro z.2.1 (z.2.2.2.below b3)))
      have HR3 := Lib.hid R3
      clear R3 b3 y3
      have t1 : (tkB L S != tkB L S) = false := by simp
      go_wp2_with fail
      refine (sameInts_b _ _ _ _ _ _ (oRes L S) (oRes L S) _ hc3 hm3 hc4 hm4 HR.out HR3.out).mono ?_
      rintro e w4 ⟨rfl, b4⟩
      rw [eqI_self]
      replace OL := Lib.hid (OL.out.below b4)
      replace OS := Lib.hid (OS.out.below b4)
      replace HB := Lib.hid (Below.step0 HB.out b4)
      replace HR := Lib.hid (HR.out.below b4)
      replace HR3 := Lib.hid (HR3.out.below b4)
      replace HY := Lib.hid (fun (q : tkB L S = true) => (HY.out q).imp fun g2 (z : _ ∧ _ ∧ _) => And.intro z.1 (And.intro z.2.1 (z.2.2.below b4)))
      clear b4
      by_cases hok : tkB L S = true
      rotate_left
      · have hok' : tkB L S = false := by simpa using hok
        rw [hok']
        clear t1 hok hok'
        go_wp2_with fail
        refine (sameInts_b _ _ _ _ _ _ (oRes L S) (oRes L S) _ hc3 hm3 hc4 hm4 HR.out HR3.out).mono ?_
        rintro e w5 ⟨rfl, b5⟩
        rw [eqI_self]
        replace HB := Lib.hid (Below.step0 HB.out b5)
        clear b5
        go_wp2_with fail
        go_ret
        exact ⟨rfl, HB.out⟩
      rw [hok]
      obtain ⟨g2, rfl, hn3, ot⟩ := HY.out hok
      obtain rfl : n = n3 := (hn3.trans HL.out).symm
      have x5 : c3 ≤ 9223372036854775807 := hm3
      rw [HL.out, oRes_yes hok] at ot
      have OT := Lib.hid ot
      have HK := Lib.hid hok
      have OT0 := OT
      have OS0 := OS
      clear t1 ot hok HR HR3 HY hn3
      obtain ⟨i0, hi, hz0, hz1, hz2⟩ := info_parts infoInt
      obtain ⟨k, hk, ek, ek2⟩ := mod_ix mlen n n1
      go_wp2_with fail
      refine (implTight_any _ _ _ _ _ _ L S _ hnc hcm hmc hcm' (OL.out.prs HL.out (fun _ _ => rfl)) (OS.out.prs HS.out (fun _ _ => rfl)) (by simp) (by simp)).mono ?_
      rintro e w5 ⟨a5, n5', c5, rfl, R5, hc5, hm5, b5, y5⟩
      have x7 : c5 ≤ 9223372036854775807 := hm5
      obtain ⟨gt, rfl, hn5, _, o5⟩ := y5 HK.out
      obtain rfl : n = n5' := (hn5.trans HL.out).symm
      rw [HL.out] at o5
      have OW := Lib.hid o5
      replace OL := Lib.hid (OL.out.below b5)
      replace OS := Lib.hid (OS.out.below b5)
      replace OT := Lib.hid (OT.out.below b5)
      replace HB := Lib.hid (Below.step0 HB.out b5)
      have hkL : k < L.length := by rw [HL.out]; exact hk
      have HVL := Lib.hid (show (od L S).length = n by rw [od_len]; exact HL.out)
      have VK := Lib.hid (od_it L S k hkL)
      have BD := tw_bd (tk_true HK.out).1 k hkL
      have V1 := Lib.hid (od_fit HK.out)
      have V2 := Lib.hid (show fitB L S ((od L S).set k (it (od L S) k + 1)) = false from no_fit hkL (.inr (by rw [it_set _ _ _ _ (by rw [HVL.out]; exact hk), if_pos rfl, VK.out]; omega)))
      rw [HK.out]
      clear R5 y5 o5 b5 hn5 OT0 OS0
      go_wp2_with (at_builtin; refine wpList_append_own _ rfl _ _ 23 rfl w5.heap.size 3 i0 (.int .i64 0) 1 8 Try.underlying23 hi hz0 hz1 hz2 rfl (by decide) _ _ _ rfl (icopy_base w5) ⟨g2, 0, none⟩ _ _ (il (od L S)) rfl (by rw [il_len, HVL.out]; omega) (icopy_src OT.out HVL.out n1) (il_one _) (by unfold maxLen; omega) (by omega) (by simp) ?_)
      intro vx w6 oxx gxx _
      obtain ⟨gx, cx, rfl, hcx, hmx, ox6, hgx, b6⟩ := icopy_open n1 HVL.out oxx gxx
      clear oxx gxx
      have x8 : cx ≤ 9223372036854775807 := hmx
      have hgw : w.heap.size ≤ gx := Nat.le_trans HB.out.size hgx
      have hgt : gx ≠ g2 := Nat.ne_of_gt (Nat.lt_of_lt_of_le OT.out.1 hgx)
      have hgs : gx ≠ g' := Nat.ne_of_gt (Nat.lt_of_lt_of_le OS.out.1 hgx)
      have hgl : gx ≠ g := Nat.ne_of_gt (Nat.lt_of_lt_of_le OL.out.1 hgx)
      have hgtt : gx ≠ gt := Nat.ne_of_gt (Nat.lt_of_lt_of_le OW.out.1 hgx)
      replace OL := Lib.hid (OL.out.below b6)
      replace OS := Lib.hid (OS.out.below b6)
      replace OT := Lib.hid (OT.out.below b6)
      replace OW := Lib.hid (OW.out.below b6)
      replace HB := Lib.hid (Below.step0 HB.out b6)
      obtain ⟨r1, r2⟩ := ox6.2 k hk
      have hlx := ox6.1
      have OX := Lib.hid (ox6.put HVL.out k hk (it (od L S) k + 1))
      have HYL := Lib.hid (show ((od L S).set k (it (od L S) k + 1)).length = n by rw [List.length_set]; exact HVL.out)
      replace OL := Lib.hid (OL.out.far (p := ⟨gx, k, none⟩) hgl (.int .i64 (it (od L S) k + 1)))
      replace OS := Lib.hid (OS.out.far (p := ⟨gx, k, none⟩) hgs (.int .i64 (it (od L S) k + 1)))
      replace OT := Lib.hid (OT.out.far (p := ⟨gx, k, none⟩) hgt (.int .i64 (it (od L S) k + 1)))
      replace OW := Lib.hid (OW.out.far (p := ⟨gx, k, none⟩) hgtt (.int .i64 (it (od L S) k + 1)))
      replace HB := Lib.hid (HB.out.setCell (p := ⟨gx, k, none⟩) hgw (.int .i64 (it (od L S) k + 1)))
      have i1 : (0 : Int) ≤ (k : Int) := by omega
      have i2 : (k : Int) < (n : Int) := by omega
      have bv1 : -1200000 ≤ it (od L S) k := by rw [VK.out]; omega
      have bv2 : it (od L S) k ≤ 1200000 := by rw [VK.out]; omega
      clear ox6 b6 hgl hgs hgt hgtt BD
      go_wp2_with fail
      clear r1 r2
      generalize (w6.setCell ⟨gx, k, none⟩ (.int .i64 (it (od L S) k + 1))) = w7 at *
      obtain ⟨q1, q2, q3, q4⟩ := OW.out.2 k hk
      obtain ⟨p1, p2⟩ := OT.out.2 k hk
      rw [twl_pr L S k hkL] at q1 q2
      rw [VK.out] at p1
      generalize (tw L S L.length k).2 = xx at *
      have PL := Lib.hid (show ∀ W, Below w7.heap.size w7 W → Prs W (some ⟨g, 0, none⟩) n L from fun W b => (OL.out.prs HL.out (fun _ _ => rfl)).below b)
      have PS := Lib.hid (show ∀ W, Below w7.heap.size w7 W → Prs W (some ⟨g', 0, none⟩) m S from fun W b => (OS.out.prs HS.out (fun _ _ => rfl)).below b)
      have PO := Lib.hid (show ∀ W, Below w7.heap.size w7 W → Ints W (some ⟨g2, 0, none⟩) n (od L S) from fun W b => (OT.out.ints HVL.out (fun _ _ => rfl)).below b)
      have PX := Lib.hid (show ∀ W, Below w7.heap.size w7 W → Ints W (some ⟨gx, 0, none⟩) n ((od L S).set k (it (od L S) k + 1)) from fun W b => (OX.out.ints HYL.out (fun _ _ => rfl)).below b)
      have BZ := Lib.hid ((Below.refl w7.heap.size w7).drew)
      go_region_held3 (fun w' => w'.cell? ⟨gt, k * 2 + 1, none⟩ = some (.int .i64 xx) ∧ w'.cell? ⟨g2, k, none⟩ = some (.int .i64 xx) ∧ Below w7.heap.size w7 w')
        (first | exact ⟨q2, p1, (Below.refl _ _).drew⟩ | (go_split_ands; exact keep2 q2 p1 (Below.step0 (by assumption) b8)) | (go_split_ands; exact keep2 q2 p1 (Below.step0 (by assumption) b9)))
        (first | ((go_at_call 15; (with_reducible refine (implFit_is _ _ _ n c m c' n c3 L S (od L S) true w7.drew hnc hcm hmc hcm' hc3 hm3 (PL.out _ BZ.out) (PS.out _ BZ.out) (PO.out _ BZ.out) (by simp) (by simp) V1.out).mono ?_); rintro e w8 ⟨rfl, b8⟩)) | ((go_at_call 15; (with_reducible refine (implFit_is _ _ _ n c m c' n cx L S ((od L S).set k (it (od L S) k + 1)) false w8 hnc hcm hmc hcm' hcx hmx (PL.out _ (Below.und b8)) (PS.out _ (Below.und b8)) (PX.out _ (Below.und b8)) (by simp) (by simp) V2.out).mono ?_); rintro e w9 ⟨rfl, b9⟩)))
      all_goals
        go_split_ands
        have bz : Below w7.heap.size w7 w9 := by assumption
        go_wp2_with fail
        go_ret
        exact ⟨rfl, Below.step0 HB.out bz⟩
end Go.Proofs.Ytgendnkemdcjeaa
