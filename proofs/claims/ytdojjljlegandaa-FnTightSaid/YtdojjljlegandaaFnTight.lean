/- The walk of FnTight. -/
import Derived.Test.YtdojjljlegandaaTightS
import Derived.Test.YtdojjljlegandaaTightI
import Derived.Test.YtdojjljlegandaaSameW
import Derived.Test.YtdojjljlegandaaDrawT
namespace Go.Proofs.Ytdojjljlegandaa
open Go.RowKit
set_option linter.unusedVariables false
set_option linter.unusedSimpArgs false

set_option maxRecDepth 100000 in
set_option maxHeartbeats 3200000 in
theorem fnTight_walk (a : Option Addr) (len cap : Nat) (zs : List Int) (w : World) (h : IsRow .u8 w a len cap zs) :
    Calls Try.prog 5 #[.slice a len cap] w fun e w' => e = .returned (.bool true) ∧ Below w.heap.size w w' := by
  obtain ⟨hc, hm⟩ := h.le
  have hm' := hm
  unfold maxLen at hm'
  have h0 := Lib.hid h.bytes
  clear h
  by_cases hl : 1048576 < len
  · go_enter Try.func5, Try.ntmps5
    go_wp2_with fail
    go_ret
    exact ⟨rfl, Below.refl _ _⟩
  · go_enter Try.func5, Try.ntmps5
    go_wp2_with fail
    refine (drawTight_any _ _ _ _ hc hm h0.out).mono ?_
    rintro e w1 ⟨g, g', n, m, c, c', L, S, rfl, n1, n5, m6, hnc, hmc, hcm, hcm', hL, hS, O1, O2, hgg, hg, hg', b1⟩
    have HL := Lib.hid hL
    have HS := Lib.hid hS
    have x3 : c ≤ 9223372036854775807 := hcm
    have x4 : c' ≤ 9223372036854775807 := hcm'
    have OL := Lib.hid O1
    have OS := Lib.hid O2
    have HB := Lib.hid b1
    clear hL hS O1 O2 b1 h0
    go_wp2_with fail
    refine (implTight_any _ _ _ _ _ _ L S _ hnc hcm hmc hcm' (OL.out.prs HL.out (fun _ _ => rfl)) (OS.out.prs HS.out (fun _ _ => rfl)) (by simp) (by simp)).mono ?_
    rintro e w2 ⟨a3, n3, c3, rfl, R2, hc3, hm3, b2, y2⟩
    have OL := Lib.hid (OL.out.below b2)
    have OS := Lib.hid (OS.out.below b2)
    have HB := Lib.hid (Below.step0 HB.out b2)
    have HR := Lib.hid R2
    have HY := Lib.hid y2
    clear R2 b2 y2
    go_wp2_with fail
    refine (specTight_any _ _ _ _ _ _ L S _ hnc hcm hmc hcm' (OL.out.prs HL.out (fun _ _ => rfl)) (OS.out.prs HS.out (fun _ _ => rfl))).mono ?_
    rintro e w3 ⟨a4, n4, c4, rfl, R3, hc4, hm4, b3, y3⟩
    have OL := Lib.hid (OL.out.below b3)
    have OS := Lib.hid (OS.out.below b3)
    have HB := Lib.hid (Below.step0 HB.out b3)
    have HR := Lib.hid (HR.out.below b3)
    have HY := Lib.hid (fun (q : tkB L S = true) => (HY.out q).imp fun g2 (z : _ ∧ _ ∧ _ ∧ _) => And.intro z.1 (And.intro z.2.1 (z.2.2.2.below b3)))
    have HR3 := Lib.hid R3
    clear R3 b3 y3
    have t1 : (tkB L S != tkB L S) = false := by simp
    go_wp2_with fail
    refine (sameWindows_b _ _ _ _ _ _ (tRes L S) (tRes L S) _ hc3 hm3 hc4 hm4 HR.out HR3.out).mono ?_
    rintro e w4 ⟨rfl, b4⟩
    rw [eqL_self]
    have OL := Lib.hid (OL.out.below b4)
    have OS := Lib.hid (OS.out.below b4)
    have HB := Lib.hid (Below.step0 HB.out b4)
    have HR := Lib.hid (HR.out.below b4)
    have HR3 := Lib.hid (HR3.out.below b4)
    have HY := Lib.hid (fun (q : tkB L S = true) => (HY.out q).imp fun g2 (z : _ ∧ _ ∧ _) => And.intro z.1 (And.intro z.2.1 (z.2.2.below b4)))
    clear b4
    by_cases hok : tkB L S = true
    rotate_left
    · have hok' : tkB L S = false := by simpa using hok
      rw [hok']
      clear t1 hok hok'
      go_wp2_with fail
      refine (sameWindows_b _ _ _ _ _ _ (tRes L S) (tRes L S) _ hc3 hm3 hc4 hm4 HR.out HR3.out).mono ?_
      rintro e w5 ⟨rfl, b5⟩
      rw [eqL_self]
      have HB := Lib.hid (Below.step0 HB.out b5)
      clear b5
      go_wp2_with fail
      go_ret
      exact ⟨rfl, HB.out⟩
    rw [hok]
    obtain ⟨g2, rfl, hn3, ot⟩ := HY.out hok
    obtain rfl : n = n3 := (hn3.trans HL.out).symm
    have x5 : c3 ≤ 9223372036854775807 := hm3
    have OT := Lib.hid (show OwnF w4 g2 n (pr (twl L S)) by rw [← HL.out]; exact ot)
    have HK := Lib.hid hok
    clear t1 ot hok HR HR3 HY hn3
    go_wp2_with fail
    refine (implTight_any _ _ _ _ _ _ (twl L S) S _ hc3 hm3 hmc hcm' (OT.out.prs (by rw [twl_len, HL.out]) (fun _ _ => rfl)) (OS.out.prs HS.out (fun _ _ => rfl)) (by simp) (by simp)).mono ?_
    rintro e w5 ⟨a5, n5', c5, rfl, R5, hc5, hm5, b5, y5⟩
    have AG := tk_again HK.out
    have hr5 : tRes (twl L S) S = twl L S := by rw [tRes_yes AG.1, AG.2]
    rw [hr5] at R5
    rw [AG.1]
    have OL := Lib.hid (OL.out.below b5)
    have OT := Lib.hid (OT.out.below b5)
    have HB := Lib.hid (Below.step0 HB.out b5)
    have HR := Lib.hid R5
    clear AG hr5 R5 b5 y5 OS
    go_wp2_with fail
    go_loopw [11] (fun i wr => ∃ k : Nat, i = .int .i64 k ∧ k ≤ n ∧ ∃ q, wr = w5.drewN q) (fun i _ => n - (intOf i).toNat)
    case atStart => exact ⟨0, rfl, Nat.zero_le _, 0, rfl⟩
    case round =>
      obtain ⟨k, rfl, hk, q, rfl⟩ := hrel
      by_cases hlt : k < n
      · obtain ⟨q1, q2, q3, q4⟩ := OL.out.2 k hlt
        obtain ⟨p1, p2, p3, p4⟩ := OT.out.2 k hlt
        rw [twl_pr L S k (by rw [HL.out]; exact hlt)] at p1 p2
        have F := tw_in (L := L) (S := S) (n := L.length) (i := k) (by rw [HL.out]; exact hlt)
        have G := (tk_true HK.out).2 k (by rw [HL.out]; exact hlt)
        generalize (tw L S L.length k).1 = x1 at *
        generalize (tw L S L.length k).2 = x2 at *
        generalize (pr L k).1 = z1 at *
        generalize (pr L k).2 = z2 at *
        have t1 : decide (x1 < z1) = false := by simp; omega
        have t2 : decide (z2 < x2) = false := by simp; omega
        have t3 : decide (x2 < x1) = false := by simp; omega
        have i0 : (0 : Int) ≤ (k : Int) := by omega
        have i1 : (k : Int) < (n : Int) := by omega
        clear F G
        go_wp2_with fail
        go_quiet (fail)
        go_wp2_with fail
        go_roundw
        case rel => exact ⟨k + 1, by go_num, by omega, q + nq, rfl⟩
        case measure => simp [intOf] <;> omega
      · go_wp2_with fail
        refine (sameWindows_b _ _ _ _ _ _ (twl L S) (twl L S) _ hc5 hm5 hc3 hm3 (HR.out.below (below_drewN (Below.refl _ _) q)) ((OT.out.prs (by rw [twl_len, HL.out]) (fun _ _ => rfl)).below (below_drewN (Below.refl _ _) q))).mono ?_
        rintro e w6 ⟨rfl, b6⟩
        rw [eqL_self]
        have HB := Lib.hid (Below.step0 (below_drewN HB.out q) b6)
        clear b6
        go_wp2_with fail
        go_ret
        exact ⟨rfl, HB.out⟩
end Go.Proofs.Ytdojjljlegandaa
