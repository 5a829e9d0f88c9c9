/- The walk of FnTightFirst. -/
import Derived.Test.YtdojjljlegandaaTightS
import Derived.Test.YtdojjljlegandaaTightI
import Derived.Test.YtdojjljlegandaaSameW
import Derived.Test.YtdojjljlegandaaDrawT
import Derived.Test.YtdojjljlegandaaCopyW
import Derived.Deep.RegionWith
namespace Go.Proofs.Ytdojjljlegandaa
open Go.RowKit
set_option linter.unusedVariables false
set_option linter.unusedSimpArgs false

set_option maxRecDepth 100000 in
set_option maxHeartbeats 3200000 in
theorem fnTightFirst_walk (a : Option Addr) (len cap : Nat) (zs : List Int) (a2 : Option Addr) (mlen mcap : Nat) (zs2 : List Int) (w : World) (h : IsRow .u8 w a len cap zs) (h' : IsRow .u8 w a2 mlen mcap zs2) :
    Calls Try.prog 7 #[.slice a len cap, .slice a2 mlen mcap] w fun e w' => e = .returned (.bool true) ∧ Below w.heap.size w w' := by
  obtain ⟨hc, hm⟩ := h.le
  have hm' := hm
  unfold maxLen at hm'
  obtain ⟨hc', hn⟩ := h'.le
  have hn' := hn
  unfold maxLen at hn'
  have h0 := Lib.hid h.bytes
  clear h h'
  by_cases hl : 1048576 < len
  · have d1 : decide ((1048576 : Int) < (len : Int)) = true := by simp; omega
    go_enter Try.func7, Try.ntmps7
    go_wp2_with fail
    go_ret
    exact ⟨rfl, Below.refl _ _⟩
  · have d1 : decide ((1048576 : Int) < (len : Int)) = false := by simp; omega
    by_cases hl' : 1048576 < mlen
    · have d2 : decide ((1048576 : Int) < (mlen : Int)) = true := by simp; omega
      go_enter Try.func7, Try.ntmps7
      go_wp2_with fail
      go_ret
      exact ⟨rfl, Below.refl _ _⟩
    · have d2 : decide ((1048576 : Int) < (mlen : Int)) = false := by simp; omega
      go_enter Try.func7, Try.ntmps7
      go_wp2_with fail
      refine (drawTight_any _ _ _ _ hc hm h0.out).mono ?_
      rintro e w1 ⟨g, g', n, m, c, c', L, S, rfl, n1, n5, m6, hnc, hmc, hcm, hcm', hL, hS, O1, O2, hgg, hg, hg', b1⟩
      have HL := Lib.hid hL
      have HS := Lib.hid hS
      have x3 : c ≤ 9223372036854775807 := hcm
      have x4 : c' ≤ 9223372036854775807 := hcm'
      have OL := Lib.hid O1
      have OS := Lib.hid O2
      have HB := Lib.hid b1
      clear hL hS O1 O2 b1 h0
      go_wp2_with fail
      refine (implTight_any _ _ _ _ _ _ L S _ hnc hcm hmc hcm' (OL.out.prs HL.out (fun _ _ => rfl)) (OS.out.prs HS.out (fun _ _ => rfl)) (by simp) (by simp)).mono ?_
      rintro e w2 ⟨a3, n3, c3, rfl, R2, hc3, hm3, b2, y2⟩
      replace OL := Lib.hid (OL.out.below b2)
      replace OS := Lib.hid (OS.out.below b2)
      replace HB := Lib.hid (Below.step0 HB.out b2)
      have HR := Lib.hid R2
      have HY := Lib.hid y2
      clear R2 b2 y2
      go_wp2_with fail
      refine (specTight_any _ _ _ _ _ _ L S _ hnc hcm hmc hcm' (OL.out.prs HL.out (fun _ _ => rfl)) (OS.out.prs HS.out (fun _ _ => rfl))).mono ?_
      rintro e w3 ⟨a4, n4, c4, rfl, R3, hc4, hm4, b3, y3⟩
      replace OL := Lib.hid (OL.out.below b3)
      replace OS := Lib.hid (OS.out.below b3)
      replace HB := Lib.hid (Below.step0 HB.out b3)
      replace HR := Lib.hid (HR.out.below b3)
      replace HY := Lib.hid (fun (q : tkB L S = true) => (HY.out q).imp fun g2 (z : _ ∧ _ ∧ _ ∧ _) => And.intro z.1 (And.intro z.2.1 (z.2.2.2.below b3)))
      have HR3 := Lib.hid R3
      clear R3 b3 y3
      have t1 : (tkB L S != tkB L S) = false := by simp
      go_wp2_with fail
      refine (sameWindows_b _ _ _ _ _ _ (tRes L S) (tRes L S) _ hc3 hm3 hc4 hm4 HR.out HR3.out).mono ?_
      rintro e w4 ⟨rfl, b4⟩
      rw [eqL_self]
      replace OL := Lib.hid (OL.out.below b4)
      replace OS := Lib.hid (OS.out.below b4)
      replace HB := Lib.hid (Below.step0 HB.out b4)
      replace HR := Lib.hid (HR.out.below b4)
      replace HR3 := Lib.hid (HR3.out.below b4)
      replace HY := Lib.hid (fun (q : tkB L S = true) => (HY.out q).imp fun g2 (z : _ ∧ _ ∧ _) => And.intro z.1 (And.intro z.2.1 (z.2.2.below b4)))
      clear b4
      by_cases hok : tkB L S = true
      rotate_left
      · have hok' : tkB L S = false := by simpa using hok
        rw [hok']
        clear t1 hok hok'
        go_wp2_with fail
        refine (sameWindows_b _ _ _ _ _ _ (tRes L S) (tRes L S) _ hc3 hm3 hc4 hm4 HR.out HR3.out).mono ?_
        rintro e w5 ⟨rfl, b5⟩
        rw [eqL_self]
        replace HB := Lib.hid (Below.step0 HB.out b5)
        clear b5
        go_wp2_with fail
        go_ret
        exact ⟨rfl, HB.out⟩
      rw [hok]
      obtain ⟨g2, rfl, hn3, ot⟩ := HY.out hok
      obtain rfl : n = n3 := (hn3.trans HL.out).symm
      have x5 : c3 ≤ 9223372036854775807 := hm3
      have OT := Lib.hid (show OwnF w4 g2 n (pr (twl L S)) by rw [← HL.out]; exact ot)
      have HK := Lib.hid hok
      have OT0 := OT
      have OS0 := OS
      clear t1 ot hok HR HR3 HY hn3
      obtain ⟨k0, hk0, ek, ek2⟩ := mod_ix mlen n n1
      obtain ⟨k, ek3⟩ : ∃ k : Nat, k = 1 + k0 := ⟨_, rfl⟩
      have ek4 : (1 : Int) + (k0 : Int) = (k : Int) := by omega
      have k1 : 1 ≤ k := by omega
      have hkn : k ≤ n := by omega
      have hmn : n = m + 1 := by have := wd_true (tk_true HK.out).1; have := HS.out; have := HL.out; omega
      have hmn1 : n ≤ m + 1 := by omega
      have hmn2 : m + 1 ≤ n := by omega
      clear hmn
      have a1 : IntKind.i64.wrap ((k : Int) - 1) = ((k - 1 : Nat) : Int) := by rw [IntWalk.i64_in _ (by omega)]; omega
      have i1 : (0 : Int) ≤ (k : Int) := by omega
      have i2 : (k : Int) ≤ (n : Int) := by omega
      have i3 : (k : Int) ≤ (c : Int) := by omega
      have i4 : (0 : Int) ≤ ((k - 1 : Nat) : Int) := by omega
      have i5 : ((k - 1 : Nat) : Int) ≤ (m : Int) := by omega
      have i6 : ((k - 1 : Nat) : Int) ≤ (c' : Int) := by omega
      have HLK := Lib.hid (show (L.take k).length = k by rw [List.length_take, HL.out]; omega)
      have HSK := Lib.hid (show (S.take (k - 1)).length = k - 1 by rw [List.length_take, HS.out]; omega)
      have PL := Lib.hid (show Prs w4.drew (some ⟨g, 0, none⟩) k (L.take k) from (OL.out.take k hkn).prs HLK.out (fun _ _ => rfl))
      have PS := Lib.hid (show Prs w4.drew (some ⟨g', 0, none⟩) (k - 1) (S.take (k - 1)) from (OS.out.take (k - 1) (by omega)).prs HSK.out (fun _ _ => rfl))
      have TK := tk_first HK.out k1 (by rw [HL.out]; exact hkn)
      have TK1 := Lib.hid TK.1
      have TKB := Lib.hid TK.2
      have kc : k - 1 ≤ c' := by omega
      have kc2 : k ≤ c := by omega
      clear TK OT0 OS0 ek2 ek3 OL OS
      go_wp2_with fail
      go_region_with (go_at_call 20; (with_reducible refine (implTight_any _ _ _ _ _ _ (L.take k) (S.take (k - 1)) w4.drew kc2 hcm kc hcm' PL.out PS.out (by simp) (by simp)).mono ?_); rintro e w6 ⟨a6, n6, c6, rfl, R6, hc6, hm6, b6, y6⟩)
      have x7 : c6 ≤ 9223372036854775807 := hm6
      obtain ⟨gy, rfl, hn6, _, oy⟩ := y6 TK1.out
      obtain rfl : k = n6 := (hn6.trans HLK.out).symm
      rw [HLK.out] at oy
      rw [TK1.out]
      have OY := Lib.hid oy
      replace OT := Lib.hid (OT.out.below (Below.und b6))
      replace HB := Lib.hid (Below.step0 HB.out (Below.und b6))
      clear y6 oy R6 b6 hn6 PL PS a1
      go_wp2_with fail
      go_loopw [14] (fun i wr => ∃ k : Nat, i = .int .i64 k ∧ k ≤ k ∧ ∃ q, wr = w6.drewN q) (fun i _ => k - (intOf i).toNat)
      case atStart => exact ⟨0, rfl, Nat.zero_le _, 0, rfl⟩
      case round =>
        obtain ⟨i, rfl, hki, q, rfl⟩ := hrel
        by_cases hlt : i < k
        · obtain ⟨q1, q2, q3, q4⟩ := OY.out.2 i hlt
          obtain ⟨p1, p2, p3, p4⟩ := OT.out.2 i (Nat.lt_of_lt_of_le hlt (hkn))
          rw [twl_pr L S i (by rw [HL.out]; exact Nat.lt_of_lt_of_le hlt (hkn))] at p1 p2
          rw [twl_pr (L.take k) (S.take (k - 1)) i (by rw [HLK.out]; exact hlt)] at q1 q2
          have F := TKB.out i hlt
          rw [HLK.out] at q1 q2
          rw [HL.out] at p1 p2 F
          generalize (tw L S n i).1 = x1 at *
          generalize (tw L S n i).2 = x2 at *
          generalize (tw ((L.take k)) ((S.take (k - 1))) k i).1 = y1 at *
          generalize (tw ((L.take k)) ((S.take (k - 1))) k i).2 = y2 at *
          have i0 : (0 : Int) ≤ (i : Int) := by omega
          have i1 : (i : Int) < (k : Int) := by omega
          have i2 : (i : Int) < (n : Int) := by omega
          have t1 : decide (x1 < y1) = false := by simp; omega
          have t2 : decide (y2 < x2) = false := by simp; omega
          clear F
          go_wp2_with fail
          go_quiet (fail)
          go_wp2_with fail
          go_roundw
          case rel => exact ⟨i + 1, by go_num, by omega, q + nq, rfl⟩
          case measure => simp [intOf] <;> omega
        · go_wp2_with fail
          go_ret
          exact ⟨rfl, below_drewN HB.out q⟩
end Go.Proofs.Ytdojjljlegandaa
