/- The walk of FnFitPrefix. -/
import Derived.Test.YtgendnkemdcjeaaDrawF
import Derived.Test.YtgendnkemdcjeaaFitQ
import Derived.Deep.RegionWith
namespace Go.Proofs.Ytgendnkemdcjeaa
open Go.RowKit
set_option linter.unusedVariables false
set_option linter.unusedSimpArgs false

set_option maxRecDepth 100000 in
set_option maxHeartbeats 3200000 in
theorem fnFitPrefix_walk (a : Option Addr) (len cap : Nat) (zs : List Int) (a2 : Option Addr) (mlen mcap : Nat) (zs2 : List Int) (w : World) (h : IsRow .u8 w a len cap zs) (h' : IsRow .u8 w a2 mlen mcap zs2) :
    Calls Try.prog 4 #[.slice a len cap, .slice a2 mlen mcap] w fun e w' => e = .returned (.bool true) ∧ Below w.heap.size w w' := by
  obtain ⟨hc, hm⟩ := h.le
  have hm' := hm
  unfold maxLen at hm'
  obtain ⟨hc', hn⟩ := h'.le
  have hn' := hn
  unfold maxLen at hn'
  have h0 := Lib.hid h.bytes
  clear h h'
  by_cases hl : 1048576 < len
  · have d1 : decide ((1048576 : Int) < (len : Int)) = true := by simp; omega
    go_enter Try.func4, Try.ntmps4
    go_wp2_with fail
    go_ret
    exact ⟨rfl, Below.refl _ _⟩
  · have d1 : decide ((1048576 : Int) < (len : Int)) = false := by simp; omega
    by_cases hl' : 1048576 < mlen
    · have d2 : decide ((1048576 : Int) < (mlen : Int)) = true := by simp; omega
      go_enter Try.func4, Try.ntmps4
      go_wp2_with fail
      go_ret
      exact ⟨rfl, Below.refl _ _⟩
    · have d2 : decide ((1048576 : Int) < (mlen : Int)) = false := by simp; omega
      go_enter Try.func4, Try.ntmps4
      go_wp2_with fail
      refine (drawFit_any _ _ _ _ hc hm h0.out).mono ?_
      rintro e w1 ⟨g, g', g3, n, m, c, c', c3, L, S, A, rfl, n1, n5, m6, hnc, hmc, hnc3, hcm, hcm', hcm3, hL, hS, hA, O1, O2, O3, b1⟩
      have HL := Lib.hid hL
      have HS := Lib.hid hS
      have HA := Lib.hid hA
      have x3 : c ≤ 9223372036854775807 := hcm
      have x4 : c' ≤ 9223372036854775807 := hcm'
      have x5 : c3 ≤ 9223372036854775807 := hcm3
      have OL := Lib.hid O1
      have OS := Lib.hid O2
      have OA := Lib.hid O3
      have HB := Lib.hid b1
      clear hL hS hA O1 O2 O3 b1 h0
      go_wp2_with fail
      refine (implFit_any _ _ _ _ _ _ _ _ _ L S A _ hnc hcm hmc hcm' hnc3 hcm3 (OL.out.prs HL.out (fun _ _ => rfl)) (OS.out.prs HS.out (fun _ _ => rfl)) (OA.out.ints HA.out (fun _ _ => rfl)) (by simp) (by simp)).mono ?_
      rintro e w2 ⟨rfl, b2⟩
      replace OL := Lib.hid (OL.out.below b2)
      replace OS := Lib.hid (OS.out.below b2)
      replace OA := Lib.hid (OA.out.below b2)
      replace HB := Lib.hid (Below.step0 HB.out b2)
      clear b2
      go_wp2_with fail
      refine (specFit_b _ _ _ _ _ _ _ _ _ L S A _ hnc hcm hmc hcm' hnc3 hcm3 (OL.out.prs HL.out (fun _ _ => rfl)) (OS.out.prs HS.out (fun _ _ => rfl)) (OA.out.ints HA.out (fun _ _ => rfl))).mono ?_
      rintro e w3 ⟨rfl, b3⟩
      replace OL := Lib.hid (OL.out.below b3)
      replace OS := Lib.hid (OS.out.below b3)
      replace OA := Lib.hid (OA.out.below b3)
      replace HB := Lib.hid (Below.step0 HB.out b3)
      clear b3
      have t1 : (fitB L S A != fitB L S A) = false := by simp
      by_cases hf : fitB L S A = true
      rotate_left
      · have hf' : fitB L S A = false := by simpa using hf
        rw [hf']
        clear t1 hf hf'
        go_wp2_with fail
        go_ret
        exact ⟨rfl, HB.out⟩
      rw [hf]
      have HF := Lib.hid hf
      clear t1 hf
      obtain ⟨k0, hk0, ek, ek2⟩ := mod_ix mlen n n1
      have hkn : 1 + k0 ≤ n := by omega
      have W := wd_true (fit_true HF.out).1
      have hmn1 : n ≤ m + 1 := by have := HS.out; have := HL.out; omega
      have hmn2 : m + 1 ≤ n := by have := HS.out; have := HL.out; omega
      have V1 := Lib.hid (show fitB (L.take (1 + k0)) (S.take k0) (A.take (1 + k0)) = true by have q := fit_take (k := 1 + k0) HF.out (by omega) (by rw [HL.out]; exact hkn); rw [show 1 + k0 - 1 = k0 by omega] at q; exact q)
      have i1 : (0 : Int) ≤ (k0 : Int) := by omega
      have a1 : IntKind.i64.wrap ((1 : Int) + (k0 : Int) - 1) = (k0 : Int) := by rw [IntWalk.i64_in _ (by omega)]; omega
      have a2 : IntKind.i64.wrap (k0 : Int) = (k0 : Int) := IntWalk.i64_in _ (by omega)
      have i3 : (0 : Int) ≤ (1 : Int) + (k0 : Int) := by omega
      have i4 : (1 : Int) + (k0 : Int) ≤ (n : Int) := by omega
      have i5 : (1 : Int) + (k0 : Int) ≤ (c : Int) := by omega
      have i6 : (1 : Int) + (k0 : Int) ≤ (c3 : Int) := by omega
      have i7 : (k0 : Int) ≤ (m : Int) := by omega
      have i8 : (k0 : Int) ≤ (c' : Int) := by omega
      have i9 : ((1 : Int) + (k0 : Int)).toNat = 1 + k0 := by omega
      have HLK := Lib.hid (show (L.take (1 + k0)).length = 1 + k0 by rw [List.length_take, HL.out]; omega)
      have HSK := Lib.hid (show (S.take k0).length = k0 by rw [List.length_take, HS.out]; omega)
      have HAK := Lib.hid (show (A.take (1 + k0)).length = 1 + k0 by rw [List.length_take, HA.out]; omega)
      have PL := Lib.hid (show Prs w3.drew (some ⟨g, 0, none⟩) (1 + k0) (L.take (1 + k0)) from (OL.out.take (1 + k0) hkn).prs HLK.out (fun _ _ => rfl))
      have PS := Lib.hid (show Prs w3.drew (some ⟨g', 0, none⟩) k0 (S.take k0) from (OS.out.take k0 (by omega)).prs HSK.out (fun _ _ => rfl))
      have PA := Lib.hid (show Ints w3.drew (some ⟨g3, 0, none⟩) (1 + k0) (A.take (1 + k0)) from (OA.out.take (1 + k0) hkn).ints HAK.out (fun _ _ => rfl))
      have kc : k0 ≤ c' := by omega
      have kc2 : 1 + k0 ≤ c := by omega
      have kc3 : 1 + k0 ≤ c3 := by omega
      clear W ek2 OL OS OA
      go_wp2_with fail
      go_region_with (go_at_call 15; (with_reducible refine (implFit_is _ _ _ (1 + k0) c k0 c' (1 + k0) c3 (L.take (1 + k0)) (S.take k0) (A.take (1 + k0)) true w3.drew kc2 hcm kc hcm' kc3 hcm3 PL.out PS.out PA.out (by simp) (by simp) V1.out).mono ?_); rintro e w6 ⟨rfl, b6⟩)
      have HZ := Lib.hid (Below.step0 HB.out (Below.und b6))
      go_wp2_with fail
      go_ret
      exact ⟨rfl, HZ.out⟩
end Go.Proofs.Ytgendnkemdcjeaa
