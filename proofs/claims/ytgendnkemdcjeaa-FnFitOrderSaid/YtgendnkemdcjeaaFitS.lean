/- WindowsFit of both packages. -/
import Derived.Test.YtgendnkemdcjeaaWinI
import Derived.Test.YtgendnkemdcjeaaFitP
import Derived.Test.YtgendnkemdcjeaaIntC
import Derived.Test.YtgendnkemdcjeaaTightB
import Derived.Deep.RegionHeld3
namespace Go.Proofs.Ytgendnkemdcjeaa
open Go.RowKit
set_option linter.unusedVariables false
set_option linter.unusedSimpArgs false

theorem fit_wd {L S : List (Int × Int)} {A : List Int} (h : wdB L S = false) : fitB L S A = false := by unfold fitB; rw [h]; rfl
theorem fit_len {L S : List (Int × Int)} {A : List Int} (h : A.length ≠ L.length) : fitB L S A = false := by unfold fitB; rw [Bool.and_eq_false_iff]; exact .inr (decide_eq_false fun q => h q.1)
theorem fit_bad {L S : List (Int × Int)} {A : List Int} {k : Nat} (hk : k < L.length) (h : ¬ fitAt L S A k) : fitB L S A = false := by unfold fitB; rw [Bool.and_eq_false_iff]; exact .inr (decide_eq_false fun q => h (q.2 k hk))
theorem fit_all {L S : List (Int × Int)} {A : List Int} (h1 : wdB L S = true) (h2 : A.length = L.length) (h3 : fitAll L S A L.length) : fitB L S A = true := by unfold fitB; rw [h1, decide_eq_true ⟨h2, h3⟩]; rfl
theorem fitAll_succ {L S : List (Int × Int)} {A : List Int} {k : Nat} (h : fitAll L S A k) (h2 : fitAt L S A k) : fitAll L S A (k + 1) := fun i hi => if e : i = k then e ▸ h2 else h i (by omega)
theorem in_true {n lo hi : Int} (h : inB n lo hi = true) : lo ≤ n ∧ n ≤ hi := by unfold inB at h; simpa using h
theorem in_false {n lo hi : Int} (h : inB n lo hi = false) : ¬ (lo ≤ n ∧ n ≤ hi) := by unfold inB at h; simpa using h

set_option maxRecDepth 100000 in
set_option maxHeartbeats 3200000 in
theorem specFit_any (a a' a3 : Option Addr) (len cap len' cap' n3 c3 : Nat) (L S : List (Int × Int)) (A : List Int) (w : World) (hlc : len ≤ cap) (hm : cap ≤ maxLen) (hlc' : len' ≤ cap') (hm' : cap' ≤ maxLen) (hc3 : n3 ≤ c3) (hm3 : c3 ≤ maxLen) (h : Prs w a len L) (h' : Prs w a' len' S) (h3 : Ints w a3 n3 A) :
    Calls Try.prog 12 #[.slice a len cap, .slice a' len' cap', .slice a3 n3 c3] w fun e w' => e = .returned (.bool (fitB L S A)) ∧ Below w.heap.size w w' := by
  have hm1 : cap ≤ 9223372036854775807 := hm
  have hm2 : cap' ≤ 9223372036854775807 := hm'
  have hm4 : c3 ≤ 9223372036854775807 := hm3
  have H := Lib.hid h
  have H' := Lib.hid h'
  have H3 := Lib.hid h3
  clear h h' h3
  by_cases hw : wdB L S = true
  rotate_left
  · have hw' : wdB L S = false := by simpa using hw
    have HW := Lib.hid hw'
    clear hw hw'
    go_enter Try.func12, Try.ntmps12
    go_wp2_with fail
    refine (specValid_any _ _ _ _ _ _ L S _ hlc hm hlc' hm' H.out H'.out).mono ?_
    rintro e w1 ⟨rfl, m1, rfl⟩
    rw [wv_wd, HW.out]
    go_wp2_with fail
    go_ret
    exact ⟨by rw [fit_wd HW.out]; rfl, (below_drewN (Below.refl _ _) m1)⟩
  by_cases hn : n3 = len
  rotate_left
  · have t0 : ((n3 : Int) != (len : Int)) = true := by simp; omega
    have t0' : (n3 != len) = true := by simpa using hn
    have HF := Lib.hid (fit_len (L := L) (S := S) (A := A) (by rw [H3.out.1, H.out.1]; exact hn))
    have HW := Lib.hid hw
    clear hw hn
    go_enter Try.func12, Try.ntmps12
    go_wp2_with fail
    refine (specValid_any _ _ _ _ _ _ L S _ hlc hm hlc' hm' H.out H'.out).mono ?_
    rintro e w1 ⟨rfl, m1, rfl⟩
    rw [wv_wd, HW.out]
    go_wp2_with fail
    go_ret
    exact ⟨by rw [HF.out]; rfl, (below_drewN (Below.refl _ _) m1)⟩
  obtain rfl : len = n3 := hn.symm
  have t0 : ((len : Int) != (len : Int)) = false := by simp
  obtain ⟨w1', w12, wls, wL, wS⟩ := wd_true hw
  have HW := Lib.hid hw
  obtain ⟨b, off, rfl, hb, hcL⟩ : ∃ b off, a = some ⟨b, off, none⟩ ∧ b < w.heap.size ∧ PrsAt w b off L := by
    rcases H.out.2 with q | ⟨b, off, q1, q2, q3⟩
    · have := H.out.1; omega
    · exact ⟨b, off, q1, q2, q3⟩
  obtain ⟨b3, off3, rfl, hb3, hcA⟩ : ∃ b off, a3 = some ⟨b, off, none⟩ ∧ b < w.heap.size ∧ IntsAt w b off A := by
    rcases H3.out.2 with q | ⟨b, off, q1, q2, q3⟩
    · have := H.out.1; omega
    · exact ⟨b, off, q1, q2, q3⟩
  obtain ⟨b', off', ha', hb', hS⟩ : ∃ b' off', (len' = 0 ∨ a' = some ⟨b', off', none⟩) ∧ (len' = 0 ∨ b' < w.heap.size) ∧ (len' = 0 ∨ PrsAt w b' off' S) := by
    rcases H'.out.2 with q | ⟨b, off, q1, q2, q3⟩
    · exact ⟨0, 0, .inl q, .inl q, .inl q⟩
    · exact ⟨b, off, .inr q1, .inr q2, .inr q3⟩
  have HL := Lib.hid H.out.1
  have HL' := Lib.hid H'.out.1
  have HL3 := Lib.hid H3.out.1
  have HS := Lib.hid (And.intro ha' (And.intro hb' hS))
  have HCL := Lib.hid hcL
  have HCA := Lib.hid hcA
  have WLS := Lib.hid (And.intro wL wS)
  have wls1 : len' + 1 ≤ len := by have := HL.out; have := HL'.out; omega
  have wls2 : len ≤ len' + 1 := by have := HL.out; have := HL'.out; omega
  clear ha' hb' hS hcL hcA wL wS wls w1' w12 hw
  go_enter Try.func12, Try.ntmps12
  go_wp2_with fail
  refine (specValid_any _ _ _ _ _ _ L S _ hlc hm hlc' hm' H.out H'.out).mono ?_
  rintro e w1 ⟨rfl, m1, rfl⟩
  rw [wv_wd, HW.out]
  go_wp2_with fail
  go_loopw [7] (fun i wr => ∃ k : Nat, i = .int .i64 k ∧ k ≤ len ∧ Hid (fitAll L S A k) ∧ Below w.heap.size w wr) (fun i _ => len - (intOf i).toNat)
  case atStart => exact ⟨0, rfl, Nat.zero_le _, (fun i hi => absurd hi (by omega)), below_drewN (Below.refl _ _) m1⟩
  case round =>
    obtain ⟨k, rfl, hk, hall, hwr⟩ := hrel
    have HR := Lib.hid hwr
    by_cases hlt : k < len
    · have e0 := (hwr.cell (p := ⟨b, off + k * 2, none⟩) hb).trans (HCL.out k (by rw [HL.out]; exact hlt)).1
      have e1 := (hwr.cell (p := ⟨b, off + k * 2 + 1, none⟩) hb).trans (HCL.out k (by rw [HL.out]; exact hlt)).2
      have e2 := (hwr.cell (p := ⟨b3, off3 + k, none⟩) hb3).trans (HCA.out k (by rw [HL3.out]; exact hlt))
      have hkL : k < L.length := by rw [HL.out]; exact hlt
      have GL := rg_bd (WLS.out.1 k hkL)
      have NO := Lib.hid (fun (h : ¬ fitAt L S A k) => fit_bad (L := L) (S := S) (A := A) hkL h)
      have YES := Lib.hid (fun (h : fitAt L S A k) => fitAll_succ hall.out h)
      have FA := Lib.hid (show fitAt L S A k ↔ ((pr L k).1 ≤ it A k ∧ it A k ≤ (pr L k).2 ∧ (0 < k → (pr S (k - 1)).1 ≤ it A k - it A (k - 1) ∧ it A k - it A (k - 1) ≤ (pr S (k - 1)).2)) from Iff.rfl)
      have i1 : (0 : Int) ≤ (k : Int) := by omega
      have i2 : (k : Int) < (len : Int) := by omega
      clear hwr
      generalize hx : it A k = x at *
      generalize (pr L k).1 = y at *
      generalize (pr L k).2 = o at *
      by_cases h1 : inB x y o = true
      rotate_left
      · have h1' : inB x y o = false := by simpa using h1
        have Z := Lib.hid (NO.out (fun q => in_false h1' ⟨(FA.out.1 q).1, (FA.out.1 q).2.1⟩))
        have H1 := Lib.hid h1'
        clear h1 h1' NO YES FA GL hx
        go_wp2_with fail
        go_quiet ((go_at_call 31; exact Calls.quiet_of_same (l6In_is x y o false _ H1.out)))
        go_wp2_with fail
        go_ret
        exact ⟨by first | (rw [Z.out]; rfl) | rw [Z.out], below_drewN HR.out _⟩
      · have IN := in_true h1
        have H1 := Lib.hid h1
        by_cases h0 : k = 0
        · have t1 : decide ((0 : Int) < (k : Int)) = false := by simp; omega
          have t1' : decide (0 < k) = false := by simp; omega
          have Z := Lib.hid (YES.out (FA.out.2 ⟨IN.1, IN.2, fun q => absurd q (by omega)⟩))
          clear h1 NO YES FA GL IN h0 hx
          go_wp2_with fail
          go_quiet ((go_at_call 31; exact Calls.quiet_of_same (l6In_is x y o true _ H1.out)))
          go_wp2_with fail
          go_quiet (fail)
          go_wp2_with fail
          go_roundw
          case rel => exact ⟨k + 1, by go_num, by omega, Z, below_drewN HR.out _⟩
          case measure => simp [intOf] <;> omega
        · obtain ⟨p, rfl⟩ : ∃ p, k = p + 1 := ⟨k - 1, by omega⟩
          have t1 : decide ((0 : Int) < (p : Int) + 1) = true := by simp <;> omega
          have hpS : p < S.length := by rw [HL'.out]; omega
          rcases HS.out.1 with q | rfl
          · omega
          rcases HS.out.2.1 with q | hb'
          · omega
          rcases HS.out.2.2 with q | hcS
          · omega
          have f0 := (HR.out.cell (p := ⟨b', off' + p * 2, none⟩) hb').trans (hcS p hpS).1
          have f1 := (HR.out.cell (p := ⟨b', off' + p * 2 + 1, none⟩) hb').trans (hcS p hpS).2
          have e3 := (HR.out.cell (p := ⟨b3, off3 + p, none⟩) hb3).trans (HCA.out p (by rw [HL3.out]; omega))
          have PF := hall.out p (by omega)
          have GP := rg_bd (WLS.out.1 p (by rw [HL.out]; omega))
          have PB : -100000 ≤ it A p ∧ it A p ≤ 100000 := by have := PF.1; have := PF.2.1; omega
          have FA2 : fitAt L S A (p + 1) ↔ (y ≤ x ∧ x ≤ o ∧ ((pr S p).1 ≤ x - it A p ∧ x - it A p ≤ (pr S p).2)) := by
            rw [FA.out]
            constructor
            · rintro ⟨u1, u2, u3⟩; have u4 := u3 (by omega); rw [show p + 1 - 1 = p by omega] at u4; exact ⟨u1, u2, u4⟩
            · rintro ⟨u1, u2, u3⟩; refine ⟨u1, u2, fun _ => ?_⟩; rw [show p + 1 - 1 = p by omega]; exact u3
          have FA := Lib.hid FA2
          clear FA2 hcS PF GP hx
          generalize it A p = z at *
          generalize (pr S p).1 = y1 at *
          generalize (pr S p).2 = y2 at *
          have a1 : IntKind.i64.wrap (x - z) = x - z := IntWalk.i64_in _ (by omega)
          have a3 : IntKind.i64.wrap ((p : Int) + 1 - 1) = p := by rw [IntWalk.i64_in _ (by omega)]; omega
          have a9 : IntKind.i64.wrap (p : Int) = p := IntWalk.i64_in _ (by omega)
          have a4 : ((p : Int) + 1).toNat = p + 1 := by omega
          have a5 : (0 : Int) ≤ (p : Int) + 1 := by omega
          have a6 : (0 : Int) ≤ (p : Int) := by omega
          have a7 : (p : Int) < len := by omega
          have a8 : (p : Int) < len' := by omega
          by_cases h2 : inB (x - z) y1 y2 = true
          · have Z := Lib.hid (YES.out (FA.out.2 ⟨IN.1, IN.2, in_true h2⟩))
            have H2 := Lib.hid h2
            clear h1 h2 NO YES FA GL IN PB h0
            go_wp2_with fail
            go_quiet ((go_at_call 31; exact Calls.quiet_of_same (l6In_is x y o true _ H1.out)))
            have e2 := (cell_drewN wr nq _).trans e2
            have e3 := (cell_drewN wr nq _).trans e3
            have f0 := (cell_drewN wr nq _).trans f0
            have f1 := (cell_drewN wr nq _).trans f1
            have HR := Lib.hid (below_drewN HR.out nq)
            clear e0 e1
            generalize wr.drewN nq = wq at *
            go_wp2_with fail
            go_quiet ((go_at_call 31; exact Calls.quiet_of_same (l6In_is (x - z) y1 y2 true _ H2.out)))
            go_wp2_with fail
            go_roundw
            case rel => exact ⟨p + 1 + 1, by go_num, by omega, Z, below_drewN HR.out _⟩
            case measure => simp [intOf] <;> omega
          · have h2' : inB (x - z) y1 y2 = false := by simpa using h2
            have Z := Lib.hid (NO.out (fun q => in_false h2' (FA.out.1 q).2.2))
            have H2 := Lib.hid h2'
            clear h1 h2 h2' NO YES FA GL IN PB h0
            go_wp2_with fail
            go_quiet ((go_at_call 31; exact Calls.quiet_of_same (l6In_is x y o true _ H1.out)))
            have e2 := (cell_drewN wr nq _).trans e2
            have e3 := (cell_drewN wr nq _).trans e3
            have f0 := (cell_drewN wr nq _).trans f0
            have f1 := (cell_drewN wr nq _).trans f1
            have HR := Lib.hid (below_drewN HR.out nq)
            clear e0 e1
            generalize wr.drewN nq = wq at *
            go_wp2_with fail
            go_quiet ((go_at_call 31; exact Calls.quiet_of_same (l6In_is (x - z) y1 y2 false _ H2.out)))
            go_wp2_with fail
            go_ret
            exact ⟨by first | (rw [Z.out]; rfl) | rw [Z.out], below_drewN HR.out _⟩
    · obtain rfl : k = len := by omega
      have Z := Lib.hid (fit_all HW.out (by rw [HL3.out, HL.out]) (by rw [HL.out]; exact hall.out))
      clear hwr
      go_wp2_with fail
      go_ret
      exact ⟨by first | (rw [Z.out]; rfl) | rw [Z.out], HR.out⟩

theorem specFit_b (a a' a3 : Option Addr) (len cap len' cap' n3 c3 : Nat) (L S : List (Int × Int)) (A : List Int) (w : World) (hlc : len ≤ cap) (hm : cap ≤ maxLen) (hlc' : len' ≤ cap') (hm' : cap' ≤ maxLen) (hc3 : n3 ≤ c3) (hm3 : c3 ≤ maxLen) (h : Prs w a len L) (h' : Prs w a' len' S) (h3 : Ints w a3 n3 A) :
    Calls Try.prog 12 #[.slice a len cap, .slice a' len' cap', .slice a3 n3 c3] w fun e w' => e = .returned (.bool (fitB L S A)) ∧ Below w.heap.size w w' :=
  specFit_any a a' a3 len cap len' cap' n3 c3 L S A w hlc hm hlc' hm' hc3 hm3 h h' h3
end Go.Proofs.Ytgendnkemdcjeaa
