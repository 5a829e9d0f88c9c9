/- l22Ranges and WindowsValid of the specification. -/
import Derived.Test.YteflaibcldknmaaWinS
import Derived.Deep.QuietTactic
import Derived.BigQuiet
import Derived.StillTailTactics
namespace Go.Proofs.Yteflaibcldknmaa
open Go.RowKit
set_option linter.unusedVariables false
set_option linter.unusedSimpArgs false

set_option maxHeartbeats 1600000 in
theorem l22Ranges_any (a : Option Addr) (len cap : Nat) (L : List (Int × Int)) (w : World) (hlc : len ≤ cap) (hm : cap ≤ maxLen) (h : Prs w a len L) :
    Calls Try.prog 35 #[.slice a len cap] w fun e w' => e = .returned (.bool (rgAllB L)) ∧ ∃ m, w' = w.drewN m := by
  obtain ⟨hL, h2⟩ := h
  have hm' : cap ≤ 9223372036854775807 := hm
  have HL := Lib.hid hL
  clear hL
  have main : ∀ b off : Nat, (a = some ⟨b, off, none⟩ ∧ b < w.heap.size ∧ PrsAt w b off L) ∨ len = 0 → Calls Try.prog 35 #[.slice a len cap] w fun e w' => e = .returned (.bool (rgAllB L)) ∧ ∃ m, w' = w.drewN m := by
    intro b off hp
    have HP := Lib.hid hp
    clear hp
    go_enter Try.func35, Try.ntmps35
    go_wp2_with fail
    go_loopw [3] (fun i wr => ∃ k : Nat, i = .int .i64 k ∧ k ≤ len ∧ Hid (rgAll L k) ∧ ∃ m, wr = w.drewN m) (fun i _ => len - (intOf i).toNat)
    case atStart => exact ⟨0, rfl, Nat.zero_le _, (fun i hi => absurd hi (by omega)), 0, rfl⟩
    case round =>
      obtain ⟨k, rfl, hk, ha, m, hwr⟩ := hrel
      have HW := Lib.hid hwr
      by_cases hlt : k < len
      · rcases HP.out with ⟨rfl, hb, hc⟩ | h0
        · obtain ⟨c0, c1⟩ := hc k (by rw [HL.out]; exact hlt)
          have e0 : wr.cell? ⟨b, off + k * 2, none⟩ = some (.int .i64 (pr L k).1) := by rw [hwr]; exact c0
          have e1 : wr.cell? ⟨b, off + k * 2 + 1, none⟩ = some (.int .i64 (pr L k).2) := by rw [hwr]; exact c1
          clear hwr
          have nk : (k : Int) < (len : Int) := by omega
          have n0 : (0 : Int) ≤ (k : Int) := by omega
          clear c0 c1 hc
          have NO := Lib.hid (fun h => rg_no (L := L) (k := k) (by rw [HL.out]; exact hlt) h)
          have YES := Lib.hid (fun (h : rgB (pr L k) = true) => show rgAll L (k + 1) from fun i hi => by
            by_cases e : i = k
            · subst e; exact h
            · exact ha.out i (by omega))
          have RG := Lib.hid (rg_in (pr L k).1 (pr L k).2)
          have PE : pr L k = ((pr L k).1, (pr L k).2) := rfl
          rw [PE] at NO YES
          clear PE
          generalize (pr L k).1 = y at *
          generalize (pr L k).2 = o at *
          by_cases h1 : inB y 0 100000 = true
          · by_cases h2 : inB o y 100000 = true
            · have A := Lib.hid (YES.out (RG.out.trans (by rw [h1, h2]; rfl)))
              have H1 := Lib.hid h1
              have H2 := Lib.hid h2
              clear h1 h2 NO YES RG
              go_wp2_with fail
              go_quiet ((first | (go_at_call_of 34 (Value.int .i64 o); exact Calls.quiet_of_same (l6In_is o y 100000 true _ H2.out)) | (go_at_call 34; exact Calls.quiet_of_same (l6In_is y 0 100000 true _ H1.out))))
              go_wp2_with fail
              go_roundw
              case rel => exact ⟨k + 1, by go_num, by omega, A, m + nq, by rw [HW.out, World.drewN_drewN]⟩
              case measure => simp [intOf] <;> omega
            · have h2' : inB o y 100000 = false := by simpa using h2
              have A := Lib.hid (NO.out (RG.out.trans (by rw [h1, h2']; rfl)))
              have H1 := Lib.hid h1
              have H2 := Lib.hid h2'
              clear h1 h2 h2' NO YES RG
              go_wp2_with fail
              go_quiet ((first | (go_at_call_of 34 (Value.int .i64 o); exact Calls.quiet_of_same (l6In_is o y 100000 false _ H2.out)) | (go_at_call 34; exact Calls.quiet_of_same (l6In_is y 0 100000 true _ H1.out))))
              go_wp2_with fail
              go_ret
              exact ⟨by rw [A.out]; rfl, m + nq, by rw [HW.out, World.drewN_drewN]⟩
          · have h1' : inB y 0 100000 = false := by simpa using h1
            have A := Lib.hid (NO.out (RG.out.trans (by rw [h1']; rfl)))
            have H1 := Lib.hid h1'
            clear h1 h1' NO YES RG
            go_wp2_with fail
            go_quiet ((go_at_call 34; exact Calls.quiet_of_same (l6In_is y 0 100000 false _ H1.out)))
            go_wp2_with fail
            go_ret
            exact ⟨by rw [A.out]; rfl, m + nq, by rw [HW.out, World.drewN_drewN]⟩
        · omega
      · obtain rfl : k = len := by omega
        have A := Lib.hid (show rgAllB L = true by unfold rgAllB; rw [HL.out]; exact decide_eq_true ha.out)
        clear hwr
        go_wp2_with fail
        go_ret
        exact ⟨by rw [A.out]; rfl, m, HW.out⟩
  rcases h2 with h2 | ⟨b, off, e, hb, hc⟩
  · exact main 0 0 (.inr h2)
  · exact main b off (.inl ⟨e, hb, hc⟩)

def wvB (L S : List (Int × Int)) : Bool := inB L.length 1 12 && (decide ((S.length : Int) = (L.length : Int) - 1) && (rgAllB L && rgAllB S))

theorem l22Ranges_is (a : Option Addr) (len cap : Nat) (L : List (Int × Int)) (v : Bool) (w : World) (n : Nat) (hlc : len ≤ cap) (hm : cap ≤ maxLen) (h : Prs w a len L) (hv : rgAllB L = v) :
    Calls Try.prog 35 #[.slice a len cap] (w.drewN n) fun e w' => e = .returned (.bool v) ∧ ∃ m, w' = (w.drewN n).drewN m := by
  rw [← hv]
  exact l22Ranges_any a len cap L (w.drewN n) hlc hm h

set_option maxHeartbeats 1600000 in
theorem specValid_any (a a' : Option Addr) (len cap len' cap' : Nat) (L S : List (Int × Int)) (w : World) (hlc : len ≤ cap) (hm : cap ≤ maxLen) (hlc' : len' ≤ cap') (hm' : cap' ≤ maxLen) (h : Prs w a len L) (h' : Prs w a' len' S) :
    Calls Try.prog 17 #[.slice a len cap, .slice a' len' cap'] w fun e w' => e = .returned (.bool (wvB L S)) ∧ ∃ m, w' = w.drewN m := by
  have hm1 : cap ≤ 9223372036854775807 := hm
  have hm2 : cap' ≤ 9223372036854775807 := hm'
  have HD : wvB L S = (inB len 1 12 && (decide ((len' : Int) = (len : Int) - 1) && (rgAllB L && rgAllB S))) := by unfold wvB; rw [h.1, h'.1]
  have H := Lib.hid h
  have H' := Lib.hid h'
  clear h h'
  by_cases h1 : inB len 1 12 = true
  · by_cases h2 : (len' : Int) = (len : Int) - 1
    · have t2 : ((len' : Int) == (len : Int) - 1) = true := by simpa using h2
      by_cases h3 : rgAllB L = true
      · have A := Lib.hid (HD.trans (by rw [h1, decide_eq_true h2, h3]; simp : _ = rgAllB S))
        have H1 := Lib.hid h1
        have H3 := Lib.hid h3
        clear h1 h2 h3 HD
        go_enter Try.func17, Try.ntmps17
        go_wp2_with fail
        refine (l6In_is len 1 12 true _ H1.out).mono ?_
        rintro e w1 ⟨rfl, rfl⟩
        go_wp2_with fail
        refine (l22Ranges_is a len cap L true w1 0 hlc hm H.out H3.out).mono ?_
        rintro e _ ⟨rfl, m1, rfl⟩
        go_wp2_with fail
        refine (l22Ranges_any a' len' cap' S (w1.drewN m1) hlc' hm' H'.out).mono ?_
        rintro e _ ⟨rfl, m2, rfl⟩
        go_wp2_with fail
        go_ret
        exact ⟨by rw [A.out]; rfl, m1 + m2, by simp only [World.drewN_drewN]⟩
      · have h3' : rgAllB L = false := by simpa using h3
        have A := Lib.hid (HD.trans (by rw [h3']; simp : _ = false))
        have H1 := Lib.hid h1
        have H3 := Lib.hid h3'
        clear h1 h2 h3 h3' HD
        go_enter Try.func17, Try.ntmps17
        go_wp2_with fail
        refine (l6In_is len 1 12 true _ H1.out).mono ?_
        rintro e w1 ⟨rfl, rfl⟩
        go_wp2_with fail
        refine (l22Ranges_is a len cap L false w1 0 hlc hm H.out H3.out).mono ?_
        rintro e _ ⟨rfl, m1, rfl⟩
        go_wp2_with fail
        go_ret
        exact ⟨by rw [A.out]; rfl, m1, rfl⟩
    · have t2 : ((len' : Int) == (len : Int) - 1) = false := by simpa using h2
      have A := Lib.hid (HD.trans (by rw [decide_eq_false h2]; simp : _ = false))
      have H1 := Lib.hid h1
      clear h1 h2 HD
      go_enter Try.func17, Try.ntmps17
      go_wp2_with fail
      refine (l6In_is len 1 12 true _ H1.out).mono ?_
      rintro e w1 ⟨rfl, rfl⟩
      go_wp2_with fail
      go_ret
      exact ⟨by rw [A.out]; rfl, 0, rfl⟩
  · have h1' : inB len 1 12 = false := by simpa using h1
    have A := Lib.hid (HD.trans (by rw [h1']; simp : _ = false))
    have H1 := Lib.hid h1'
    clear h1 h1' HD
    go_enter Try.func17, Try.ntmps17
    go_wp2_with fail
    refine (l6In_is len 1 12 false _ H1.out).mono ?_
    rintro e w1 ⟨rfl, rfl⟩
    go_wp2_with fail
    go_ret
    exact ⟨by rw [A.out]; rfl, 0, rfl⟩
end Go.Proofs.Yteflaibcldknmaa
