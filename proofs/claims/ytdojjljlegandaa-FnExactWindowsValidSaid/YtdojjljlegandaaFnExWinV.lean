/- The walk of FnExactWindowsValid. -/
import Derived.Test.YtdojjljlegandaaWinI
import Derived.Test.YtdojjljlegandaaOpenP
namespace Go.Proofs.Ytdojjljlegandaa
open Go.RowKit
set_option linter.unusedVariables false

theorem specValid_b (a a' : Option Addr) (len cap len' cap' : Nat) (L S : List (Int × Int)) (w : World) (hlc : len ≤ cap) (hm : cap ≤ maxLen) (hlc' : len' ≤ cap') (hm' : cap' ≤ maxLen) (h : Prs w a len L) (h' : Prs w a' len' S) :
    Calls Try.prog 14 #[.slice a len cap, .slice a' len' cap'] w fun e w' => e = .returned (.bool (wvB L S)) ∧ Below w.heap.size w w' := by
  refine (specValid_any a a' len cap len' cap' L S w hlc hm hlc' hm' h h').mono ?_
  rintro e w' ⟨rfl, m, rfl⟩
  exact ⟨rfl, below_drewN (Below.refl _ _) m⟩

set_option maxHeartbeats 800000 in
theorem exactWindowsValid_walk (a : Option Addr) (len cap : Nat) (L : List (Int × Int)) (a' : Option Addr) (len' cap' : Nat) (S : List (Int × Int)) (w : World) (h : IsPairs w a len cap L) (h' : IsPairs w a' len' cap' S) :
    Calls Try.prog 3 #[.slice a len cap, .slice a' len' cap'] w fun e w' => e = .returned (.bool true) ∧ Below w.heap.size w w' := by
  obtain ⟨hP, hlc, hm⟩ := h
  obtain ⟨hQ, hlc', hm'⟩ := h'
  have HP := Lib.hid hP
  have HQ := Lib.hid hQ
  have hm1 : cap ≤ 9223372036854775807 := hm
  have hm2 : cap' ≤ 9223372036854775807 := hm'
  clear hP hQ
  go_enter Try.func3, Try.ntmps3
  go_wp2_with fail
  refine (szWindowS_any _ _ _ _ _ hlc hm (by omega) (by omega)).mono ?_
  rintro e w1 ⟨rfl, rfl⟩
  by_cases hl : 1048576 < len
  · rw [if_pos (by omega)]
    go_wp2_with fail
    go_ret
    exact ⟨rfl, Below.refl _ _⟩
  rw [if_neg (by omega)]
  go_wp2_with fail
  refine (szWindowS_any _ _ _ _ _ hlc' hm' (by omega) (by omega)).mono ?_
  rintro e w1 ⟨rfl, rfl⟩
  by_cases hl2 : 1048576 - (len : Int) < len'
  · rw [if_pos (by omega)]
    go_wp2_with fail
    go_ret
    exact ⟨rfl, Below.refl _ _⟩
  rw [if_neg (by omega)]
  go_wp2_with fail
  have hn : len ≤ maxLen := Nat.le_trans hlc hm
  have hn' : len' ≤ maxLen := Nat.le_trans hlc' hm'
  refine (toWindowS_any _ _ _ L _ hlc hm (by omega) HP.out).mono ?_
  rintro e w1 ⟨g1, rfl, hL, O1, hg1, b1⟩
  have HL := Lib.hid hL
  clear hL
  go_wp2_with fail
  refine (toWindowS_any _ _ _ S _ hlc' hm' (by omega) (HQ.out.below b1)).mono ?_
  rintro e w2 ⟨g2, rfl, hS, O2, hg2, b2⟩
  have HS := Lib.hid hS
  have P1 := Lib.hid ((O1.below b2).prs HL.out (fun _ _ => rfl))
  have P2 := Lib.hid (O2.prs HS.out (fun _ _ => rfl))
  have C2 := Lib.hid (Below.step0 b1 b2)
  clear O1 O2 b1 b2 hS
  go_wp2_with fail
  refine (specValid_b _ _ _ _ _ _ L S _ (Nat.le_refl _) hn (Nat.le_refl _) hn' P1.out P2.out).mono ?_
  rintro e w3 ⟨rfl, b3⟩
  have C3 := Lib.hid (Below.step0 C2.out b3)
  clear P1 P2 C2 b3
  go_wp2_with fail
  refine (toWindowS_any _ _ _ L _ hlc hm (by omega) (HP.out.below C3.out)).mono ?_
  rintro e w4 ⟨g4, rfl, hL, O4, hg4, b4⟩
  have C4 := Lib.hid (Below.step0 C3.out b4)
  have P4 := Lib.hid (O4.prs HL.out (fun _ _ => rfl))
  clear hL O4 b4 C3
  go_wp2_with fail
  refine (toWindowS_any _ _ _ S _ hlc' hm' (by omega) (HQ.out.below C4.out)).mono ?_
  rintro e w5 ⟨g5, rfl, hS, O5, hg5, b5⟩
  have C5 := Lib.hid (Below.step0 C4.out b5)
  have P5 := Lib.hid (P4.out.below b5)
  have Q5 := Lib.hid (O5.prs HS.out (fun _ _ => rfl))
  clear hS O5 b5 C4 P4
  go_wp2_with fail
  refine (implValid_any _ _ _ _ _ _ L S _ (Nat.le_refl _) hn (Nat.le_refl _) hn' P5.out Q5.out (by simp) (by simp)).mono ?_
  rintro e w6 ⟨rfl, b6⟩
  have C6 := Lib.hid (Below.step0 C5.out b6)
  have P6 := Lib.hid (P5.out.below b6)
  have Q6 := Lib.hid (Q5.out.below b6)
  clear b6 C5 P5 Q5
  have t1 : (wvB L S != wvB L S) = false := by simp
  go_wp2_with fail
  refine (toWindowS_any _ _ _ L _ hlc hm (by omega) (HP.out.below C6.out)).mono ?_
  rintro e w7 ⟨g7, rfl, hL, O7, hg7, b7⟩
  have C7 := Lib.hid (Below.step0 C6.out b7)
  have P7 := Lib.hid (P6.out.below b7)
  have Q7 := Lib.hid (Q6.out.below b7)
  have R7 := Lib.hid (O7.prs HL.out (fun _ _ => rfl))
  clear hL O7 b7 C6 P6 Q6
  go_wp2_with fail
  refine (eqWindowS_same _ _ _ _ _ L _ (Nat.le_refl _) hn P7.out R7.out).mono ?_
  rintro e w8 ⟨rfl, b8⟩
  have C8 := Lib.hid (Below.step0 C7.out b8)
  have Q8 := Lib.hid (Q7.out.below b8)
  clear b8 C7 P7 Q7 R7
  go_wp2_with fail
  refine (toWindowS_any _ _ _ S _ hlc' hm' (by omega) (HQ.out.below C8.out)).mono ?_
  rintro e w9 ⟨g9, rfl, hS, O9, hg9, b9⟩
  have C9 := Lib.hid (Below.step0 C8.out b9)
  have Q9 := Lib.hid (Q8.out.below b9)
  have R9 := Lib.hid (O9.prs HS.out (fun _ _ => rfl))
  clear hS O9 b9 C8 Q8
  go_wp2_with fail
  refine (eqWindowS_same _ _ _ _ _ S _ (Nat.le_refl _) hn' Q9.out R9.out).mono ?_
  rintro e w10 ⟨rfl, b10⟩
  have C10 := Lib.hid (Below.step0 C9.out b10)
  clear b10 C9
  go_wp2_with fail
  go_ret
  exact ⟨rfl, C10.out⟩
end Go.Proofs.Ytdojjljlegandaa
