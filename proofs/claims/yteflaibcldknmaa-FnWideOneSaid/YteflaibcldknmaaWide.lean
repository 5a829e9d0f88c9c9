/- WindowsWide of both packages. -/
import Derived.Test.YteflaibcldknmaaTightS
import Derived.Test.YteflaibcldknmaaTightI
import Derived.Test.YteflaibcldknmaaFitP
namespace Go.Proofs.Yteflaibcldknmaa
open Go.RowKit
set_option linter.unusedVariables false
set_option linter.unusedSimpArgs false

def wdV (L S : List (Int × Int)) : Int := if tkB L S = true then wide (tw L S L.length) L.length else -1
theorem wdV_yes {L S : List (Int × Int)} (h : tkB L S = true) : wdV L S = wide (tw L S L.length) L.length := by unfold wdV; rw [if_pos h]
theorem wdV_no {L S : List (Int × Int)} (h : tkB L S = false) : wdV L S = -1 := by unfold wdV; rw [if_neg (by simp [h])]
theorem wide_tw {L S : List (Int × Int)} (h : tkB L S = true) (k : Nat) (hk : k ≤ L.length) : 0 ≤ wide (tw L S L.length) k ∧ wide (tw L S L.length) k ≤ k * 100000 :=
  wide_bd (fun i hi => by
    have a := (tk_true h).2 i (by omega)
    have b := tw_bd (tk_true h).1 i (by omega)
    omega)

set_option maxHeartbeats 1600000 in
theorem implWide_any (a a' : Option Addr) (len cap len' cap' : Nat) (L S : List (Int × Int)) (w : World) (hlc : len ≤ cap) (hm : cap ≤ maxLen) (hlc' : len' ≤ cap') (hm' : cap' ≤ maxLen) (h : Prs w a len L) (h' : Prs w a' len' S) (ha : a ≠ none) (ha' : a' ≠ none) :
    Calls Try.prog 11 #[.slice a len cap, .slice a' len' cap'] w fun e w' => e = .returned (.int .i64 (wdV L S)) ∧ Below w.heap.size w w' := by
  have H := Lib.hid h
  have H' := Lib.hid h'
  have HA := Lib.hid ha
  have HA' := Lib.hid ha'
  clear h h' ha ha'
  go_enter Try.func11, Try.ntmps11
  go_wp2_with fail
  refine (implTight_any _ _ _ _ _ _ L S _ hlc hm hlc' hm' H.out H'.out HA.out HA'.out).mono ?_
  rintro e w1 ⟨a1, n1, c1, rfl, R1, hc1, hm1, b1, y1⟩
  have x5 : c1 ≤ 9223372036854775807 := hm1
  by_cases hk : tkB L S = true
  · obtain ⟨g1, rfl, hn1, hg1, o1⟩ := y1 hk
    rw [hk]
    have HN := Lib.hid hn1.symm
    have O1 := Lib.hid (show OwnF w1 g1 n1 (pr (twl L S)) by rw [hn1]; exact o1)
    have W := wd_true (tk_true hk).1
    have l12 : n1 ≤ 12 := by omega
    have HK := Lib.hid hk
    have HB := Lib.hid b1
    clear hk y1 o1 hn1 R1 b1 W hg1
    go_wp2_with fail
    go_loopw [7, 20] (fun v i wr => ∃ k : Nat, i = .int .i64 k ∧ k ≤ n1 ∧ v = .int .i64 (wide (tw L S L.length) k) ∧ Below w1.heap.size w1 wr) (fun _ i _ => n1 - (intOf i).toNat)
    case atStart => exact ⟨0, rfl, Nat.zero_le _, rfl, Below.refl _ _⟩
    case round =>
      obtain ⟨k, rfl, hk', rfl, rb⟩ := hrel
      by_cases hlt : k < n1
      · obtain ⟨q1, q2, q3, q4⟩ := (O1.out.below rb).2 k hlt
        rw [twl_pr L S k (by rw [HN.out]; exact hlt)] at q1 q2
        have WB := wide_tw HK.out k (by rw [HN.out]; exact hk')
        have BD := tw_bd (tk_true HK.out).1 k (by rw [HN.out]; exact hlt)
        have E := Lib.hid (show wide (tw L S L.length) (k + 1) = wide (tw L S L.length) k + ((tw L S L.length k).2 - (tw L S L.length k).1) from rfl)
        generalize (tw L S L.length k).1 = x1 at *
        generalize (tw L S L.length k).2 = x2 at *
        generalize wide (tw L S L.length) k = s at *
        have i1 : (0 : Int) ≤ (k : Int) := by omega
        have i2 : (k : Int) < (n1 : Int) := by omega
        have a1 : IntKind.i64.wrap (x2 - x1) = x2 - x1 := IntWalk.i64_in _ (by omega)
        have b1 : -1000000000 ≤ s + (x2 - x1) := by omega
        have b2 : s + (x2 - x1) ≤ 1000000000 := by omega
        have HR := Lib.hid rb
        clear rb a1 WB
        go_wp2_with fail
        go_roundw
        case rel => exact ⟨k + 1, by go_num, by omega, by rw [E.out], HR.out.alloc HR.out.size _⟩
        case measure => simp [intOf] <;> omega
      · obtain rfl : n1 = k := by omega
        have Z := Lib.hid (show wdV L S = wide (tw L S L.length) n1 from by rw [wdV_yes HK.out, HN.out])
        have HR := Lib.hid rb
        clear rb
        go_wp2_with fail
        go_ret
        exact ⟨ret_int Z.out.symm, Below.step0 HB.out HR.out⟩
  · have hk' : tkB L S = false := by simpa using hk
    rw [hk']
    have HK := Lib.hid hk'
    have HB := Lib.hid b1
    clear hk hk' y1 R1 b1
    go_wp2_with fail
    go_ret
    exact ⟨ret_int (wdV_no HK.out).symm, HB.out⟩

set_option maxHeartbeats 1600000 in
theorem specWide_any (a a' : Option Addr) (len cap len' cap' : Nat) (L S : List (Int × Int)) (w : World) (hlc : len ≤ cap) (hm : cap ≤ maxLen) (hlc' : len' ≤ cap') (hm' : cap' ≤ maxLen) (h : Prs w a len L) (h' : Prs w a' len' S) :
    Calls Try.prog 9 #[.slice a len cap, .slice a' len' cap'] w fun e w' => e = .returned (.int .i64 (wdV L S)) ∧ Below w.heap.size w w' := by
  have H := Lib.hid h
  have H' := Lib.hid h'
  clear h h'
  go_enter Try.func9, Try.ntmps9
  go_wp2_with fail
  refine (specTight_any _ _ _ _ _ _ L S _ hlc hm hlc' hm' H.out H'.out).mono ?_
  rintro e w1 ⟨a1, n1, c1, rfl, R1, hc1, hm1, b1, y1⟩
  have x5 : c1 ≤ 9223372036854775807 := hm1
  by_cases hk : tkB L S = true
  · obtain ⟨g1, rfl, hn1, hg1, o1⟩ := y1 hk
    rw [hk]
    have HN := Lib.hid hn1.symm
    have O1 := Lib.hid (show OwnF w1 g1 n1 (pr (twl L S)) by rw [hn1]; exact o1)
    have W := wd_true (tk_true hk).1
    have l12 : n1 ≤ 12 := by omega
    have HK := Lib.hid hk
    have HB := Lib.hid b1
    clear hk y1 o1 hn1 R1 b1 W hg1
    go_wp2_with fail
    go_loopw [7, 8] (fun v i wr => ∃ k : Nat, i = .int .i64 k ∧ k ≤ n1 ∧ v = .int .i64 (wide (tw L S L.length) k) ∧ Below w1.heap.size w1 wr) (fun _ i _ => n1 - (intOf i).toNat)
    case atStart => exact ⟨0, rfl, Nat.zero_le _, rfl, Below.refl _ _⟩
    case round =>
      obtain ⟨k, rfl, hk', rfl, rb⟩ := hrel
      by_cases hlt : k < n1
      · obtain ⟨q1, q2, q3, q4⟩ := (O1.out.below rb).2 k hlt
        rw [twl_pr L S k (by rw [HN.out]; exact hlt)] at q1 q2
        have WB := wide_tw HK.out k (by rw [HN.out]; exact hk')
        have BD := tw_bd (tk_true HK.out).1 k (by rw [HN.out]; exact hlt)
        have E := Lib.hid (show wide (tw L S L.length) (k + 1) = wide (tw L S L.length) k + ((tw L S L.length k).2 - (tw L S L.length k).1) from rfl)
        generalize (tw L S L.length k).1 = x1 at *
        generalize (tw L S L.length k).2 = x2 at *
        generalize wide (tw L S L.length) k = s at *
        have i1 : (0 : Int) ≤ (k : Int) := by omega
        have i2 : (k : Int) < (n1 : Int) := by omega
        have a1 : IntKind.i64.wrap (s + x2) = s + x2 := IntWalk.i64_in _ (by omega)
        have a2 : IntKind.i64.wrap (s + x2 - x1) = s + x2 - x1 := IntWalk.i64_in _ (by omega)
        have HR := Lib.hid rb
        clear rb WB
        go_wp2_with fail
        go_quiet (fail)
        clear a1 a2
        go_wp2_with fail
        go_roundw
        case rel => exact ⟨k + 1, by go_num, by omega, by rw [E.out, show s + (x2 - x1) = s + x2 - x1 by omega], below_drewN HR.out nq⟩
        case measure => simp [intOf] <;> omega
      · obtain rfl : n1 = k := by omega
        have Z := Lib.hid (show wdV L S = wide (tw L S L.length) n1 from by rw [wdV_yes HK.out, HN.out])
        have HR := Lib.hid rb
        clear rb
        go_wp2_with fail
        go_ret
        exact ⟨ret_int Z.out.symm, Below.step0 HB.out HR.out⟩
  · have hk' : tkB L S = false := by simpa using hk
    rw [hk']
    have HK := Lib.hid hk'
    have HB := Lib.hid b1
    clear hk hk' y1 R1 b1
    go_wp2_with fail
    go_ret
    exact ⟨ret_int (wdV_no HK.out).symm, HB.out⟩

end Go.Proofs.Yteflaibcldknmaa
