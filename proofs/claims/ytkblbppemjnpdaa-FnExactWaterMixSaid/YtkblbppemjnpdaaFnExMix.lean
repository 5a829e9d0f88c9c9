/- The walk of FnExactWaterMix. -/
import Derived.Test.YtkblbppemjnpdaaWaterS
import Derived.Test.YtkblbppemjnpdaaMixS
import Derived.Test.YtkblbppemjnpdaaOpenP
import Derived.Test.YtkblbppemjnpdaaFracC
namespace Go.Proofs.Ytkblbppemjnpdaa
open Go.RowKit
set_option linter.unusedVariables false

set_option maxHeartbeats 800000 in
theorem exactWaterMix_walk (a : Option Addr) (len cap : Nat) (L : List (Int × Int)) (w : World) (h : IsPairs w a len cap L) :
    Calls Try.prog 5 #[.slice a len cap] w fun e w' => e = .returned (.bool true) ∧ Below w.heap.size w w' := by
  obtain ⟨hP, hlc, hm⟩ := h
  have HP := Lib.hid hP
  have hm' : cap ≤ 9223372036854775807 := hm
  clear hP
  go_enter Try.func5, Try.ntmps5
  go_wp2_with fail
  refine (szWaterS_any _ _ _ _ _ hlc hm (by omega) (by omega)).mono ?_
  rintro e w1 ⟨rfl, rfl⟩
  by_cases hl : 1048576 < len
  · rw [if_pos (by omega)]
    go_wp2_with fail
    go_ret
    exact ⟨rfl, Below.refl _ _⟩
  · rw [if_neg (by omega)]
    go_wp2_with fail
    refine (toWaterS_any _ _ _ L _ hlc hm (by omega) HP.out).mono ?_
    rintro e w1 ⟨g1, rfl, hL, O1, hg1, b1⟩
    have HL := Lib.hid hL
    have hn : len ≤ maxLen := Nat.le_trans hlc hm
    go_wp2_with fail
    refine (specWaterMix_any _ _ _ L _ (Nat.le_refl _) hn (O1.prs HL.out (fun _ _ => rfl))).mono ?_
    rintro e w2 ⟨rfl, b2⟩
    have C2 := Below.step0 b1 b2
    clear O1 b1 b2 hL
    go_wp2_with fail
    refine (toWaterS_any _ _ _ L _ hlc hm (by omega) ((HP.out.below C2).below ((Below.refl _ _).alloc (Nat.le_refl _) _))).mono ?_
    rintro e w3 ⟨g3, rfl, hL, O3, hg3, b3⟩
    have D3 := b3
    have C3 := Below.step1 C2 b3
    have HO := Lib.hid O3
    clear hL O3 C2
    go_wp2_with fail
    refine (waterMix_any _ _ _ L _ (Nat.le_refl _) hn (HO.out.prs HL.out (fun _ _ => rfl))).mono ?_
    rintro e w4 ⟨rfl, b4⟩
    have D4 := Below.step0 D3 b4
    have C4 := Below.step0 C3 b4
    have O4 := Lib.hid (HO.out.below b4)
    obtain ⟨k0, k1, l0⟩ := blk_cells D4
    clear b3 D3 b4 C3 HO
    go_wp2_with fail
    refine (eqWater_any _ _ _ _ _).mono ?_
    rintro e w5 ⟨rfl, b5⟩
    rw [eqPB_self]
    have C5 := Below.step1 C4 b5
    have O5 := Lib.hid ((O4.out.alloc (.cells #[.int .i64 (mxA L), .int .i64 (mxH L)] 25)).below b5)
    have t1 : (mxOk L != mxOk L) = false := by simp
    clear C4 O4 b5 k0 k1
    go_wp2_with fail
    refine (toWaterS_any _ _ _ L _ hlc hm (by omega) (HP.out.below C5)).mono ?_
    rintro e w6 ⟨g6, rfl, hL, O6, hg6, b6⟩
    have P5 := (O5.out.below b6).prs HL.out (fun _ _ => rfl)
    have P6 := O6.prs HL.out (fun _ _ => rfl)
    have C6 := Lib.hid (Below.step0 C5 b6)
    have P5 := Lib.hid P5
    have P6 := Lib.hid P6
    clear hL O6 O5 b6 C5
    go_wp2_with fail
    refine (eqWaterS_same _ _ _ _ _ L _ (Nat.le_refl _) hn P5.out P6.out).mono ?_
    rintro e w7 ⟨rfl, b7⟩
    have C7 := Lib.hid (Below.step0 C6.out b7)
    clear b7 C6
    go_wp2_with fail
    go_ret
    exact ⟨rfl, C7.out⟩
end Go.Proofs.Ytkblbppemjnpdaa
