/- The walk of FnMixAmount. -/
import Derived.Test.YtkblbppemjnpdaaMixP
namespace Go.Proofs.Ytkblbppemjnpdaa
open Go.RowKit
set_option linter.unusedVariables false

set_option maxHeartbeats 800000 in
theorem fnMixAmount_walk (a : Option Addr) (len cap : Nat) (zs : List Int) (w : World) (h : IsRow .u8 w a len cap zs) :
    Calls Try.prog 6 #[.slice a len cap] w fun e w' => e = .returned (.bool true) ∧ Below w.heap.size w w' := by
  obtain ⟨hc, hm⟩ := h.le
  have hm' := hm
  unfold maxLen at hm'
  have h0 := Lib.hid h.bytes
  clear h
  by_cases hl : 1048576 < len
  · go_enter Try.func6, Try.ntmps6
    go_wp2_with fail
    go_ret
    exact ⟨rfl, Below.refl _ _⟩
  · go_enter Try.func6, Try.ntmps6
    go_wp2_with fail
    refine (drawWaterMix_any _ _ _ _ hc hm h0.out).mono ?_
    rintro e w1 ⟨a', n, cp, L, rfl, n7, hnc, hcm, P1, b1⟩
    have HP1 := Lib.hid P1
    clear P1
    go_wp2_with fail
    refine (waterMix_any _ _ _ L _ hnc hcm HP1.out).mono ?_
    rintro e w2 ⟨rfl, b2⟩
    have C2 := Below.step0 b1 b2
    have HP2 := Lib.hid ((HP1.out.below b2).below ((Below.refl _ _).alloc (Nat.le_refl _) (.cells #[.int .i64 (mxA L), .int .i64 (mxH L)] 25)))
    clear HP1 b2
    go_wp2_with fail
    refine (specWaterMix_any _ _ _ L _ hnc hcm HP2.out).mono ?_
    rintro e w3 ⟨rfl, b3⟩
    have C3 := Below.al (o := .cells #[.int .i64 (mxA L), .int .i64 (mxH L)] 25) (Below.step1 C2 b3)
    obtain ⟨k0, k1, l0⟩ := blk_cells b3
    have HP3 := Lib.hid ((HP2.out.below b3).below ((Below.refl _ _).alloc (Nat.le_refl _) (.cells #[.int .i64 (mxA L), .int .i64 (mxH L)] 25)))
    clear HP2 C2
    have D3 := Lib.hid b3
    have HC := Lib.hid C3
    clear b3 C3
    by_cases hok : mxOk L = true
    rotate_left
    · have hok' : mxOk L = false := by simpa using hok
      rw [hok']
      clear hok hok'
      go_wp2_with fail
      go_ret
      exact ⟨rfl, HC.out⟩
    rw [hok]
    obtain ⟨hL, hP⟩ := HP3.out
    have T := Lib.hid (mx_true hok)
    obtain ⟨b, off, rfl, hb, hcell⟩ : ∃ b off : Nat, a' = some ⟨b, off, none⟩ ∧ b < (w3.alloc (.cells #[.int .i64 (mxA L), .int .i64 (mxH L)] 25)).heap.size ∧ PrsAt (w3.alloc (.cells #[.int .i64 (mxA L), .int .i64 (mxH L)] 25)) b off L := by
      rcases hP with hP | hP
      · have := T.out.1; omega
      · exact hP
    have HL := Lib.hid hL
    have HCell := Lib.hid hcell
    have V := Lib.hid (mx_yes hok)
    have n1 : 1 ≤ n := by have := T.out.1; rw [HL.out] at this; exact this
    have n6 : n ≤ 6 := by have := T.out.2.1; rw [HL.out] at this; exact this
    clear hok hL hcell HP3
    go_wp2_with fail
    go_loop [8, 9, 10] (fun s t i => ∃ k : Nat, i = .int .i64 k ∧ k ≤ n ∧ s = .int .i64 (psA L k) ∧ t = .int .i64 (psH L k)) (fun _ _ i => n - (intOf i).toNat)
    case atStart => exact ⟨0, rfl, Nat.zero_le _, rfl, rfl⟩
    case round =>
      obtain ⟨k, rfl, hk, rfl, rfl⟩ := hrel
      have hal : mxAll L k := fun i hi => T.out.2.2.1 i (by rw [HL.out]; omega)
      obtain ⟨q1, q2, q3, q4⟩ := ps_bd hal
      have hal := Lib.hid hal
      by_cases hlt : k < n
      · obtain ⟨e0, e1⟩ := HCell.out k (by rw [HL.out]; exact hlt)
        obtain ⟨p1, p2, p3, p4⟩ := wv_bd' (T.out.2.2.1 k (by rw [HL.out]; exact hlt))
        go_wp2_with fail
        go_round
        case rel => exact ⟨k + 1, by go_num, by omega, rfl, rfl⟩
        case measure => simp [intOf]; omega
      · obtain rfl : k = n := by omega
        have E1 : mxA L = psA L k := by rw [V.out.1, HL.out]
        have E2 : mxH L = psH L k := by rw [V.out.2.1, HL.out]
        have t1 : (mxA L == psA L k) = true := by rw [E1]; simp
        have t2 : (mxH L == psH L k) = true := by rw [E2]; simp
        have W := Lib.hid (show wvB (mxA L) (mxH L) = true by rw [E1, E2, ← HL.out]; exact T.out.2.2.2)
        clear E1 E2
        go_wp2_with fail
        refine (waterValid_any _ _ _).mono ?_
        rintro e w4 ⟨rfl, b4⟩
        rw [W.out]
        have C4 := Lib.hid (Below.step0 HC.out b4)
        clear b4
        go_wp2_with fail
        go_ret
        exact ⟨rfl, C4.out⟩
end Go.Proofs.Ytkblbppemjnpdaa
