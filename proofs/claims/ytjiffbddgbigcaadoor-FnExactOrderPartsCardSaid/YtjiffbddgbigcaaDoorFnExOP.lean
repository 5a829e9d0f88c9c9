/- FnExactOrderParts: its walk. -/
import Derived.Test.YtjiffbddgbigcaaDoorOrdP
import Derived.Test.YtjiffbddgbigcaaDoorOrdQ
namespace Go.Proofs.YtjiffbddgbigcaaDoor
open Go.RowKit
set_option linter.unusedVariables false
set_option linter.unusedSimpArgs false

theorem rows_of {lo : Nat} {w : World} {a b : Option Addr} {n m : Nat} {A B : List Int} (h : OwnP lo w a b n m A B) (hA : Ints w a n A) (hB : Ints w b m B) :
    ∃ p p' q q', lo ≤ p ∧ lo ≤ q ∧ (p' ≤ q ∨ q' ≤ p) ∧ RowI w a n A p p' ∧ RowI w b m B q q' := by
  rcases h with ⟨rfl, rfl⟩ | ⟨g, g', rfl, rfl, h1, h2, h3, o1, o2⟩
  · exact ⟨lo, 0, lo, 0, Nat.le_refl _, Nat.le_refl _, .inl (Nat.zero_le _), ⟨hA.1, Nat.zero_le _, .inl hA.1.symm⟩, ⟨hB.1, Nat.zero_le _, .inl hB.1.symm⟩⟩
  · exact ⟨g, g + 1, g', g' + 1, h1, h2, by omega, ⟨hA.1, o1.1, .inr ⟨g, rfl, Nat.le_refl _, by omega, o1⟩⟩, ⟨hB.1, o2.1, .inr ⟨g', rfl, Nat.le_refl _, by omega, o2⟩⟩⟩
theorem pr_lens (l : List UInt8) : (prA l).length ≤ 4 ∧ (prC l).length ≤ 4 := by
  cases h : prB l with
  | false => rw [(prA_no h).1, (prA_no h).2]; simp
  | true =>
    rw [(prA_yes h).1, (prA_yes h).2]
    obtain ⟨g1, g2, g3, _⟩ := ok_true (pr_yes h).1
    omega
set_option maxHeartbeats 1600000 in
theorem exOP (s : ByteArray) (w : World) (hs : s.size ≤ maxLen) :
    Calls Tryd.prog 6 #[.string s] w fun e w' => e = .returned (.bool true) ∧ Below w.heap.size w w' := by
  obtain ⟨l, rfl⟩ : ∃ l, bs l = s := ⟨s.data.toList, bs_of s⟩
  have jb : ((bs l).size : Int) = (l.length : Int) := by rw [bs_size]
  by_cases hl : 1048576 < l.length
  · have i1 : (1048576 : Int) < ((bs l).size : Int) := by rw [jb]; omega
    clear hs jb
    go_enter Tryd.func6, Tryd.ntmps6
    go_wp2_with fail
    go_ret
    exact ⟨rfl, Below.refl _ _⟩
  have i1 : ¬ (1048576 : Int) < ((bs l).size : Int) := by rw [jb]; omega
  have hl2 : l.length ≤ 1048576 := by omega
  obtain ⟨la4, lc4⟩ := pr_lens l
  have t1 : (prB l != prB l) = false := by simp
  clear hs jb hl
  go_enter Tryd.func6, Tryd.ntmps6
  go_wp2_with fail
  refine (specParts_any l hl2 _).mono ?_
  rintro e v1 ⟨a0, b0, n0, m0, d0, d0', rfl, d1, d2, d3, d4, I0, I0', y0⟩
  have J0 := Lib.hid I0
  have J1 := Lib.hid I0'
  have HB := Lib.hid y0
  have sz0 : w.heap.size ≤ v1.heap.size := y0.size
  clear I0 I0' y0
  go_wp2_with fail
  refine (implParts_own l hl2 _).mono ?_
  rintro e v2 ⟨a, b, n, m, c, c', rfl, c1, c2, c3, c4, I1, I1', y1, op⟩
  have hnl := I1.1
  have hml := I1'.1
  obtain ⟨p, p', q, q', hp, hq, hpq, R0, R1⟩ := rows_of op I1 I1'
  have G0 := Lib.hid R0
  have G1 := Lib.hid R1
  have HD := Lib.hid y1
  replace HB := Lib.hid (Below.step0 HB.out y1)
  clear I1 I1' R0 R1 op y1
  rw [hnl] at la4
  rw [hml] at lc4
  go_wp2_with fail
  refine (eqIntS_b _ _ _ _ _ _ (prA l) (prA l) _ c1 c2 d1 d2 G0.out.ints (J0.out.below HD.out)).mono ?_
  rintro e w1 ⟨rfl, b1⟩
  rw [eqI_self]
  replace G0 := Lib.hid (G0.out.below b1)
  replace G1 := Lib.hid (G1.out.below b1)
  replace HB := Lib.hid (Below.step0 HB.out b1)
  replace HD := Lib.hid (Below.step0 HD.out b1)
  clear b1
  go_wp2_with fail
  refine (eqIntS_b _ _ _ _ _ _ (prC l) (prC l) _ c3 c4 d3 d4 G1.out.ints (J1.out.below HD.out)).mono ?_
  rintro e w2 ⟨rfl, b2⟩
  rw [eqI_self]
  replace G0 := Lib.hid (G0.out.below b2)
  replace G1 := Lib.hid (G1.out.below b2)
  replace HB := Lib.hid (Below.step0 HB.out b2)
  replace HD := Lib.hid (Below.step0 HD.out b2)
  clear b2
  go_wp2_with fail
  refine (markIntS_any _ n _ 1 _ _ _ _ c1 c2 (by omega) (by omega) (by omega) G0.out).mono ?_
  rintro e w3 ⟨rfl, r3, x3⟩
  replace G1 := Lib.hid (G1.out.within x3 (by omega))
  replace G0 := Lib.hid r3
  replace HB := Lib.hid (HB.out.trans (x3.below (by omega) HB.out.size))
  replace HD := Lib.hid (HD.out.trans (x3.below (by omega) HD.out.size))
  clear r3 x3
  go_wp2_with fail
  refine (markIntS_any _ m _ _ _ _ _ _ c3 c4 (by omega) (by omega) (by omega) G1.out).mono ?_
  rintro e w4 ⟨rfl, r4, x4⟩
  replace G0 := Lib.hid (G0.out.within x4 (by omega))
  replace G1 := Lib.hid r4
  replace HB := Lib.hid (HB.out.trans (x4.below (by omega) HB.out.size))
  replace HD := Lib.hid (HD.out.trans (x4.below (by omega) HD.out.size))
  clear r4 x4
  go_wp2_with fail
  refine (heldIntS_any _ n _ 1 _ _ _ c1 c2 (by omega) (by omega) (by omega) G0.out).mono ?_
  rintro e _ ⟨rfl, rfl⟩
  go_wp2_with fail
  refine (heldIntS_any _ m _ _ _ _ _ c3 c4 (by omega) (by omega) (by omega) G1.out).mono ?_
  rintro e _ ⟨rfl, rfl⟩
  go_wp2_with fail
  refine (implParts_any l hl2 _).mono ?_
  rintro e v9 ⟨a9, b9, n9, m9, c9, c9', rfl, h1, h2, h3, h4, I9, I9', y9⟩
  replace G0 := Lib.hid (G0.out.below y9)
  replace G1 := Lib.hid (G1.out.below y9)
  replace HB := Lib.hid (Below.step0 HB.out y9)
  replace HD := Lib.hid (Below.step0 HD.out y9)
  have K0 := Lib.hid I9
  have K1 := Lib.hid I9'
  have HE := Lib.hid (Below.refl v9.heap.size v9)
  clear I9 I9' y9
  go_wp2_with fail
  refine (eqIntS_b _ _ _ _ _ _ (prA l) (prA l) _ h1 h2 d1 d2 (K0.out.below HE.out) (J0.out.below HD.out)).mono ?_
  rintro e w7 ⟨rfl, b7⟩
  rw [eqI_self]
  replace G0 := Lib.hid (G0.out.below b7)
  replace G1 := Lib.hid (G1.out.below b7)
  replace HB := Lib.hid (Below.step0 HB.out b7)
  replace HD := Lib.hid (Below.step0 HD.out b7)
  replace HE := Lib.hid (Below.step0 HE.out b7)
  clear b7
  go_wp2_with fail
  refine (eqIntS_b _ _ _ _ _ _ (prC l) (prC l) _ h3 h4 d3 d4 (K1.out.below HE.out) (J1.out.below HD.out)).mono ?_
  rintro e w8 ⟨rfl, b8⟩
  rw [eqI_self]
  replace G0 := Lib.hid (G0.out.below b8)
  replace G1 := Lib.hid (G1.out.below b8)
  replace HB := Lib.hid (Below.step0 HB.out b8)
  replace HD := Lib.hid (Below.step0 HD.out b8)
  replace HE := Lib.hid (Below.step0 HE.out b8)
  clear b8
  go_wp2_with fail
  refine (heldIntS_any _ n _ 1 _ _ _ c1 c2 (by omega) (by omega) (by omega) G0.out).mono ?_
  rintro e _ ⟨rfl, rfl⟩
  go_wp2_with fail
  refine (heldIntS_any _ m _ _ _ _ _ c3 c4 (by omega) (by omega) (by omega) G1.out).mono ?_
  rintro e _ ⟨rfl, rfl⟩
  go_wp2_with fail
  go_ret
  exact ⟨rfl, HB.out⟩
end Go.Proofs.YtjiffbddgbigcaaDoor
