/- The walk of FnRatioTwice. -/
import Derived.Test.YtkblbppemjnpdaaFnWater
import Derived.Test.YtkblbppemjnpdaaFrac2
import Derived.Test.YtkblbppemjnpdaaReg
namespace Go.Proofs.Ytkblbppemjnpdaa
open Go.RowKit
set_option linter.unusedVariables false

theorem ratio_twice {x y : Int} (h : wvB x y = true) : (1000 < 2 * x ∧ wrOk (2 * x) (2 * y) = false) ∨ (2 * x ≤ 1000 ∧ wrOk (2 * x) (2 * y) = true ∧ wrN (2 * x) (2 * y) = wrN x y ∧ wrD (2 * x) (2 * y) = wrD x y) := by
  obtain ⟨h1, h2, h3, h4⟩ := wv_bd h
  by_cases hb : 1000 < 2 * x
  · refine .inl ⟨hb, (wr_no ?_).2.2⟩
    unfold wvB; simp; omega
  · have hv : wvB (2 * x) (2 * y) = true := by unfold wvB; simp; omega
    obtain ⟨o1, _, _, _, _, _, _, _, _, _, a1, a2⟩ := wr_facts h
    obtain ⟨o2, _, _, _, _, _, _, _, _, _, b1, b2⟩ := wr_facts hv
    obtain ⟨e1, e2⟩ := red_scale (a := y) (b := x) (c := 2) (by omega) (by omega)
    rw [Int.mul_comm y 2, Int.mul_comm x 2] at e1 e2
    exact .inr ⟨by omega, o2, by rw [b1, a1, e1], by rw [b2, a2, e2]⟩

theorem fnRatioTwice_walk (a : Option Addr) (len cap : Nat) (zs : List Int) (w : World) (h : IsRow .u8 w a len cap zs) :
    Calls Try.prog 10 #[.slice a len cap] w fun e w' => e = .returned (.bool true) ∧ Below w.heap.size w w' := by
  obtain ⟨hc, hm⟩ := h.le
  have hm' := hm
  unfold maxLen at hm'
  have h0 := Lib.hid h.bytes
  clear h
  by_cases hl : 1048576 < len
  · go_enter Try.func10, Try.ntmps10
    go_wp2_with fail
    go_ret
    exact ⟨rfl, Below.refl _ _⟩
  · go_enter Try.func10, Try.ntmps10
    go_wp2_with fail
    refine (drawWaterRatio_any _ _ _ _ hc hm h0.out).mono ?_
    rintro e w1 ⟨x, y, rfl, hxy, b1⟩
    go_wp2_with fail
    refine (waterRatio_any _ _ _).mono ?_
    rintro e w2 ⟨rfl, b2⟩
    obtain ⟨hc2, hf2⟩ := blw b2
    have z2 := Below.lt1 b2
    have C2 := Below.step1 b1 b2
    go_wp2_with fail
    refine (specWaterRatio_any _ _ _).mono ?_
    rintro e w3 ⟨rfl, b3⟩
    have D3 := Below.step1 b2 b3
    have C3 := Below.step1 C2 b3
    obtain ⟨hc3, hf3⟩ := blw D3
    obtain ⟨hd3, hg3⟩ := blw b3
    have z3 := Below.lt1 D3
    have y3 := Below.lt1 b3
    clear hc2 hf2 b2 C2
    by_cases hv : wvB x y = true
    · rw [(wr_facts hv).1]
      obtain ⟨h1, h2, h3, h4⟩ := wv_bd hv
      have T := Lib.hid (ratio_twice hv)
      clear hv
      go_wp2_with fail
      refine (waterRatio_any _ _ _).mono ?_
      rintro e w4 ⟨rfl, b4⟩
      have E4 := Below.step1 D3 b4
      have F4 := Below.step1 b3 b4
      have C4 := Lib.hid (Below.al (o := .cells #[.int .i64 (wrN (2 * x) (2 * y)), .int .i64 (wrD (2 * x) (2 * y))] 43) (Below.step1 C3 b4))
      obtain ⟨hc4, hf4⟩ := blw E4
      obtain ⟨hd4, hg4⟩ := blw F4
      have z4 := Below.lt1 E4
      have y4 := Below.lt1 F4
      clear hc3 hf3 hd3 hg3 b3 D3 C3 E4 F4 b4
      rcases T.out with ⟨q1, q2⟩ | ⟨q1, q2, q3, q4⟩
      · rw [q2]
        have t1 : decide (1000 < 2 * x) = true := by simpa using q1
        clear q2
        go_wp2_with fail
        go_ret
        exact ⟨rfl, C4.out⟩
      · rw [q2, q3, q4]
        rw [q3, q4] at C4
        have t1 : decide (1000 < 2 * x) = false := by simpa using q1
        clear q2 q3 q4
        go_wp2_with fail
        go_ret
        exact ⟨rfl, C4.out⟩
    · have hv' : wvB x y = false := by simpa using hv
      obtain ⟨e1, e2, e3⟩ := wr_no hv'
      rw [e3]
      have G := Lib.hid C3
      clear hv hv' e1 e2 e3 C3 D3
      go_wp2_with fail
      go_ret
      exact ⟨rfl, Below.al G.out⟩
end Go.Proofs.Ytkblbppemjnpdaa
