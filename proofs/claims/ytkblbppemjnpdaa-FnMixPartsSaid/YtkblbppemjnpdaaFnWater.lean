/- The walk of FnWater. -/
import Derived.Test.YtkblbppemjnpdaaDrawV
import Derived.Test.YtkblbppemjnpdaaWaterB
namespace Go.Proofs.Ytkblbppemjnpdaa
open Go.RowKit
set_option linter.unusedVariables false

theorem IsRow.le {k : IntKind} {w : World} {a : Option Addr} {len cap : Nat} {zs : List Int} (h : IsRow k w a len cap zs) : len ≤ cap ∧ cap ≤ maxLen := by
  rcases h with ⟨_, rfl, rfl, _⟩ | ⟨x, _, h1, h2, _⟩
  · exact ⟨Nat.le_refl _, by unfold maxLen; omega⟩
  · exact ⟨h1, h2⟩

theorem fnWater_walk (a : Option Addr) (len cap : Nat) (zs : List Int) (w : World) (h : IsRow .u8 w a len cap zs) :
    Calls Try.prog 4 #[.slice a len cap] w fun e w' => e = .returned (.bool true) ∧ Below w.heap.size w w' := by
  obtain ⟨hc, hm⟩ := h.le
  have hm' := hm
  unfold maxLen at hm'
  have h0 := Lib.hid h.bytes
  clear h
  by_cases hl : 1048576 < len
  · go_enter Try.func4, Try.ntmps4
    go_wp2_with fail
    go_ret
    exact ⟨rfl, Below.refl _ _⟩
  · go_enter Try.func4, Try.ntmps4
    go_wp2_with fail
    refine (drawWaterValid_any _ _ _ _ hc hm h0.out).mono ?_
    rintro e w1 ⟨x, y, rfl, hxy, b1⟩
    go_wp2_with fail
    refine (waterValid_any _ _ _).mono ?_
    rintro e w2 ⟨rfl, b2⟩
    obtain ⟨hc2, hf2⟩ := bcell b2
    go_wp2_with fail
    refine (specWaterValid_any _ _ _).mono ?_
    rintro e w3 ⟨rfl, b3⟩
    have b4 := b2.trans (b3.mono b2.size)
    obtain ⟨hc4, hf4⟩ := bcell b4
    clear hc2 hf2
    have hs : w1.heap.size < w3.heap.size := by have := b4.size; simp at this; omega
    have b5 := b1.trans (((Below.refl _ w1).alloc b1.size (.cells #[.int .i64 x, .int .i64 y] 25)).trans (b4.mono (Nat.le_trans b1.size (by simp))))
    have B := Lib.hid b5
    clear b1 b2 b3 b4 b5
    by_cases hv : wvB x y = true
    · have hv1 : wvB x (x + 1) = false := by unfold wvB at *; simp at *; omega
      have hv2 : wvB 0 0 = false := by decide
      have hv3 : wvB x (x - y) = true := by unfold wvB at *; simp at *; omega
      rw [hv]
      have H1 := Lib.hid hv1; have H2 := Lib.hid hv2; have H3 := Lib.hid hv3
      clear hv hv1 hv2 hv3
      go_wp2_with fail
      refine (waterValid_any _ _ _).mono ?_
      rintro e w6 ⟨rfl, b6⟩
      rw [H1.out]
      go_wp2_with fail
      refine (waterValid_any _ _ _).mono ?_
      rintro e w7 ⟨rfl, b7⟩
      rw [H2.out]
      have b8 := b6.trans (b7.mono b6.size)
      obtain ⟨hc8, hf8⟩ := bcell b8
      go_wp2_with fail
      refine (waterValid_any _ _ _).mono ?_
      rintro e w9 ⟨rfl, b9⟩
      rw [H3.out]
      have b10 := b8.trans (b9.mono b8.size)
      have B' := Lib.hid (B.out.trans (b10.mono B.out.size))
      clear hc8 hf8 b6 b7 b8 b9 b10
      go_wp2_with fail
      go_ret
      exact ⟨rfl, B'.out⟩
    · have hv' : wvB x y = false := by simpa using hv
      rw [hv']
      clear hv hv'
      go_wp2_with fail
      go_ret
      exact ⟨rfl, B.out⟩
end Go.Proofs.Ytkblbppemjnpdaa
