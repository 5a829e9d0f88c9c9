/- The walk of FnRatioEnds. -/
import Derived.Test.YtkblbppemjnpdaaFnWater
import Derived.Test.YtkblbppemjnpdaaFracC
namespace Go.Proofs.Ytkblbppemjnpdaa
open Go.RowKit
set_option linter.unusedVariables false

set_option maxHeartbeats 16000000 in
theorem fnRatioEnds_walk (a : Option Addr) (len cap : Nat) (zs : List Int) (w : World) (h : IsRow .u8 w a len cap zs) :
    Calls Try.prog 13 #[.slice a len cap] w fun e w' => e = .returned (.bool true) ∧ Below w.heap.size w w' := by
  obtain ⟨hc, hm⟩ := h.le
  have hm' := hm
  unfold maxLen at hm'
  have h0 := Lib.hid h.bytes
  clear h
  by_cases hl : 1048576 < len
  · go_enter Try.func13, Try.ntmps13
    go_wp2_with fail
    go_ret
    exact ⟨rfl, Below.refl _ _⟩
  · go_enter Try.func13, Try.ntmps13
    go_wp2_with fail
    refine (drawWaterRatio_any _ _ _ _ hc hm h0.out).mono ?_
    rintro e w1 ⟨x, y, rfl, hxy, b1⟩
    go_wp2_with fail
    refine (waterRatio_any _ _ _).mono ?_
    rintro e w2 ⟨rfl, b2⟩
    obtain ⟨hc2, hf2⟩ := blw b2
    have z2 := Below.lt1 b2
    have C2 := Below.step1 b1 b2
    go_wp2_with fail
    refine (specWaterRatio_any _ _ _).mono ?_
    rintro e w3 ⟨rfl, b3⟩
    have D3 := Below.step1 b2 b3
    have C3 := Below.step1 C2 b3
    obtain ⟨hc3, hf3⟩ := blw D3
    obtain ⟨hd3, hg3⟩ := blw b3
    have z3 := Below.lt1 D3
    have y3 := Below.lt1 b3
    clear hc2 hf2 b2 C2
    by_cases hv : wvB x y = true
    · rw [(wr_facts hv).1]
      obtain ⟨h1, h2, h3, h4⟩ := wv_bd hv
      have T0 := Lib.hid (ratio_zero hv)
      have T1 := Lib.hid (ratio_one hv)
      have T2 := Lib.hid (ratio_next hv)
      clear hv
      go_wp2_with fail
      refine (waterRatio_any _ _ _).mono ?_
      rintro e w4 ⟨rfl, b4⟩
      have D4 := Below.step1 D3 b4
      have E4 := Below.step1 b3 b4
      have C4 := Below.step1 C3 b4
      obtain ⟨hc4, hf4⟩ := blw D4
      have z4 := Below.lt1 D4
      clear hc3 hf3 hd3 hg3 b3 D3 C3 b4
      go_wp2_with fail
      refine (waterRatio_any _ _ _).mono ?_
      rintro e w5 ⟨rfl, b5⟩
      have D5 := Below.step1 D4 b5
      have E5 := Below.step1 E4 b5
      have C5 := Below.step1 C4 b5
      obtain ⟨hc5, hf5⟩ := blw D5
      have z5 := Below.lt1 D5
      clear hc4 hf4 D4 C4 E4
      go_wp2_with fail
      refine (waterRatio_any _ _ _).mono ?_
      rintro e w6 ⟨rfl, b6⟩
      have E6 := Below.step1 E5 b6
      have F6 := Below.step1 b5 b6
      have C6 := Below.step1 C5 b6
      clear hc5 hf5 D5 C5 E5 b5
      obtain ⟨j4, j5, l4⟩ := blk_cells E6
      obtain ⟨j0, j1, l0⟩ := blk_cells F6
      obtain ⟨j2, j3, l2⟩ := blk_cells b6
      have k0 : (w6.alloc (.cells #[.int .i64 (wrN x (y + 1)), .int .i64 (wrD x (y + 1))] 43)).cell? ⟨w4.heap.size, 0, none⟩ = _ := (World.cell?_alloc_past _ _ _ l0).trans j0
      have k1 : (w6.alloc (.cells #[.int .i64 (wrN x (y + 1)), .int .i64 (wrD x (y + 1))] 43)).cell? ⟨w4.heap.size, 1, none⟩ = _ := (World.cell?_alloc_past _ _ _ l0).trans j1
      have k2 : (w6.alloc (.cells #[.int .i64 (wrN x (y + 1)), .int .i64 (wrD x (y + 1))] 43)).cell? ⟨w5.heap.size, 0, none⟩ = _ := (World.cell?_alloc_past _ _ _ l2).trans j2
      have k3 : (w6.alloc (.cells #[.int .i64 (wrN x (y + 1)), .int .i64 (wrD x (y + 1))] 43)).cell? ⟨w5.heap.size, 1, none⟩ = _ := (World.cell?_alloc_past _ _ _ l2).trans j3
      have k4 : (w6.alloc (.cells #[.int .i64 (wrN x (y + 1)), .int .i64 (wrD x (y + 1))] 43)).cell? ⟨w2.heap.size, 0, none⟩ = _ := (World.cell?_alloc_past _ _ _ l4).trans j4
      have k5 : (w6.alloc (.cells #[.int .i64 (wrN x (y + 1)), .int .i64 (wrD x (y + 1))] 43)).cell? ⟨w2.heap.size, 1, none⟩ = _ := (World.cell?_alloc_past _ _ _ l4).trans j5
      have k6 : (w6.alloc (.cells #[.int .i64 (wrN x (y + 1)), .int .i64 (wrD x (y + 1))] 43)).cell? ⟨w6.heap.size, 0, none⟩ = some (.int .i64 (wrN x (y + 1))) := by simp
      have k7 : (w6.alloc (.cells #[.int .i64 (wrN x (y + 1)), .int .i64 (wrD x (y + 1))] 43)).cell? ⟨w6.heap.size, 1, none⟩ = some (.int .i64 (wrD x (y + 1))) := by simp
      have C7 := Lib.hid (Below.al (o := (.cells #[.int .i64 (wrN x (y + 1)), .int .i64 (wrD x (y + 1))] 43)) C6)
      clear C6 E6 F6 b6 j0 j1 j2 j3 j4 j5
      rw [T0.out.1, T1.out.1]
      rw [T0.out.2.1] at k0
      rw [T0.out.2.2] at k1
      rw [T1.out.2.1] at k2
      rw [T1.out.2.2] at k3
      clear T0 T1
      rcases T2.out with ⟨q0, q1⟩ | ⟨q1, q2⟩
      · rw [q1]
        clear q0 q1 k4 k5 k6 k7 l0 l2 l4 z2 z3 z4 z5 y3 T2
        go_wp2_with fail
        go_region_with (first | (go_at_call 37; (with_reducible refine (frac_any _ _).mono ?_); rintro e w1 ⟨rfl, b1⟩; (first | (have A := Below.step0 A b1; obtain ⟨m0, m1, m2, m3, _⟩ := keep4 k0 k1 k2 k3 A) | (have A := Below.und b1; obtain ⟨m0, m1, m2, m3, _⟩ := keep4 k0 k1 k2 k3 A))))
        all_goals
          go_wp2_with fail
          go_ret
          exact ⟨rfl, Below.step0 C7.out A⟩
      · rw [q1]
        have Q2 := Lib.hid q2
        clear q1 q2
        go_wp2_with fail
        go_region_held3 (fun w' => w'.cell? ⟨w4.heap.size, 0, none⟩ = some (.int .i64 (0)) ∧ w'.cell? ⟨w4.heap.size, 1, none⟩ = some (.int .i64 (1)) ∧ w'.cell? ⟨w5.heap.size, 0, none⟩ = some (.int .i64 (1)) ∧ w'.cell? ⟨w5.heap.size, 1, none⟩ = some (.int .i64 (1)) ∧ w'.cell? ⟨w2.heap.size, 0, none⟩ = some (.int .i64 (wrN x y)) ∧ w'.cell? ⟨w2.heap.size, 1, none⟩ = some (.int .i64 (wrD x y)) ∧ w'.cell? ⟨w6.heap.size, 0, none⟩ = some (.int .i64 (wrN x (y + 1))) ∧ w'.cell? ⟨w6.heap.size, 1, none⟩ = some (.int .i64 (wrD x (y + 1))) ∧ Below (w6.alloc (.cells #[.int .i64 (wrN x (y + 1)), .int .i64 (wrD x (y + 1))] 43)).heap.size (w6.alloc (.cells #[.int .i64 (wrN x (y + 1)), .int .i64 (wrD x (y + 1))] 43)) w')
          (first | exact keep8 k0 k1 k2 k3 k4 k5 k6 k7 (Below.refl _ _).drew | (go_split_ands; exact keep8 k0 k1 k2 k3 k4 k5 k6 k7 (Below.step0 (by assumption) b1)) | (go_split_ands; exact keep8 k0 k1 k2 k3 k4 k5 k6 k7 (by assumption)) | (go_split_ands; exact keep8 k0 k1 k2 k3 k4 k5 k6 k7 (Below.al (by assumption))) | exact keep8 k0 k1 k2 k3 k4 k5 k6 k7 (Below.al (Below.und A)) | (go_split_ands; exact keep8 k0 k1 k2 k3 k4 k5 k6 k7 (Below.setCell (Below.setCell (by assumption) (by first | omega | (simp at *; omega) | simp) _) (by first | omega | (simp at *; omega) | simp) _)))
          (first | (go_at_call 37; (with_reducible refine (frac_any _ _).mono ?_); rintro e w1 ⟨rfl, b1⟩; have hz1 := b1.size; (first | (have A := Below.step0 A b1; obtain ⟨hc1, hf1⟩ := blw A) | (have A := b1; obtain ⟨hc1, hf1⟩ := blw A))) | (go_at_call 38; (with_reducible refine (fracLess_any _ _ _ _ _).mono ?_); rintro e w1 ⟨rfl, b1⟩; have hz1 := b1.size; (first | (have A := Below.step0 A b1; obtain ⟨hc1, hf1⟩ := blw A) | (have A := b1; obtain ⟨hc1, hf1⟩ := blw A))))
        all_goals
          rw [Q2.out]
          go_wp2_with fail
          go_ret
          exact ⟨rfl, Below.step0 C7.out (Below.und A)⟩
    · have hv' : wvB x y = false := by simpa using hv
      rw [(wr_no hv').2.2]
      have G := Lib.hid (Below.al (o := (.cells #[.int .i64 (wrN x y), .int .i64 (wrD x y)] 43)) C3)
      clear hv hv' C3 D3
      go_wp2_with fail
      go_ret
      exact ⟨rfl, G.out⟩
end Go.Proofs.Ytkblbppemjnpdaa
