/- The walk of FnRatio. -/
import Derived.Test.YtkblbppemjnpdaaFnWater
import Derived.Test.YtkblbppemjnpdaaFracC
namespace Go.Proofs.Ytkblbppemjnpdaa
open Go.RowKit
set_option linter.unusedVariables false

set_option maxHeartbeats 1600000 in
theorem fnRatio_walk (a : Option Addr) (len cap : Nat) (zs : List Int) (w : World) (h : IsRow .u8 w a len cap zs) :
    Calls Try.prog 15 #[.slice a len cap] w fun e w' => e = .returned (.bool true) ∧ Below w.heap.size w w' := by
  obtain ⟨hc, hm⟩ := h.le
  have hm' := hm
  unfold maxLen at hm'
  have h0 := Lib.hid h.bytes
  clear h
  by_cases hl : 1048576 < len
  · go_enter Try.func15, Try.ntmps15
    go_wp2_with fail
    go_ret
    exact ⟨rfl, Below.refl _ _⟩
  · go_enter Try.func15, Try.ntmps15
    go_wp2_with fail
    refine (drawWaterRatio_any _ _ _ _ hc hm h0.out).mono ?_
    rintro e w1 ⟨x, y, rfl, hxy, b1⟩
    go_wp2_with fail
    refine (waterRatio_any _ _ _).mono ?_
    rintro e w2 ⟨rfl, b2⟩
    obtain ⟨hc2, hf2⟩ := blw b2
    have z2 := Below.lt1 b2
    have C2 := Below.step1 b1 b2
    go_wp2_with fail
    refine (specWaterRatio_any _ _ _).mono ?_
    rintro e w3 ⟨rfl, b3⟩
    have D3 := Below.step1 b2 b3
    have C3 := Below.step1 C2 b3
    obtain ⟨hc3, hf3⟩ := blw D3
    obtain ⟨hd3, hg3⟩ := blw b3
    have z3 := Below.lt1 D3
    have y3 := Below.lt1 b3
    clear hc2 hf2 b2 C2
    by_cases hv : wvB x y = true
    · rw [(wr_facts hv).1]
      obtain ⟨h1, h2, h3, h4⟩ := wv_bd hv
      have T0 := Lib.hid (ratio_sum hv)
      obtain ⟨c1, c2⟩ := wr_range hv
      clear hv
      go_wp2_with fail
      refine (waterRatio_any _ _ _).mono ?_
      rintro e w4 ⟨rfl, b4⟩
      have E4 := Below.step1 b3 b4
      have C4 := Below.step1 C3 b4
      obtain ⟨hd4, hg4⟩ := blw E4
      have z4 := Below.lt1 E4
      clear hc3 hf3 hd3 hg3 b3 D3 C3 b4
      go_wp2_with fail
      refine (fracAdd_any _ _ _ _ _).mono ?_
      rintro e w5 ⟨rfl, b5⟩
      have E5 := Below.step1 E4 b5
      have C5 := Below.step1 C4 b5
      obtain ⟨j2, j3, l2⟩ := blk_cells E5
      have k2 : (w5.alloc (.cells #[.int .i64 (faN (wrN x y) (wrD x y) (wrN x (x - y)) (wrD x (x - y))), .int .i64 (faD (wrN x y) (wrD x y) (wrN x (x - y)) (wrD x (x - y)))] 43)).cell? ⟨w2.heap.size, 0, none⟩ = _ := (World.cell?_alloc_past _ _ _ l2).trans j2
      have k3 : (w5.alloc (.cells #[.int .i64 (faN (wrN x y) (wrD x y) (wrN x (x - y)) (wrD x (x - y))), .int .i64 (faD (wrN x y) (wrD x y) (wrN x (x - y)) (wrD x (x - y)))] 43)).cell? ⟨w2.heap.size, 1, none⟩ = _ := (World.cell?_alloc_past _ _ _ l2).trans j3
      have k0 : (w5.alloc (.cells #[.int .i64 (faN (wrN x y) (wrD x y) (wrN x (x - y)) (wrD x (x - y))), .int .i64 (faD (wrN x y) (wrD x y) (wrN x (x - y)) (wrD x (x - y)))] 43)).cell? ⟨w5.heap.size, 0, none⟩ = some (.int .i64 1) := by rw [T0.out.2.2.1]; simp
      have k1 : (w5.alloc (.cells #[.int .i64 (faN (wrN x y) (wrD x y) (wrN x (x - y)) (wrD x (x - y))), .int .i64 (faD (wrN x y) (wrD x y) (wrN x (x - y)) (wrD x (x - y)))] 43)).cell? ⟨w5.heap.size, 1, none⟩ = some (.int .i64 1) := by rw [T0.out.2.2.2]; simp
      have C7 := Lib.hid (Below.al (o := (.cells #[.int .i64 (faN (wrN x y) (wrD x y) (wrN x (x - y)) (wrD x (x - y))), .int .i64 (faD (wrN x y) (wrD x y) (wrN x (x - y)) (wrD x (x - y)))] 43)) C5)
      clear C4 C5 E4 E5 b5 hd4 hg4 j2 j3 l2 z2 z3 z4 y3
      rw [T0.out.1, T0.out.2.1]
      have t1 : decide (0 ≤ wrN x y) = true := by simpa using c1
      have t2 : decide (wrN x y ≤ wrD x y) = true := by simpa using c2
      clear T0
      go_wp2_with fail
      go_region_held3 (fun w' => w'.cell? ⟨w5.heap.size, 0, none⟩ = some (.int .i64 1) ∧ w'.cell? ⟨w5.heap.size, 1, none⟩ = some (.int .i64 1) ∧ w'.cell? ⟨w2.heap.size, 0, none⟩ = some (.int .i64 (wrN x y)) ∧ w'.cell? ⟨w2.heap.size, 1, none⟩ = some (.int .i64 (wrD x y)) ∧ Below (w5.alloc (.cells #[.int .i64 (faN (wrN x y) (wrD x y) (wrN x (x - y)) (wrD x (x - y))), .int .i64 (faD (wrN x y) (wrD x y) (wrN x (x - y)) (wrD x (x - y)))] 43)).heap.size (w5.alloc (.cells #[.int .i64 (faN (wrN x y) (wrD x y) (wrN x (x - y)) (wrD x (x - y))), .int .i64 (faD (wrN x y) (wrD x y) (wrN x (x - y)) (wrD x (x - y)))] 43)) w')
        (first | exact keep4 k0 k1 k2 k3 (Below.refl _ _).drew | (go_split_ands; exact keep4 k0 k1 k2 k3 (Below.step0 (by assumption) b1)) | (go_split_ands; exact keep4 k0 k1 k2 k3 (by assumption)) | (go_split_ands; exact keep4 k0 k1 k2 k3 (Below.al (by assumption))) | exact keep4 k0 k1 k2 k3 (Below.al (Below.und A)) | (go_split_ands; exact keep4 k0 k1 k2 k3 (Below.setCell (Below.setCell (by assumption) (by first | omega | (simp at *; omega) | simp) _) (by first | omega | (simp at *; omega) | simp) _)))
        (first | (go_at_call 37; (with_reducible refine (frac_any _ _).mono ?_); rintro e w1 ⟨rfl, b1⟩; have hz1 := b1.size; (first | (have A := Below.step0 A b1; obtain ⟨hc1, hf1⟩ := blw A) | (have A := b1; obtain ⟨hc1, hf1⟩ := blw A))))
      all_goals
        go_wp2_with fail
        go_ret
        exact ⟨rfl, Below.step0 C7.out (Below.und A)⟩
    · have hv' : wvB x y = false := by simpa using hv
      rw [(wr_no hv').2.2]
      have G := Lib.hid (Below.al (o := (.cells #[.int .i64 (wrN x y), .int .i64 (wrD x y)] 43)) C3)
      clear hv hv' C3 D3
      go_wp2_with fail
      go_ret
      exact ⟨rfl, G.out⟩
end Go.Proofs.Ytkblbppemjnpdaa
