/- frac; cells of blocks. -/
import Derived.Test.YtkblbppemjnpdaaRatioP
import Derived.Test.YtkblbppemjnpdaaReg
namespace Go.Proofs.Ytkblbppemjnpdaa
open Go.RowKit
set_option linter.unusedVariables false

theorem wr_range {a h : Int} (hv : wvB a h = true) : 0 ≤ wrN a h ∧ wrN a h ≤ wrD a h := by
  obtain ⟨_, g, _, _, _, c1, c2, _⟩ := wr_facts hv
  exact ⟨c1, c2⟩

theorem frac_any (n : Int) (w : World) : Calls Try.prog 37 #[.int .i64 n] w fun e w' => e = .returned (.agg #[.int .i64 n, .int .i64 1]) ∧ Below w.heap.size w w' := by
  go_enter Try.func37, Try.ntmps37
  go_wp2_with fail
  refine bodyPost_ret (v := .agg #[.int .i64 n, .int .i64 1]) (by simp [results, Try.results37, go_sem]) rfl ⟨rfl, (Below.refl _ _).alloc (Nat.le_refl _) _⟩
theorem keep8 {W w' : World} {p0 p1 p2 p3 p4 p5 p6 p7 : Addr} {v0 v1 v2 v3 v4 v5 v6 v7 : Value} (k0 : W.cell? p0 = some v0) (k1 : W.cell? p1 = some v1) (k2 : W.cell? p2 = some v2) (k3 : W.cell? p3 = some v3) (k4 : W.cell? p4 = some v4) (k5 : W.cell? p5 = some v5) (k6 : W.cell? p6 = some v6) (k7 : W.cell? p7 = some v7) (C : Below W.heap.size W w') :
    w'.cell? p0 = some v0 ∧ w'.cell? p1 = some v1 ∧ w'.cell? p2 = some v2 ∧ w'.cell? p3 = some v3 ∧ w'.cell? p4 = some v4 ∧ w'.cell? p5 = some v5 ∧ w'.cell? p6 = some v6 ∧ w'.cell? p7 = some v7 ∧ Below W.heap.size W w' :=
  ⟨(C.cell (World.block_lt_of_cell? W _ k0)).trans k0, (C.cell (World.block_lt_of_cell? W _ k1)).trans k1, (C.cell (World.block_lt_of_cell? W _ k2)).trans k2, (C.cell (World.block_lt_of_cell? W _ k3)).trans k3, (C.cell (World.block_lt_of_cell? W _ k4)).trans k4, (C.cell (World.block_lt_of_cell? W _ k5)).trans k5, (C.cell (World.block_lt_of_cell? W _ k6)).trans k6, (C.cell (World.block_lt_of_cell? W _ k7)).trans k7, C⟩

theorem blk_cells {W w' : World} {x y : Value} {t : TypeId} (b : Below (W.alloc (.cells #[x, y] t)).heap.size (W.alloc (.cells #[x, y] t)) w') : w'.cell? ⟨W.heap.size, 0, none⟩ = some x ∧ w'.cell? ⟨W.heap.size, 1, none⟩ = some y ∧ W.heap.size < w'.heap.size :=
  ⟨by rw [b.cell (by simp)]; simp, by rw [b.cell (by simp)]; simp, Below.lt1 b⟩

end Go.Proofs.Ytkblbppemjnpdaa
