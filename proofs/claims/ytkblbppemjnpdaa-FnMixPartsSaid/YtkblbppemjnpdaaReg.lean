/- Words for regions that draw their order and hold calls. -/
import Derived.Test.YtkblbppemjnpdaaStep
import Derived.Deep.RegionHeld3
import Derived.Deep.DeepCutAuto
namespace Go.Proofs.Ytkblbppemjnpdaa
open Go.RowKit
set_option linter.unusedVariables false

theorem Below.al {W w : World} {o : Obj} (C : Below W.heap.size W w) : Below W.heap.size W (w.alloc o) := C.alloc C.size o
theorem Below.und {W w : World} (C : Below W.drew.heap.size W.drew w) : Below W.heap.size W w := ⟨C.os, C.tape, C.output, C.size, C.block⟩
theorem keep2 {W w' : World} {p0 p1 : Addr} {v0 v1 : Value} (k0 : W.cell? p0 = some v0) (k1 : W.cell? p1 = some v1) (C : Below W.heap.size W w') :
    w'.cell? p0 = some v0 ∧ w'.cell? p1 = some v1 ∧ Below W.heap.size W w' :=
  ⟨(C.cell (World.block_lt_of_cell? W _ k0)).trans k0, (C.cell (World.block_lt_of_cell? W _ k1)).trans k1, C⟩
theorem keep4 {W w' : World} {p0 p1 p2 p3 : Addr} {v0 v1 v2 v3 : Value} (k0 : W.cell? p0 = some v0) (k1 : W.cell? p1 = some v1) (k2 : W.cell? p2 = some v2) (k3 : W.cell? p3 = some v3) (C : Below W.heap.size W w') :
    w'.cell? p0 = some v0 ∧ w'.cell? p1 = some v1 ∧ w'.cell? p2 = some v2 ∧ w'.cell? p3 = some v3 ∧ Below W.heap.size W w' :=
  ⟨(C.cell (World.block_lt_of_cell? W _ k0)).trans k0, (C.cell (World.block_lt_of_cell? W _ k1)).trans k1, (C.cell (World.block_lt_of_cell? W _ k2)).trans k2, (C.cell (World.block_lt_of_cell? W _ k3)).trans k3, C⟩
theorem keep6 {W w' : World} {p0 p1 p2 p3 p4 p5 : Addr} {v0 v1 v2 v3 v4 v5 : Value} (k0 : W.cell? p0 = some v0) (k1 : W.cell? p1 = some v1) (k2 : W.cell? p2 = some v2) (k3 : W.cell? p3 = some v3) (k4 : W.cell? p4 = some v4) (k5 : W.cell? p5 = some v5) (C : Below W.heap.size W w') :
    w'.cell? p0 = some v0 ∧ w'.cell? p1 = some v1 ∧ w'.cell? p2 = some v2 ∧ w'.cell? p3 = some v3 ∧ w'.cell? p4 = some v4 ∧ w'.cell? p5 = some v5 ∧ Below W.heap.size W w' :=
  ⟨(C.cell (World.block_lt_of_cell? W _ k0)).trans k0, (C.cell (World.block_lt_of_cell? W _ k1)).trans k1, (C.cell (World.block_lt_of_cell? W _ k2)).trans k2, (C.cell (World.block_lt_of_cell? W _ k3)).trans k3, (C.cell (World.block_lt_of_cell? W _ k4)).trans k4, (C.cell (World.block_lt_of_cell? W _ k5)).trans k5, C⟩

theorem set2a {w1 : World} {g : Nat} {u x y : Value} (o : w1.cell? ⟨g, 0, none⟩ = some u) : ((w1.setCell ⟨g, 0, none⟩ x).setCell ⟨g, 1, none⟩ y).cell? ⟨g, 0, none⟩ = some x := by
  rw [World.cell?_setCell_other _ _ _ _ (by simp)]; exact World.cell?_setCell_same w1 _ _ o
theorem set2b {w1 : World} {g : Nat} {v x y : Value} (o : w1.cell? ⟨g, 1, none⟩ = some v) : ((w1.setCell ⟨g, 0, none⟩ x).setCell ⟨g, 1, none⟩ y).cell? ⟨g, 1, none⟩ = some y := by
  have o' : (w1.setCell ⟨g, 0, none⟩ x).cell? ⟨g, 1, none⟩ = some v := by rw [World.cell?_setCell_other _ _ _ _ (by simp)]; exact o
  exact World.cell?_setCell_same _ _ _ o'

/-- What a call with a struct and a bool leaves: the struct in a new block. -/
def ResAt (W : World) (x y : Value) (ok : Bool) (s t : Value) (wx : World) : Prop := ∃ g : Nat, s = .pointer (some ⟨g, 0, none⟩) ∧ t = .bool ok ∧ wx.cell? ⟨g, 0, none⟩ = some x ∧ wx.cell? ⟨g, 1, none⟩ = some y ∧ W.heap.size ≤ g ∧ Below W.heap.size W wx

end Go.Proofs.Ytkblbppemjnpdaa
