/- Worlds that change within a range of blocks. -/
import Derived.Test.YtjiffbddgbigcaaDoorB1
namespace Go.Proofs.YtjiffbddgbigcaaDoor
open Go.RowKit
set_option linter.unusedVariables false

/-- What changes lies in the blocks from lo on, below hi. -/
structure Within (lo hi : Nat) (w w' : World) : Prop where
  os : w'.os = w.os
  tape : w'.tape = w.tape
  output : w'.output = w.output
  size : w.heap.size ≤ w'.heap.size
  block : ∀ i, i < w.heap.size → (i < lo ∨ hi ≤ i) → w'.heap[i]? = w.heap[i]?

theorem Within.refl (lo hi : Nat) (w : World) : Within lo hi w w := ⟨rfl, rfl, rfl, Nat.le_refl _, fun _ _ _ => rfl⟩
theorem Within.setCell {lo hi : Nat} {w w' : World} (h : Within lo hi w w') {p : Addr} (h1 : lo ≤ p.block) (h2 : p.block < hi) (v : Value) : Within lo hi w (w'.setCell p v) :=
  ⟨h.os, h.tape, h.output, by simpa [World.setCell] using h.size, fun i hi' ho => (Below.heap_setCell _ _ _ _ (by omega)).trans (h.block i hi' ho)⟩
theorem Within.below {lo hi B : Nat} {w w' : World} (h : Within lo hi w w') (h1 : B ≤ lo) (h2 : B ≤ w.heap.size) : Below B w w' :=
  ⟨h.os, h.tape, h.output, by first | exact h.size | exact Nat.le_trans h2 h.size, fun i hi' => h.block i (by omega) (.inl (by omega))⟩

end Go.Proofs.YtjiffbddgbigcaaDoor
