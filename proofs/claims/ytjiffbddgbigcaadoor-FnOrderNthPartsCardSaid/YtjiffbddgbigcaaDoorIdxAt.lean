/- A letter of a text. -/
import Derived.Test.YtjiffbddgbigcaaDoorStrs
namespace Go.Proofs.YtjiffbddgbigcaaDoor
open Go.RowKit
set_option linter.unusedVariables false
set_option linter.unusedSimpArgs false

theorem idx_at (W : World) (l : List UInt8) (j : Nat) (hj : j < l.length) : (Instr.index 9 (.string (bs l)) (.int .i64 (j : Int))).run Tryd.prog W = .ok (.int .u8 ((l[j]'hj).toNat : Int)) W := by
  rw [run_index_string W _ _ _ _ Tryd.underlying9, dif_pos ⟨by omega, by rw [bs_size]; omega⟩]
  rfl
end Go.Proofs.YtjiffbddgbigcaaDoor
