/- FnExactOrderRank: its walk. -/
import Derived.Test.YtjiffbddgbigcaaDoorORankI
import Derived.Test.YtjiffbddgbigcaaDoorORankS
namespace Go.Proofs.YtjiffbddgbigcaaDoor
open Go.RowKit
set_option linter.unusedVariables false
set_option linter.unusedSimpArgs false

theorem exORk (s : ByteArray) (w : World) (hs : s.size ≤ maxLen) :
    Calls Tryd.prog 7 #[.string s] w fun e w' => e = .returned (.bool true) ∧ Below w.heap.size w w' := by
  obtain ⟨l, rfl⟩ : ∃ l, bs l = s := ⟨s.data.toList, bs_of s⟩
  have jb : ((bs l).size : Int) = (l.length : Int) := by rw [bs_size]
  by_cases hl : 1048576 < l.length
  · have i1 : (1048576 : Int) < ((bs l).size : Int) := by rw [jb]; omega
    clear hs jb
    go_enter Tryd.func7, Tryd.ntmps7
    go_wp2_with fail
    go_ret
    exact ⟨rfl, Below.refl _ _⟩
  have i1 : ¬ (1048576 : Int) < ((bs l).size : Int) := by rw [jb]; omega
  have hl2 : l.length ≤ 1048576 := by omega
  clear hs jb hl
  go_enter Tryd.func7, Tryd.ntmps7
  go_wp2_with fail
  refine (specRank_any l hl2 _).mono ?_
  rintro e w1 ⟨rfl, b1⟩
  have B1 := Lib.hid b1
  clear b1
  go_wp2_with fail
  refine (implRank_any l hl2 _).mono ?_
  rintro e w2 ⟨rfl, b2⟩
  have B2 := Lib.hid (Below.step0 B1.out b2)
  clear b2
  go_wp2_with fail
  go_ret
  exact ⟨rfl, B2.out⟩
end Go.Proofs.YtjiffbddgbigcaaDoor
