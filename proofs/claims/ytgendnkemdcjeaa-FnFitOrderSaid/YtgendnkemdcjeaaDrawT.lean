/- Drawn windows: DrawWindowsTight and its like, DrawWindowsValid. -/
import Derived.Test.YtgendnkemdcjeaaDrawN
namespace Go.Proofs.Ytgendnkemdcjeaa
open Go.RowKit
set_option linter.unusedVariables false
set_option linter.unusedSimpArgs false

/-- Two new lists of windows. -/
def DrawWP (w : World) (e : Ending) (w' : World) : Prop := ∃ (g g' n m c c' : Nat) (L S : List (Int × Int)), e = .returned (.tuple #[.slice (some ⟨g, 0, none⟩) n c, .slice (some ⟨g', 0, none⟩) m c']) ∧ 1 ≤ n ∧ n ≤ 5 ∧ m ≤ 6 ∧ n ≤ c ∧ m ≤ c' ∧ c ≤ maxLen ∧ c' ≤ maxLen ∧ L.length = n ∧ S.length = m ∧
  OwnF w' g n (pr L) ∧ OwnF w' g' m (pr S) ∧ g ≠ g' ∧ w.heap.size ≤ g ∧ w.heap.size ≤ g' ∧ Below w.heap.size w w'

theorem DrawWP.mk {w w1 w2 : World} {e : Ending} (b1 : Below w.heap.size w w1) (hs : w1.heap.size = w.heap.size + 1) (h : DrawWs w1 w.heap.size 0 e w2) : DrawWP w e w2 := by
  obtain ⟨g, g', n, m, c, c', L, S, h1, h2, h3, h4, h5, h6, h7, h8, h9, h10, h11, h12, h13, h14, h15, h16, h17⟩ := h
  exact ⟨g, g', n, m, c, c', L, S, h1, h2, h3, h4, h5, h6, h7, h8, h9, h10, h11, h12, h13, by omega, by omega, b1.trans (Below.of_grown h17 (by omega) (Nat.le_refl _))⟩
theorem drawYoung_any (a : Option Addr) (len cap : Nat) (w : World) (hc : len ≤ cap) (hm : cap ≤ maxLen) (h : IsBytes w a len) : Calls Try.prog 24 #[.slice a len cap] w (DrawWP w) := by
  have h0 := Lib.hid h
  clear h
  go_enter Try.func24, Try.ntmps24
  go_wp2_with fail
  refine (l6Open_any _ _ _ _ hc hm h0.out).mono ?_
  rintro e w1 ⟨rfl, r1, b1, s1⟩
  have HB := Lib.hid b1
  have HS := Lib.hid s1
  clear b1 s1
  go_wp2_with fail
  refine (l92Windows_any _ 0 _ r1 (by omega)).mono ?_
  rintro e w2 hD
  obtain ⟨g, g', n, m, c, c', L, S, rfl, hD'⟩ := hD
  have HD := Lib.hid (DrawWP.mk HB.out HS.out ⟨g, g', n, m, c, c', L, S, rfl, hD'⟩)
  clear hD' r1
  go_wp2_with fail
  go_ret2
  exact HD.out
theorem drawOld_any (a : Option Addr) (len cap : Nat) (w : World) (hc : len ≤ cap) (hm : cap ≤ maxLen) (h : IsBytes w a len) : Calls Try.prog 19 #[.slice a len cap] w (DrawWP w) := by
  have h0 := Lib.hid h
  clear h
  go_enter Try.func19, Try.ntmps19
  go_wp2_with fail
  refine (l6Open_any _ _ _ _ hc hm h0.out).mono ?_
  rintro e w1 ⟨rfl, r1, b1, s1⟩
  have HB := Lib.hid b1
  have HS := Lib.hid s1
  clear b1 s1
  go_wp2_with fail
  refine (l92Windows_any _ 0 _ r1 (by omega)).mono ?_
  rintro e w2 hD
  obtain ⟨g, g', n, m, c, c', L, S, rfl, hD'⟩ := hD
  have HD := Lib.hid (DrawWP.mk HB.out HS.out ⟨g, g', n, m, c, c', L, S, rfl, hD'⟩)
  clear hD' r1
  go_wp2_with fail
  go_ret2
  exact HD.out

theorem OwnF.kept' {w w' : World} {g n : Nat} {f : Nat → Int × Int} {R : Nat} (h : OwnF w g n f) (hg : w.grownBy w' (some R)) (hR : R < g) : OwnF w' g n f := by
  obtain ⟨c, k⟩ := gk hg g h.1 (by omega)
  refine ⟨Nat.lt_of_lt_of_le h.1 hg.size, fun i hi => ?_⟩
  obtain ⟨q1, q2, q3, q4⟩ := h.2 i hi
  exact ⟨(c _).trans q1, (c _).trans q2, (k _).trans q3, (k _).trans q4⟩
set_option maxHeartbeats 800000
end Go.Proofs.Ytgendnkemdcjeaa
