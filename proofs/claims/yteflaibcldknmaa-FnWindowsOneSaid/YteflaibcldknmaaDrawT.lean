/- Drawn windows: DrawWindowsTight and its like, DrawWindowsValid. -/
import Derived.Test.YteflaibcldknmaaDrawN
namespace Go.Proofs.Yteflaibcldknmaa
open Go.RowKit
set_option linter.unusedVariables false
set_option linter.unusedSimpArgs false

/-- Two new lists of windows. -/
def DrawWP (w : World) (e : Ending) (w' : World) : Prop := ∃ (g g' n m c c' : Nat) (L S : List (Int × Int)), e = .returned (.tuple #[.slice (some ⟨g, 0, none⟩) n c, .slice (some ⟨g', 0, none⟩) m c']) ∧ 1 ≤ n ∧ n ≤ 5 ∧ m ≤ 6 ∧ n ≤ c ∧ m ≤ c' ∧ c ≤ maxLen ∧ c' ≤ maxLen ∧ L.length = n ∧ S.length = m ∧
  OwnF w' g n (pr L) ∧ OwnF w' g' m (pr S) ∧ g ≠ g' ∧ w.heap.size ≤ g ∧ w.heap.size ≤ g' ∧ Below w.heap.size w w'

theorem DrawWP.mk {w w1 w2 : World} {e : Ending} (b1 : Below w.heap.size w w1) (hs : w1.heap.size = w.heap.size + 1) (h : DrawWs w1 w.heap.size 0 e w2) : DrawWP w e w2 := by
  obtain ⟨g, g', n, m, c, c', L, S, h1, h2, h3, h4, h5, h6, h7, h8, h9, h10, h11, h12, h13, h14, h15, h16, h17⟩ := h
  exact ⟨g, g', n, m, c, c', L, S, h1, h2, h3, h4, h5, h6, h7, h8, h9, h10, h11, h12, h13, by omega, by omega, b1.trans (Below.of_grown h17 (by omega) (Nat.le_refl _))⟩
theorem drawYoung_any (a : Option Addr) (len cap : Nat) (w : World) (hc : len ≤ cap) (hm : cap ≤ maxLen) (h : IsBytes w a len) : Calls Try.prog 23 #[.slice a len cap] w (DrawWP w) := by
  have h0 := Lib.hid h
  clear h
  go_enter Try.func23, Try.ntmps23
  go_wp2_with fail
  refine (l6Open_any _ _ _ _ hc hm h0.out).mono ?_
  rintro e w1 ⟨rfl, r1, b1, s1⟩
  have HB := Lib.hid b1
  have HS := Lib.hid s1
  clear b1 s1
  go_wp2_with fail
  refine (l92Windows_any _ 0 _ r1 (by omega)).mono ?_
  rintro e w2 hD
  obtain ⟨g, g', n, m, c, c', L, S, rfl, hD'⟩ := hD
  have HD := Lib.hid (DrawWP.mk HB.out HS.out ⟨g, g', n, m, c, c', L, S, rfl, hD'⟩)
  clear hD' r1
  go_wp2_with fail
  go_ret2
  exact HD.out
theorem drawWide_any (a : Option Addr) (len cap : Nat) (w : World) (hc : len ≤ cap) (hm : cap ≤ maxLen) (h : IsBytes w a len) : Calls Try.prog 13 #[.slice a len cap] w (DrawWP w) := by
  have h0 := Lib.hid h
  clear h
  go_enter Try.func13, Try.ntmps13
  go_wp2_with fail
  refine (l6Open_any _ _ _ _ hc hm h0.out).mono ?_
  rintro e w1 ⟨rfl, r1, b1, s1⟩
  have HB := Lib.hid b1
  have HS := Lib.hid s1
  clear b1 s1
  go_wp2_with fail
  refine (l92Windows_any _ 0 _ r1 (by omega)).mono ?_
  rintro e w2 hD
  obtain ⟨g, g', n, m, c, c', L, S, rfl, hD'⟩ := hD
  have HD := Lib.hid (DrawWP.mk HB.out HS.out ⟨g, g', n, m, c, c', L, S, rfl, hD'⟩)
  clear hD' r1
  go_wp2_with fail
  go_ret2
  exact HD.out

theorem OwnF.kept' {w w' : World} {g n : Nat} {f : Nat → Int × Int} {R : Nat} (h : OwnF w g n f) (hg : w.grownBy w' (some R)) (hR : R < g) : OwnF w' g n f := by
  obtain ⟨c, k⟩ := gk hg g h.1 (by omega)
  refine ⟨Nat.lt_of_lt_of_le h.1 hg.size, fun i hi => ?_⟩
  obtain ⟨q1, q2, q3, q4⟩ := h.2 i hi
  exact ⟨(c _).trans q1, (c _).trans q2, (k _).trans q3, (k _).trans q4⟩
set_option maxHeartbeats 800000
theorem drawValid_any (a : Option Addr) (len cap : Nat) (w : World) (hc : len ≤ cap) (hm : cap ≤ maxLen) (h : IsBytes w a len) : Calls Try.prog 15 #[.slice a len cap] w (DrawWP w) := by
  have h0 := Lib.hid h
  clear h
  go_enter Try.func15, Try.ntmps15
  go_wp2_with fail
  refine (l6Open_any _ _ _ _ hc hm h0.out).mono ?_
  rintro e w1 ⟨rfl, r1, b1, s1⟩
  have HB := Lib.hid b1
  have HS := Lib.hid s1
  clear b1 s1
  go_wp2_with fail
  refine (l92Windows_any _ 0 _ r1 (by omega)).mono ?_
  rintro e w2 ⟨g, g', n, m, c, c', L, S, rfl, n1, n5, m6, hnc, hmc, hcm, hcm', hL, hS, O1, O2, hgg, hg, hg', r2, g2⟩
  have HL := Lib.hid (And.intro hL hS)
  have B2 := Lib.hid (HB.out.trans (Below.of_grown g2 (B := w.heap.size) (by have := HS.out; omega) (Nat.le_refl _)))
  have s2 := HS.out
  have hgw : w.heap.size < g := by omega
  have hgw' : w.heap.size < g' := by omega
  have HO1 := Lib.hid O1
  have HO2 := Lib.hid O2
  clear hL hS O1 O2 g2 r1 HB HS s2
  have x3 : c ≤ 9223372036854775807 := hcm
  have x4 : c' ≤ 9223372036854775807 := hcm'
  go_wp2_with fail
  refine (pick_any _ _ _ _ r2 (by omega) (by omega)).mono ?_
  rintro e w3 ⟨m3, m30, m31, rfl, r3, g3, s3⟩
  have B3 := Lib.hid (B2.out.trans (Below.of_grown g3 (B := w.heap.size) B2.out.size (Nat.le_refl _)))
  have P1 := Lib.hid (HO1.out.kept' g3 (by omega))
  have P2 := Lib.hid (HO2.out.kept' g3 (by omega))
  clear g3 s3 B2 HO1 HO2 r2
  by_cases e0 : m3 = 0
  · subst e0
    go_wp2_with fail
    refine (pick_any _ _ _ _ (r3.alloc _) (by omega) (by omega)).mono ?_
    rintro e w4 ⟨m4, m40, m41, rfl, r4, g4, s4⟩
    have hz := P1.out.1
    have hz3 := B3.out.size
    have B4 := Lib.hid ((B3.out.alloc B3.out.size _).trans (Below.of_grown g4 (B := w.heap.size) (by simp; omega) (Nat.le_refl _)))
    have Q1 := (P1.out.alloc _).kept' g4 (by omega)
    have Q2 := Lib.hid ((P2.out.alloc _).kept' g4 (by omega))
    obtain ⟨k4, l4⟩ := gk g4 w3.heap.size (by simp) (by omega)
    obtain ⟨q1, q2, q3, q4⟩ := Q1.2 0 (by omega)
    simp only [Nat.zero_mul, Nat.zero_add] at q1 q2 q3 q4
    have Q1 := Lib.hid Q1
    clear g4 s4 B3 P1 P2 r3 r4
    have i0 : (0 : Int) < n := by omega
    rcases (show m4 = 0 ∨ m4 = 1 by omega) with e1 | e1
    · subst e1
      go_wp2_with fail
      go_ret2
      have Z := Q1.out.set1 0 (-1)
      simp only [Nat.zero_mul, Nat.zero_add] at Z
      exact ⟨g, g', n, m, c, c', L.set 0 ((pr L 0).1, -1), S, rfl, n1, n5, m6, hnc, hmc, hcm, hcm', by rw [List.length_set]; exact HL.out.1, HL.out.2, Z.congr (fun i hi => by rw [pr_set L 0 _ i (by rw [HL.out.1]; omega)]; split <;> simp_all), Q2.out.far hgg _, hgg, by omega, by omega, B4.out.setCell (Nat.le_of_lt hgw) _⟩
    · subst e1
      go_wp2_with fail
      go_ret2
      have Z := Q1.out.set1 0 100001
      simp only [Nat.zero_mul, Nat.zero_add] at Z
      exact ⟨g, g', n, m, c, c', L.set 0 ((pr L 0).1, 100001), S, rfl, n1, n5, m6, hnc, hmc, hcm, hcm', by rw [List.length_set]; exact HL.out.1, HL.out.2, Z.congr (fun i hi => by rw [pr_set L 0 _ i (by rw [HL.out.1]; omega)]; split <;> simp_all), Q2.out.far hgg _, hgg, by omega, by omega, B4.out.setCell (Nat.le_of_lt hgw) _⟩
  · have d0 : (m3 == 0) = false := by simpa using e0
    go_wp2_with fail
    go_ret2
    exact ⟨g, g', n, m, c, c', L, S, rfl, n1, n5, m6, hnc, hmc, hcm, hcm', HL.out.1, HL.out.2, P1.out, P2.out, hgg, by omega, by omega, B3.out⟩
end Go.Proofs.Yteflaibcldknmaa
