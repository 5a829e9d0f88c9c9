/- DrawOrderRank, DrawOrderParts. -/
import Derived.Test.YtjiffbddgbigcaaDoorDrawP
import Derived.Test.YtjiffbddgbigcaaDoorRkP
namespace Go.Proofs.YtjiffbddgbigcaaDoor
open Go.RowKit
set_option linter.unusedVariables false
set_option linter.unusedSimpArgs false

def drT : List (List UInt8) := [[], [124], [97, 98, 120], [97, 97, 97, 97, 97, 97, 97], [97, 124, 98, 124, 97, 124, 98, 124, 97], [124, 124, 124, 124]]
set_option maxHeartbeats 800000 in
theorem of_any (R g k : Nat) (w : World) (r : Rd w R k) (hk : k ≤ 100000) (hRg : R < g) (hg : g < w.heap.size) (hc : ∀ i, i < 6 → w.cell? ⟨g, i, none⟩ = some (.string (bs (gS drT i)))) :
    Calls Tryd.prog 41 #[.pointer (some ⟨R, 0, none⟩), .slice (some ⟨g, 0, none⟩) 6 6] w fun e w' => ∃ i, i < 6 ∧ e = .returned (.string (bs (gS drT i))) ∧ w.grownBy w' (some R) := by
  have HC := Lib.hid hc
  clear hc
  go_enter Tryd.func41, Tryd.ntmps41
  go_wp2_with fail
  refine (pick_any _ _ _ _ r (by omega) (by omega)).mono ?_
  rintro e w1 ⟨m, m0, m1, rfl, r1, g1, s1⟩
  obtain ⟨i, rfl⟩ : ∃ i : Nat, m = (i : Int) := ⟨m.toNat, by omega⟩
  have hi : i < 6 := by omega
  have u0 : w1.cell? ⟨g, i, none⟩ = some (.string (bs (gS drT i))) := ((gk g1 g hg (by omega)).1 i).trans (HC.out i hi)
  have G1 := Lib.hid g1
  have i1 : (i : Int) < 6 := by omega
  have i2 : (0 : Int) ≤ (i : Int) := by omega
  clear g1 s1 m0 m1
  obtain ⟨P, hP⟩ : ∃ P, gS drT i = P := ⟨_, rfl⟩
  rw [hP] at u0
  have HPP := Lib.hid hP
  clear hP HC
  go_wp2_with fail
  go_ret
  exact ⟨_, hi, by rw [HPP.out]; rfl, G1.out⟩
def DrawS (w : World) (e : Ending) (w' : World) : Prop := ∃ l : List UInt8, e = .returned (.string (bs l)) ∧ l.length ≤ 100 ∧ Below w.heap.size w w'
theorem drT_len (i : Nat) : (gS drT i).length ≤ 100 := by
  by_cases h : i < 6
  · have : ∀ i, i < 6 → (gS drT i).length ≤ 100 := by decide
    exact this i h
  · unfold gS
    rw [List.getD_eq_getElem?_getD, List.getElem?_eq_none (by show 6 ≤ i; omega)]
    decide
theorem drT_cells (w : World) : ∀ i, i < 6 → (w.alloc (.cells #[.string ⟨#[]⟩, .string ⟨#[124]⟩, .string ⟨#[97, 98, 120]⟩, .string ⟨#[97, 97, 97, 97, 97, 97, 97]⟩, .string ⟨#[97, 124, 98, 124, 97, 124, 98, 124, 97]⟩, .string ⟨#[124, 124, 124, 124]⟩] 9)).cell? ⟨w.heap.size, i, none⟩ = some (.string (bs (gS drT i))) := by
  have o := World.ownsRow_lit (base := w.heap.size) (e := 9) (size := 1) w #[.string ⟨#[]⟩, .string ⟨#[124]⟩, .string ⟨#[97, 98, 120]⟩, .string ⟨#[97, 97, 97, 97, 97, 97, 97]⟩, .string ⟨#[97, 124, 98, 124, 97, 124, 98, 124, 97]⟩, .string ⟨#[124, 124, 124, 124]⟩] 6 (by simp) (by unfold maxLen; omega) (by simp)
  intro i hi
  rw [o.cellAt i (by omega)]
  rcases (show i = 0 ∨ i = 1 ∨ i = 2 ∨ i = 3 ∨ i = 4 ∨ i = 5 by omega) with rfl | rfl | rfl | rfl | rfl | rfl <;> rfl
theorem nthT_len {A B : List Int} {n : Int} : (nthT A B n).length ≤ 100 := by
  cases h : nthB A B n with
  | false => rw [nthT_no h]; simp
  | true =>
    rw [nthT_yes h]
    have ok := (nthB_yes h).1
    have g := ok_true ok
    have := ordT_len ok n.toNat (k := A.length) (Nat.le_refl _)
    unfold ordT
    omega
set_option maxHeartbeats 1600000 in
theorem drawOR_any (a : Option Addr) (len cap : Nat) (w : World) (hc : len ≤ cap) (hm : cap ≤ maxLen) (h : IsBytes w a len) :
    Calls Tryd.prog 18 #[.slice a len cap] w (DrawS w) := by
  have H0 := Lib.hid h
  go_enter Tryd.func18, Tryd.ntmps18
  go_wp2_with fail
  refine (l6Open_any _ _ _ _ hc hm h).mono ?_
  rintro e w1 ⟨rfl, r1, b1, s1⟩
  have B1 := Lib.hid b1
  clear b1 h
  go_wp2_with fail
  refine (drawON_any _ _ _ _ hc hm (IsBytes.kept H0.out B1.out)).mono ?_
  rintro e w2 ⟨g, g', n, m, c, c', A, B, v, rfl, n1, n3, m1, m2, hc1, hc2, hc3, hc4, hA, hB, bA, bB, O1, O2, hgg, v1, v2, b2⟩
  have I1 := Lib.hid (O1.ints hA (fun _ _ => rfl))
  have I2 := Lib.hid (O2.ints hB (fun _ _ => rfl))
  have r2 := r1.below2 b2 (by omega)
  have B2 := Lib.hid (Below.step0 B1.out b2)
  have s2 := b2.size
  clear O1 O2 bA bB b2 B1 H0 r1 hA hB
  go_wp2_with fail
  refine (specNth_any _ _ _ _ _ _ A B v _ hc1 hc3 hc2 hc4 I1.out I2.out).mono ?_
  rintro e w3 ⟨rfl, d, hw3⟩
  have hR : w.heap.size < w2.heap.size := by omega
  have r3 : Rd w3 w.heap.size 0 := by rw [hw3]; exact r2.below2 (below_drewN (Below.refl _ _) d) hR
  have B3 := Lib.hid (show Below w.heap.size w w3 by rw [hw3]; exact below_drewN B2.out d)
  have hsz : w2.heap.size ≤ w3.heap.size := by rw [hw3]; simp
  have NL := Lib.hid (nthT_len (A := A) (B := B) (n := v))
  clear hw3 r2 B2 I1 I2
  have last : ∀ (W : World) (k : Nat), Rd W w.heap.size k → k ≤ 1000 → w.heap.size < W.heap.size → Below w.heap.size w W → Calls Tryd.prog 41 #[.pointer (some ⟨w.heap.size, 0, none⟩), .slice (some ⟨W.heap.size, 0, none⟩) 6 6] (W.alloc (.cells #[.string ⟨#[]⟩, .string ⟨#[124]⟩, .string ⟨#[97, 98, 120]⟩, .string ⟨#[97, 97, 97, 97, 97, 97, 97]⟩, .string ⟨#[97, 124, 98, 124, 97, 124, 98, 124, 97]⟩, .string ⟨#[124, 124, 124, 124]⟩] 9)) (DrawS w) := by
    intro W k r hk hW b
    refine (of_any _ _ k _ (r.alloc _) (by omega) hW (by simp) (drT_cells W)).mono ?_
    rintro e w9 ⟨i, hi, rfl, g9⟩
    exact ⟨_, rfl, drT_len i, (b.alloc b.size _).grown g9 (by rw [World.size_alloc]; have := b.size; omega) (fun j e => by cases e; omega)⟩
  have LAST := Lib.hid last
  clear last
  cases hb : nthB A B v with
  | false =>
    go_wp2_with fail
    refine (LAST.out _ _ r3 (by omega) (by omega) B3.out).mono ?_
    rintro e w4 ⟨l, rfl, hl, b⟩
    have B4 := Lib.hid b
    clear b
    go_wp2_with fail
    go_ret
    exact ⟨l, rfl, hl, B4.out⟩
  | true =>
    obtain ⟨q, hq⟩ : ∃ q, nthT A B v = q := ⟨_, rfl⟩
    rw [hq]
    rw [hq] at NL
    clear hq
    go_wp2_with fail
    refine (pick_any _ _ _ _ r3 (by omega) (by omega)).mono ?_
    rintro e w4 ⟨m3, m30, m31, rfl, r4, g4, s4⟩
    have B4 := Lib.hid (B3.out.grown g4 B3.out.size (fun j e => by cases e; exact Nat.le_refl _))
    have s5 := g4.size
    clear g4 B3 r3 s4
    by_cases hz : m3 = 0
    · subst hz
      go_wp2_with fail
      refine (LAST.out _ _ r4 (by omega) (by omega) B4.out).mono ?_
      rintro e w5 ⟨l, rfl, hl, b⟩
      have B5 := Lib.hid b
      clear b
      go_wp2_with fail
      go_ret
      exact ⟨l, rfl, hl, B5.out⟩
    · have hz2 : (m3 == 0) = false := by simpa using hz
      go_wp2_with fail
      go_ret
      exact ⟨q, rfl, NL.out, B4.out⟩
theorem drawOP_any (a : Option Addr) (len cap : Nat) (w : World) (hc : len ≤ cap) (hm : cap ≤ maxLen) (h : IsBytes w a len) :
    Calls Tryd.prog 24 #[.slice a len cap] w (DrawS w) := by
  go_enter Tryd.func24, Tryd.ntmps24
  go_wp2_with fail
  refine (drawOR_any _ _ _ _ hc hm h).mono ?_
  rintro e w1 ⟨l, rfl, hl, b⟩
  go_wp2_with fail
  go_ret
  exact ⟨l, rfl, hl, b⟩
end Go.Proofs.YtjiffbddgbigcaaDoor
