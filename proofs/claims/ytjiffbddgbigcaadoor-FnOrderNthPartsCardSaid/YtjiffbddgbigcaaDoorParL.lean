/- What the walks of the laws on parts share. -/
import Derived.Test.YtjiffbddgbigcaaDoorORankI
import Derived.Test.YtjiffbddgbigcaaDoorORankS
import Derived.Test.YtjiffbddgbigcaaDoorDrawR
namespace Go.Proofs.YtjiffbddgbigcaaDoor
open Go.RowKit
set_option linter.unusedVariables false
set_option linter.unusedSimpArgs false

theorem nth_is (a b : Option Addr) (la ca lb cb : Nat) (A B : List Int) (n : Int) (w : World) (hla : la ≤ ca) (hma : ca ≤ maxLen) (hlb : lb ≤ cb) (hmb : cb ≤ maxLen) (h : Ints w a la A) (h' : Ints w b lb B) (ha : a ≠ none) (hb : b ≠ none) (hlim : la + lb ≤ 3000000) {t : List UInt8} {p : Bool} (ht : nthT A B n = t) (hp : nthB A B n = p) :
    Calls Tryd.prog 12 #[.slice a la ca, .slice b lb cb, .int .i64 n] w fun e w' => e = .returned (.tuple #[.string (bs t), .bool p]) ∧ Below w.heap.size w w' := by
  subst ht hp; exact implNth_any a b la ca lb cb A B n w hla hma hlb hmb h h' ha hb hlim
theorem count_is (a b : Option Addr) (la ca lb cb : Nat) (A B : List Int) (w : World) (hla : la ≤ ca) (hma : ca ≤ maxLen) (hlb : lb ≤ cb) (hmb : cb ≤ maxLen) (h : Ints w a la A) (h' : Ints w b lb B) (ha : a ≠ none) (hb : b ≠ none) (hlim : la + lb ≤ 3000000) {v : Int} (hv : cntV A B = v) :
    Calls Tryd.prog 15 #[.slice a la ca, .slice b lb cb] w fun e w' => e = .returned (.int .i64 v) ∧ Below w.heap.size w w' := by
  subst hv; exact implCount_any a b la ca lb cb A B w hla hma hlb hmb h h' ha hb hlim
theorem nth_at {A B : List Int} {r : Nat} (h : okB A B = true) (hr : r < tl A B 0) : nthT A B (r : Int) = ordT A B r ∧ nthB A B (r : Int) = true := by
  have y := nthB_mk h hr
  exact ⟨nthT_yes y, y⟩
theorem rank_is (l : List UInt8) (hl : l.length ≤ 1048576) (w : World) {v : Int} (hv : rkV l = v) :
    Calls Tryd.prog 14 #[.string (bs l)] w fun e w' => e = .returned (.int .i64 v) ∧ Below w.heap.size w w' := by
  subst hv; exact implRank_any l hl w
theorem parts_yes (l : List UInt8) (hl : l.length ≤ 1048576) (hp : prB l = true) (w : World) :
    Calls Tryd.prog 16 #[.string (bs l)] w fun e w' => ∃ (ba oa bb ob n c c' : Nat), e = .returned (.tuple #[.slice (some ⟨ba, oa, none⟩) n c, .slice (some ⟨bb, ob, none⟩) n c', .bool true]) ∧ n ≤ c ∧ c ≤ maxLen ∧ n ≤ c' ∧ c' ≤ maxLen ∧ 1 ≤ n ∧ n ≤ 4 ∧ (cA l).length = n ∧ (cB l).length = n ∧ Ints w' (some ⟨ba, oa, none⟩) n (cA l) ∧ Ints w' (some ⟨bb, ob, none⟩) n (cB l) ∧ Below w.heap.size w w' := by
  refine (implParts_any l hl w).mono ?_
  rintro e w1 ⟨a, b, n, m, c, c', rfl, h1, h2, h3, h4, I1, I2, b1⟩
  rw [(prA_yes hp).1] at I1
  rw [(prA_yes hp).2] at I2
  obtain ⟨g1, g2, g3, g4, g5⟩ := ok_true (pr_yes hp).1
  have nA : (cA l).length = n := I1.1
  have nB : (cB l).length = m := I2.1
  obtain rfl : m = n := by omega
  obtain ⟨ba, oa, rfl⟩ : ∃ bb off, a = some ⟨bb, off, none⟩ := by
    rcases I1.2 with q | ⟨bb, off, q1, q2, q3⟩
    · omega
    · exact ⟨bb, off, q1⟩
  obtain ⟨bb, ob, rfl⟩ : ∃ bb off, b = some ⟨bb, off, none⟩ := by
    rcases I2.2 with q | ⟨bb, off, q1, q2, q3⟩
    · omega
    · exact ⟨bb, off, q1⟩
  rw [hp]
  exact ⟨ba, oa, bb, ob, m, c, c', rfl, h1, h2, h3, h4, by omega, by omega, nA, nB, I1, I2, b1⟩
theorem parts_not (l : List UInt8) (hl : l.length ≤ 1048576) (hp : prB l = false) (w : World) :
    Calls Tryd.prog 16 #[.string (bs l)] w fun e w' => ∃ (a b : Option Addr) (c c' : Nat), e = .returned (.tuple #[.slice a 0 c, .slice b 0 c', .bool false]) ∧ c ≤ maxLen ∧ c' ≤ maxLen ∧ Below w.heap.size w w' := by
  refine (implParts_any l hl w).mono ?_
  rintro e w1 ⟨a, b, n, m, c, c', rfl, h1, h2, h3, h4, I1, I2, b1⟩
  rw [(prA_no hp).1] at I1
  rw [(prA_no hp).2] at I2
  obtain rfl : 0 = n := I1.1
  obtain rfl : 0 = m := I2.1
  rw [hp]
  exact ⟨a, b, c, c', rfl, h2, h4, b1⟩
theorem rkV_nat {l : List UInt8} (h : prB l = true) : rkV l = ((rkN l : Nat) : Int) := by
  unfold rkV
  rw [if_pos h]
theorem rkN_cnt {l : List UInt8} (h : prB l = true) : (rkN l : Int) < cntV (cA l) (cB l) := by
  rw [cntV_tl (pr_yes h).1]
  have := rkN_lt h
  omega
theorem rkN_nth {l : List UInt8} (h : prB l = true) : nthT (cA l) (cB l) ((rkN l : Nat) : Int) = l ∧ nthB (cA l) (cB l) ((rkN l : Nat) : Int) = true := by
  have y := nth_at (pr_yes h).1 (rkN_lt h)
  rw [ord_rkN h] at y
  exact y
end Go.Proofs.YtjiffbddgbigcaaDoor
