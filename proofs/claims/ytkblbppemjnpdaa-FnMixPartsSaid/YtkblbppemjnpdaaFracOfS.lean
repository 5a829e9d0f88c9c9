/- Contracts: FracOf of the reference. -/
import Derived.Test.YtkblbppemjnpdaaFracOf
namespace Go.Proofs.Ytkblbppemjnpdaa
open Go.RowKit
set_option linter.unusedVariables false

set_option maxHeartbeats 400000 in
theorem specFracOf_big (a b : Int) (w : World) (hb0 : b ≠ 0) (ha : -4000000000000000000 ≤ a) (ha2 : a ≤ 4000000000000000000) (hb : -4000000000000000000 ≤ b) (hb2 : b ≤ 4000000000000000000) :
    Calls Try.prog 46 #[.int .i64 a, .int .i64 b] w (FoPost w a b) := by
  have t0 : (b == 0) = false := by simpa using hb0
  have hbig : bigB a b = true := by unfold bigB; simp; omega
  have i1 : inB a (-4000000000000000000) 4000000000000000000 = true := by unfold inB; simp; omega
  have i2 : inB b (-4000000000000000000) 4000000000000000000 = true := by unfold inB; simp; omega
  obtain ⟨g1, g2⟩ := gcd_le a b hb0 4000000000000000000 hb hb2
  obtain ⟨q1, q2⟩ := red_tdiv a b
  obtain ⟨r1, r2, r3, r4⟩ := red_bd a b hb0 4000000000000000000 ha ha2 hb hb2
  have Q1 := Lib.hid q1; have Q2 := Lib.hid q2; have HB := Lib.hid hbig; have I1 := Lib.hid i1; have I2 := Lib.hid i2
  clear q1 q2 hbig i1 i2
  go_enter Try.func46, Try.ntmps46
  go_wp2_with fail
  refine (l6In_any _ _ _ _).mono ?_
  rintro e w1 ⟨rfl, rfl⟩
  rw [I1.out]
  go_wp2_with fail
  refine (l6In_any _ _ _ _).mono ?_
  rintro e w1 ⟨rfl, rfl⟩
  rw [I2.out]
  by_cases hn : b < 0
  · go_wp2_with fail
    refine (l2Abs_any _ _ (by omega) (by omega)).mono ?_
    rintro e w1 ⟨rfl, rfl⟩
    go_wp2_with fail
    refine (l2Gcd_any _ _ _ (by omega) (by omega) (by omega) (by omega)).mono ?_
    rintro e w1 ⟨rfl, rfl⟩
    obtain ⟨w1, ew⟩ : ∃ w1, w1 = w.alloc (.cells #[.int .i64 0, .int .i64 0] 43) := ⟨_, rfl⟩
    have b1 : Below (w.alloc (.cells #[.int .i64 0, .int .i64 0] 43)).heap.size (w.alloc (.cells #[.int .i64 0, .int .i64 0] 43)) w1 := by rw [ew]; exact Below.refl _ _
    rw [← ew]
    rw [show (Int.gcd (a.natAbs : Int) (-b) : Int) = (Int.gcd a b : Int) by rw [Int.gcd_neg]; rfl]
    generalize (Int.gcd a b : Int) = g at *
    obtain ⟨hc, hf⟩ : (∀ o, w1.cell? ⟨w.heap.size, o, none⟩ = _) ∧ (∀ o, w1.frozen? ⟨w.heap.size, o, none⟩ = _) := ⟨fun o => b1.cell (p := ⟨w.heap.size, o, none⟩) (by simp), fun o => b1.frozen (p := ⟨w.heap.size, o, none⟩) (by simp)⟩
    have hz : w.heap.size < w1.heap.size := by have := b1.size; simp at this; omega
    have B := Lib.hid (((Below.refl w.heap.size w).alloc (Nat.le_refl _) (.cells #[.int .i64 0, .int .i64 0] 43)).trans (b1.mono (by simp)))
    clear b1 ew
    go_wp2_with fail
    have u1 : IntKind.i64.wrap (-a.tdiv g) = redN a b := by
      rw [Q1.out, if_pos hn, Int.tdiv_neg]; exact IntWalk.i64_in _ (by have := Q1.out; rw [if_pos hn, Int.tdiv_neg] at this; omega)
    have u2 : IntKind.i64.wrap (-b.tdiv g) = redD a b := by
      rw [Q2.out, if_pos hn, Int.tdiv_neg]; exact IntWalk.i64_in _ (by have := Q2.out; rw [if_pos hn, Int.tdiv_neg] at this; omega)
    have u3 : (g == 0) = false := by simp; omega
    go_region
    clear u1 u2 u3
    go_wp2_with fail
    refine (specFracValid_any _ _ _).mono ?_
    rintro e w2 ⟨rfl, b2⟩
    obtain ⟨hc2, hf2⟩ : (∀ o, w2.cell? ⟨w.heap.size, o, none⟩ = _) ∧ (∀ o, w2.frozen? ⟨w.heap.size, o, none⟩ = _) := ⟨fun o => b2.cell (p := ⟨w.heap.size, o, none⟩) (by show w.heap.size < (w1.alloc _).heap.size; simp; omega), fun o => b2.frozen (p := ⟨w.heap.size, o, none⟩) (by show w.heap.size < (w1.alloc _).heap.size; simp; omega)⟩
    obtain ⟨hc3, hf3⟩ : (∀ o, w2.cell? ⟨w1.heap.size, o, none⟩ = _) ∧ (∀ o, w2.frozen? ⟨w1.heap.size, o, none⟩ = _) := ⟨fun o => b2.cell (p := ⟨w1.heap.size, o, none⟩) (by show w1.heap.size < (w1.alloc _).heap.size; simp), fun o => b2.frozen (p := ⟨w1.heap.size, o, none⟩) (by show w1.heap.size < (w1.alloc _).heap.size; simp)⟩
    have B2 := Lib.hid (((B.out.alloc (Nat.le_of_lt hz) (.cells #[.int .i64 (redN a b), .int .i64 (redD a b)] 43)).drew).trans (b2.mono (B' := w.heap.size) (by show w.heap.size ≤ (w1.alloc _).heap.size; simp; omega)))
    clear b2
    by_cases hv : fvB (redN a b) (redD a b) = true
    · obtain ⟨e1, e2, e3⟩ := fo_good HB.out hv
      rw [hv]
      have E := Lib.hid (And.intro e1 (And.intro e2 e3)); clear e1 e2 e3 hv
      go_wp2_with fail
      refine bodyPost_ret (v := .tuple #[.agg #[.int .i64 (redN a b), .int .i64 (redD a b)], .bool true]) (by simp [results, Try.results46, go_sem, hc2, hc, hz]) rfl ⟨by rw [E.out.1, E.out.2.1, E.out.2.2], ?_⟩
      exact (B2.out.setCell (by simp) _).setCell (by simp) _
    · have hv' : fvB (redN a b) (redD a b) = false := by simpa using hv
      obtain ⟨e1, e2, e3⟩ := fo_bad hv'
      rw [hv']
      have E := Lib.hid (And.intro e1 (And.intro e2 e3)); clear e1 e2 e3 hv hv'
      go_wp2_with fail
      refine bodyPost_ret (v := .tuple #[.agg #[.int .i64 0, .int .i64 0], .bool false]) (by simp [results, Try.results46, go_sem, hc2, hc, hz]) rfl ⟨by rw [E.out.1, E.out.2.1, E.out.2.2], ?_⟩
      exact (B2.out.setCell (by simp) _).setCell (by simp) _
  · go_wp2_with fail
    refine (l2Abs_any _ _ (by omega) (by omega)).mono ?_
    rintro e w1 ⟨rfl, rfl⟩
    go_wp2_with fail
    refine (l2Gcd_any _ _ _ (by omega) (by omega) (by omega) (by omega)).mono ?_
    rintro e w1 ⟨rfl, rfl⟩
    obtain ⟨w1, ew⟩ : ∃ w1, w1 = w.alloc (.cells #[.int .i64 0, .int .i64 0] 43) := ⟨_, rfl⟩
    have b1 : Below (w.alloc (.cells #[.int .i64 0, .int .i64 0] 43)).heap.size (w.alloc (.cells #[.int .i64 0, .int .i64 0] 43)) w1 := by rw [ew]; exact Below.refl _ _
    rw [← ew]
    rw [show (Int.gcd (a.natAbs : Int) b : Int) = (Int.gcd a b : Int) from rfl]
    generalize (Int.gcd a b : Int) = g at *
    obtain ⟨hc, hf⟩ : (∀ o, w1.cell? ⟨w.heap.size, o, none⟩ = _) ∧ (∀ o, w1.frozen? ⟨w.heap.size, o, none⟩ = _) := ⟨fun o => b1.cell (p := ⟨w.heap.size, o, none⟩) (by simp), fun o => b1.frozen (p := ⟨w.heap.size, o, none⟩) (by simp)⟩
    have hz : w.heap.size < w1.heap.size := by have := b1.size; simp at this; omega
    have B := Lib.hid (((Below.refl w.heap.size w).alloc (Nat.le_refl _) (.cells #[.int .i64 0, .int .i64 0] 43)).trans (b1.mono (by simp)))
    clear b1 ew
    go_wp2_with fail
    have u1 : IntKind.i64.wrap (a.tdiv g) = redN a b := by
      rw [Q1.out, if_neg (show ¬ b < 0 by omega)]; exact IntWalk.i64_in _ (by have := Q1.out; rw [if_neg (show ¬ b < 0 by omega)] at this; omega)
    have u2 : IntKind.i64.wrap (b.tdiv g) = redD a b := by
      rw [Q2.out, if_neg (show ¬ b < 0 by omega)]; exact IntWalk.i64_in _ (by have := Q2.out; rw [if_neg (show ¬ b < 0 by omega)] at this; omega)
    have u3 : (g == 0) = false := by simp; omega
    go_region
    clear u1 u2 u3
    go_wp2_with fail
    refine (specFracValid_any _ _ _).mono ?_
    rintro e w2 ⟨rfl, b2⟩
    obtain ⟨hc2, hf2⟩ : (∀ o, w2.cell? ⟨w.heap.size, o, none⟩ = _) ∧ (∀ o, w2.frozen? ⟨w.heap.size, o, none⟩ = _) := ⟨fun o => b2.cell (p := ⟨w.heap.size, o, none⟩) (by show w.heap.size < (w1.alloc _).heap.size; simp; omega), fun o => b2.frozen (p := ⟨w.heap.size, o, none⟩) (by show w.heap.size < (w1.alloc _).heap.size; simp; omega)⟩
    obtain ⟨hc3, hf3⟩ : (∀ o, w2.cell? ⟨w1.heap.size, o, none⟩ = _) ∧ (∀ o, w2.frozen? ⟨w1.heap.size, o, none⟩ = _) := ⟨fun o => b2.cell (p := ⟨w1.heap.size, o, none⟩) (by show w1.heap.size < (w1.alloc _).heap.size; simp), fun o => b2.frozen (p := ⟨w1.heap.size, o, none⟩) (by show w1.heap.size < (w1.alloc _).heap.size; simp)⟩
    have B2 := Lib.hid (((B.out.alloc (Nat.le_of_lt hz) (.cells #[.int .i64 (redN a b), .int .i64 (redD a b)] 43)).drew).trans (b2.mono (B' := w.heap.size) (by show w.heap.size ≤ (w1.alloc _).heap.size; simp; omega)))
    clear b2
    by_cases hv : fvB (redN a b) (redD a b) = true
    · obtain ⟨e1, e2, e3⟩ := fo_good HB.out hv
      rw [hv]
      have E := Lib.hid (And.intro e1 (And.intro e2 e3)); clear e1 e2 e3 hv
      go_wp2_with fail
      refine bodyPost_ret (v := .tuple #[.agg #[.int .i64 (redN a b), .int .i64 (redD a b)], .bool true]) (by simp [results, Try.results46, go_sem, hc2, hc, hz]) rfl ⟨by rw [E.out.1, E.out.2.1, E.out.2.2], ?_⟩
      exact (B2.out.setCell (by simp) _).setCell (by simp) _
    · have hv' : fvB (redN a b) (redD a b) = false := by simpa using hv
      obtain ⟨e1, e2, e3⟩ := fo_bad hv'
      rw [hv']
      have E := Lib.hid (And.intro e1 (And.intro e2 e3)); clear e1 e2 e3 hv hv'
      go_wp2_with fail
      refine bodyPost_ret (v := .tuple #[.agg #[.int .i64 0, .int .i64 0], .bool false]) (by simp [results, Try.results46, go_sem, hc2, hc, hz]) rfl ⟨by rw [E.out.1, E.out.2.1, E.out.2.2], ?_⟩
      exact (B2.out.setCell (by simp) _).setCell (by simp) _

theorem specFracOf_any (a b : Int) (w : World) : Calls Try.prog 46 #[.int .i64 a, .int .i64 b] w (FoPost w a b) := by
  by_cases h1 : inB a (-4000000000000000000) 4000000000000000000 = true
  · by_cases h2 : inB b (-4000000000000000000) 4000000000000000000 = true
    · by_cases h0 : b = 0
      · obtain ⟨e1, e2, e3⟩ := fo_no (a := a) (b := b) (by unfold bigB; simp [h0])
        have E := Lib.hid (And.intro e1 (And.intro e2 e3)); clear e1 e2 e3
        have t0 : (b == 0) = true := by simpa using h0
        have H1 := Lib.hid h1; have H2 := Lib.hid h2; clear h0 h1 h2
        go_enter Try.func46, Try.ntmps46
        go_wp2_with fail
        refine (l6In_any _ _ _ _).mono ?_
        rintro e w1 ⟨rfl, rfl⟩
        rw [H1.out]
        go_wp2_with fail
        refine (l6In_any _ _ _ _).mono ?_
        rintro e w1 ⟨rfl, rfl⟩
        rw [H2.out]
        go_wp2_with fail
        refine bodyPost_ret (v := .tuple #[.agg #[.int .i64 0, .int .i64 0], .bool false]) (by simp [results, Try.results46, go_sem]) rfl ⟨by rw [E.out.1, E.out.2.1, E.out.2.2], ?_⟩
        exact (Below.refl _ _).alloc (Nat.le_refl _) _
      · exact specFracOf_big a b w h0 (by unfold inB at h1; simp at h1; omega) (by unfold inB at h1; simp at h1; omega) (by unfold inB at h2; simp at h2; omega) (by unfold inB at h2; simp at h2; omega)
    · obtain ⟨e1, e2, e3⟩ := fo_no (a := a) (b := b) (by unfold inB at h2; simp at h2; unfold bigB; simp; omega)
      have E := Lib.hid (And.intro e1 (And.intro e2 e3)); clear e1 e2 e3
      have h2' : inB b (-4000000000000000000) 4000000000000000000 = false := by simpa using h2
      have H1 := Lib.hid h1; have H2 := Lib.hid h2'; clear h1 h2 h2'
      go_enter Try.func46, Try.ntmps46
      go_wp2_with fail
      refine (l6In_any _ _ _ _).mono ?_
      rintro e w1 ⟨rfl, rfl⟩
      rw [H1.out]
      go_wp2_with fail
      refine (l6In_any _ _ _ _).mono ?_
      rintro e w1 ⟨rfl, rfl⟩
      rw [H2.out]
      go_wp2_with fail
      refine bodyPost_ret (v := .tuple #[.agg #[.int .i64 0, .int .i64 0], .bool false]) (by simp [results, Try.results46, go_sem]) rfl ⟨by rw [E.out.1, E.out.2.1, E.out.2.2], ?_⟩
      exact (Below.refl _ _).alloc (Nat.le_refl _) _
  · obtain ⟨e1, e2, e3⟩ := fo_no (a := a) (b := b) (by unfold inB at h1; simp at h1; unfold bigB; simp; omega)
    have E := Lib.hid (And.intro e1 (And.intro e2 e3)); clear e1 e2 e3
    have h1' : inB a (-4000000000000000000) 4000000000000000000 = false := by simpa using h1
    have H1 := Lib.hid h1'; clear h1 h1'
    go_enter Try.func46, Try.ntmps46
    go_wp2_with fail
    refine (l6In_any _ _ _ _).mono ?_
    rintro e w1 ⟨rfl, rfl⟩
    rw [H1.out]
    go_wp2_with fail
    refine bodyPost_ret (v := .tuple #[.agg #[.int .i64 0, .int .i64 0], .bool false]) (by simp [results, Try.results46, go_sem]) rfl ⟨by rw [E.out.1, E.out.2.1, E.out.2.2], ?_⟩
    exact (Below.refl _ _).alloc (Nat.le_refl _) _
end Go.Proofs.Ytkblbppemjnpdaa
