/- Contracts: FracOf of both packages. -/
import Derived.Test.YtkblbppemjnpdaaGcd
namespace Go.Proofs.Ytkblbppemjnpdaa
open Go.RowKit
set_option linter.unusedVariables false

def FoPost (w : World) (a b : Int) (e : Ending) (w' : World) : Prop := e = .returned (.tuple #[.agg #[.int .i64 (foN a b), .int .i64 (foD a b)], .bool (foOk a b)]) ∧ Below w.heap.size w w'

theorem fo_no {a b : Int} (h : bigB a b = false) : foN a b = 0 ∧ foD a b = 0 ∧ foOk a b = false := by
  have e : foOk a b = false := by unfold foOk; rw [h]; rfl
  unfold foN foD; rw [e]; simp

theorem fo_bad {a b : Int} (h : fvB (redN a b) (redD a b) = false) : foN a b = 0 ∧ foD a b = 0 ∧ foOk a b = false := by
  have e : foOk a b = false := by unfold foOk; rw [h]; simp
  unfold foN foD; rw [e]; simp

theorem fo_good {a b : Int} (h0 : bigB a b = true) (h : fvB (redN a b) (redD a b) = true) : foN a b = redN a b ∧ foD a b = redD a b ∧ foOk a b = true := by
  have e : foOk a b = true := by unfold foOk; rw [h0, h]; rfl
  unfold foN foD; rw [e]; simp

set_option maxHeartbeats 400000 in
theorem fracOf_big (a b : Int) (w : World) (hb0 : b ≠ 0) (ha : -4000000000000000000 ≤ a) (ha2 : a ≤ 4000000000000000000) (hb : -4000000000000000000 ≤ b) (hb2 : b ≤ 4000000000000000000) :
    Calls Try.prog 47 #[.int .i64 a, .int .i64 b] w (FoPost w a b) := by
  have t0 : (b == 0) = false := by simpa using hb0
  have t1 : decide (a < -4000000000000000000) = false := by simpa using ha
  have t2 : decide (4000000000000000000 < a) = false := by simpa using ha2
  have t3 : decide (b < -4000000000000000000) = false := by simpa using hb
  have t4 : decide (4000000000000000000 < b) = false := by simpa using hb2
  have hbig : bigB a b = true := by unfold bigB; simp; omega
  obtain ⟨g1, g2⟩ := gcd_le a b hb0 4000000000000000000 hb hb2
  obtain ⟨q1, q2⟩ := red_tdiv a b
  obtain ⟨r1, r2, r3, r4⟩ := red_bd a b hb0 4000000000000000000 ha ha2 hb hb2
  have Q1 := Lib.hid q1; have Q2 := Lib.hid q2; have HB := Lib.hid hbig
  clear q1 q2 hbig
  go_enter Try.func47, Try.ntmps47
  go_wp2_with fail
  refine (gcd_any _ _ _ ha ha2 hb hb2).mono ?_
  rintro e w1 ⟨rfl, b1⟩
  generalize (Int.gcd a b : Int) = g at *
  obtain ⟨hc, hf⟩ : (∀ o, w1.cell? ⟨w.heap.size, o, none⟩ = _) ∧ (∀ o, w1.frozen? ⟨w.heap.size, o, none⟩ = _) := ⟨fun o => b1.cell (p := ⟨w.heap.size, o, none⟩) (by simp), fun o => b1.frozen (p := ⟨w.heap.size, o, none⟩) (by simp)⟩
  have hz : w.heap.size < w1.heap.size := by have := b1.size; simp at this; omega
  have B := Lib.hid (((Below.refl w.heap.size w).alloc (Nat.le_refl _) (.cells #[.int .i64 0, .int .i64 0] 43)).trans (b1.mono (by simp)))
  clear b1
  by_cases hn : b < 0
  · go_wp2_with fail
    have u1 : IntKind.i64.wrap (-a.tdiv g) = redN a b := by
      rw [Q1.out, if_pos hn, Int.tdiv_neg]; exact IntWalk.i64_in _ (by have := Q1.out; rw [if_pos hn, Int.tdiv_neg] at this; omega)
    have u2 : IntKind.i64.wrap (-b.tdiv g) = redD a b := by
      rw [Q2.out, if_pos hn, Int.tdiv_neg]; exact IntWalk.i64_in _ (by have := Q2.out; rw [if_pos hn, Int.tdiv_neg] at this; omega)
    have u3 : (-g == 0) = false := by simp; omega
    go_region
    clear u1 u2 u3
    go_wp2_with fail
    refine (fracValid_any _ _ _).mono ?_
    rintro e w2 ⟨rfl, b2⟩
    obtain ⟨hc2, hf2⟩ : (∀ o, w2.cell? ⟨w.heap.size, o, none⟩ = _) ∧ (∀ o, w2.frozen? ⟨w.heap.size, o, none⟩ = _) := ⟨fun o => b2.cell (p := ⟨w.heap.size, o, none⟩) (by show w.heap.size < (w1.alloc _).heap.size; simp; omega), fun o => b2.frozen (p := ⟨w.heap.size, o, none⟩) (by show w.heap.size < (w1.alloc _).heap.size; simp; omega)⟩
    obtain ⟨hc3, hf3⟩ : (∀ o, w2.cell? ⟨w1.heap.size, o, none⟩ = _) ∧ (∀ o, w2.frozen? ⟨w1.heap.size, o, none⟩ = _) := ⟨fun o => b2.cell (p := ⟨w1.heap.size, o, none⟩) (by show w1.heap.size < (w1.alloc _).heap.size; simp), fun o => b2.frozen (p := ⟨w1.heap.size, o, none⟩) (by show w1.heap.size < (w1.alloc _).heap.size; simp)⟩
    have B2 := Lib.hid (((B.out.alloc (Nat.le_of_lt hz) (.cells #[.int .i64 (redN a b), .int .i64 (redD a b)] 43)).drew).trans (b2.mono (B' := w.heap.size) (by show w.heap.size ≤ (w1.alloc _).heap.size; simp; omega)))
    clear b2
    by_cases hv : fvB (redN a b) (redD a b) = true
    · obtain ⟨e1, e2, e3⟩ := fo_good HB.out hv
      rw [hv]
      have E := Lib.hid (And.intro e1 (And.intro e2 e3)); clear e1 e2 e3 hv
      go_wp2_with fail
      refine bodyPost_ret (v := .tuple #[.agg #[.int .i64 (redN a b), .int .i64 (redD a b)], .bool true]) (by simp [results, Try.results47, go_sem, hc2, hc, hz]) rfl ⟨by rw [E.out.1, E.out.2.1, E.out.2.2], ?_⟩
      exact (B2.out.setCell (by simp) _).setCell (by simp) _
    · have hv' : fvB (redN a b) (redD a b) = false := by simpa using hv
      obtain ⟨e1, e2, e3⟩ := fo_bad hv'
      rw [hv']
      have E := Lib.hid (And.intro e1 (And.intro e2 e3)); clear e1 e2 e3 hv hv'
      go_wp2_with fail
      refine bodyPost_ret (v := .tuple #[.agg #[.int .i64 0, .int .i64 0], .bool false]) (by simp [results, Try.results47, go_sem, hc2, hc, hz]) rfl ⟨by rw [E.out.1, E.out.2.1, E.out.2.2], ?_⟩
      exact (B2.out.setCell (by simp) _).setCell (by simp) _
  · go_wp2_with fail
    have u1 : IntKind.i64.wrap (a.tdiv g) = redN a b := by
      rw [Q1.out, if_neg (show ¬ b < 0 by omega)]; exact IntWalk.i64_in _ (by have := Q1.out; rw [if_neg (show ¬ b < 0 by omega)] at this; omega)
    have u2 : IntKind.i64.wrap (b.tdiv g) = redD a b := by
      rw [Q2.out, if_neg (show ¬ b < 0 by omega)]; exact IntWalk.i64_in _ (by have := Q2.out; rw [if_neg (show ¬ b < 0 by omega)] at this; omega)
    have u3 : (g == 0) = false := by simp; omega
    go_region
    clear u1 u2 u3
    go_wp2_with fail
    refine (fracValid_any _ _ _).mono ?_
    rintro e w2 ⟨rfl, b2⟩
    obtain ⟨hc2, hf2⟩ : (∀ o, w2.cell? ⟨w.heap.size, o, none⟩ = _) ∧ (∀ o, w2.frozen? ⟨w.heap.size, o, none⟩ = _) := ⟨fun o => b2.cell (p := ⟨w.heap.size, o, none⟩) (by show w.heap.size < (w1.alloc _).heap.size; simp; omega), fun o => b2.frozen (p := ⟨w.heap.size, o, none⟩) (by show w.heap.size < (w1.alloc _).heap.size; simp; omega)⟩
    obtain ⟨hc3, hf3⟩ : (∀ o, w2.cell? ⟨w1.heap.size, o, none⟩ = _) ∧ (∀ o, w2.frozen? ⟨w1.heap.size, o, none⟩ = _) := ⟨fun o => b2.cell (p := ⟨w1.heap.size, o, none⟩) (by show w1.heap.size < (w1.alloc _).heap.size; simp), fun o => b2.frozen (p := ⟨w1.heap.size, o, none⟩) (by show w1.heap.size < (w1.alloc _).heap.size; simp)⟩
    have B2 := Lib.hid (((B.out.alloc (Nat.le_of_lt hz) (.cells #[.int .i64 (redN a b), .int .i64 (redD a b)] 43)).drew).trans (b2.mono (B' := w.heap.size) (by show w.heap.size ≤ (w1.alloc _).heap.size; simp; omega)))
    clear b2
    by_cases hv : fvB (redN a b) (redD a b) = true
    · obtain ⟨e1, e2, e3⟩ := fo_good HB.out hv
      rw [hv]
      have E := Lib.hid (And.intro e1 (And.intro e2 e3)); clear e1 e2 e3 hv
      go_wp2_with fail
      refine bodyPost_ret (v := .tuple #[.agg #[.int .i64 (redN a b), .int .i64 (redD a b)], .bool true]) (by simp [results, Try.results47, go_sem, hc2, hc, hz]) rfl ⟨by rw [E.out.1, E.out.2.1, E.out.2.2], ?_⟩
      exact (B2.out.setCell (by simp) _).setCell (by simp) _
    · have hv' : fvB (redN a b) (redD a b) = false := by simpa using hv
      obtain ⟨e1, e2, e3⟩ := fo_bad hv'
      rw [hv']
      have E := Lib.hid (And.intro e1 (And.intro e2 e3)); clear e1 e2 e3 hv hv'
      go_wp2_with fail
      refine bodyPost_ret (v := .tuple #[.agg #[.int .i64 0, .int .i64 0], .bool false]) (by simp [results, Try.results47, go_sem, hc2, hc, hz]) rfl ⟨by rw [E.out.1, E.out.2.1, E.out.2.2], ?_⟩
      exact (B2.out.setCell (by simp) _).setCell (by simp) _

theorem fracOf_any (a b : Int) (w : World) : Calls Try.prog 47 #[.int .i64 a, .int .i64 b] w (FoPost w a b) := by
  by_cases h0 : b = 0
  · obtain ⟨e1, e2, e3⟩ := fo_no (a := a) (b := b) (by unfold bigB; simp [h0])
    have E := Lib.hid (And.intro e1 (And.intro e2 e3)); clear e1 e2 e3
    have t0 : (b == 0) = true := by simpa using h0
    clear h0
    go_enter Try.func47, Try.ntmps47
    go_wp2_with fail
    refine bodyPost_ret (v := .tuple #[.agg #[.int .i64 0, .int .i64 0], .bool false]) (by simp [results, Try.results47, go_sem]) rfl ⟨by rw [E.out.1, E.out.2.1, E.out.2.2], ?_⟩
    exact (Below.refl _ _).alloc (Nat.le_refl _) _
  · have t0 : (b == 0) = false := by simpa using h0
    by_cases h1 : a < -4000000000000000000
    · obtain ⟨e1, e2, e3⟩ := fo_no (a := a) (b := b) (by unfold bigB; simp; omega)
      have E := Lib.hid (And.intro e1 (And.intro e2 e3)); clear e1 e2 e3
      have t1 : decide (a < -4000000000000000000) = true := by simpa using h1
      go_enter Try.func47, Try.ntmps47
      go_wp2_with fail
      refine bodyPost_ret (v := .tuple #[.agg #[.int .i64 0, .int .i64 0], .bool false]) (by simp [results, Try.results47, go_sem]) rfl ⟨by rw [E.out.1, E.out.2.1, E.out.2.2], ?_⟩
      exact (Below.refl _ _).alloc (Nat.le_refl _) _
    · have t1 : decide (a < -4000000000000000000) = false := by simpa using h1
      by_cases h2 : 4000000000000000000 < a
      · obtain ⟨e1, e2, e3⟩ := fo_no (a := a) (b := b) (by unfold bigB; simp; omega)
        have E := Lib.hid (And.intro e1 (And.intro e2 e3)); clear e1 e2 e3
        have t2 : decide (4000000000000000000 < a) = true := by simpa using h2
        go_enter Try.func47, Try.ntmps47
        go_wp2_with fail
        refine bodyPost_ret (v := .tuple #[.agg #[.int .i64 0, .int .i64 0], .bool false]) (by simp [results, Try.results47, go_sem]) rfl ⟨by rw [E.out.1, E.out.2.1, E.out.2.2], ?_⟩
        exact (Below.refl _ _).alloc (Nat.le_refl _) _
      · have t2 : decide (4000000000000000000 < a) = false := by simpa using h2
        by_cases h3 : b < -4000000000000000000
        · obtain ⟨e1, e2, e3⟩ := fo_no (a := a) (b := b) (by unfold bigB; simp; omega)
          have E := Lib.hid (And.intro e1 (And.intro e2 e3)); clear e1 e2 e3
          have t3 : decide (b < -4000000000000000000) = true := by simpa using h3
          go_enter Try.func47, Try.ntmps47
          go_wp2_with fail
          refine bodyPost_ret (v := .tuple #[.agg #[.int .i64 0, .int .i64 0], .bool false]) (by simp [results, Try.results47, go_sem]) rfl ⟨by rw [E.out.1, E.out.2.1, E.out.2.2], ?_⟩
          exact (Below.refl _ _).alloc (Nat.le_refl _) _
        · have t3 : decide (b < -4000000000000000000) = false := by simpa using h3
          by_cases h4 : 4000000000000000000 < b
          · obtain ⟨e1, e2, e3⟩ := fo_no (a := a) (b := b) (by unfold bigB; simp; omega)
            have E := Lib.hid (And.intro e1 (And.intro e2 e3)); clear e1 e2 e3
            have t4 : decide (4000000000000000000 < b) = true := by simpa using h4
            go_enter Try.func47, Try.ntmps47
            go_wp2_with fail
            refine bodyPost_ret (v := .tuple #[.agg #[.int .i64 0, .int .i64 0], .bool false]) (by simp [results, Try.results47, go_sem]) rfl ⟨by rw [E.out.1, E.out.2.1, E.out.2.2], ?_⟩
            exact (Below.refl _ _).alloc (Nat.le_refl _) _
          · have t4 : decide (4000000000000000000 < b) = false := by simpa using h4
            exact fracOf_big a b w h0 (by omega) (by omega) (by omega) (by omega)
end Go.Proofs.Ytkblbppemjnpdaa
