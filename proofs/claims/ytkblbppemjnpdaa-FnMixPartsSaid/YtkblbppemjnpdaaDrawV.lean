/- Drawn waters: DrawWaterValid, DrawWaterRatio. -/
import Derived.Test.YtkblbppemjnpdaaDrawW
import Derived.Deep.RegionWith
namespace Go.Proofs.Ytkblbppemjnpdaa
open Go.RowKit
set_option linter.unusedVariables false

def WatPost (w : World) (e : Ending) (w' : World) : Prop := ∃ a h : Int, e = .returned (.agg #[.int .i64 a, .int .i64 h]) ∧ (0 ≤ a ∧ a ≤ 1001 ∧ -1 ≤ h ∧ h ≤ 1002) ∧ Below w.heap.size w w'

theorem bcell' {W w1 : World} (hb : Below W.heap.size W w1) : (∀ b o, b < W.heap.size → w1.cell? ⟨b, o, none⟩ = W.cell? ⟨b, o, none⟩) ∧ (∀ b o, b < W.heap.size → w1.frozen? ⟨b, o, none⟩ = W.frozen? ⟨b, o, none⟩) :=
  ⟨fun b o h => hb.cell (p := ⟨b, o, none⟩) h, fun b o h => hb.frozen (p := ⟨b, o, none⟩) h⟩

theorem Below.of_grown {w w' : World} {B R : Nat} (hg : w.grownBy w' (some R)) (hB : B ≤ w.heap.size) (hR : B ≤ R) : Below B w w' :=
  (Below.refl B w).grown hg hB (by rintro k ⟨⟩; exact hR)

theorem drawWaterRatio_any (a : Option Addr) (len cap : Nat) (w : World) (hc : len ≤ cap) (hm : cap ≤ maxLen) (h : IsBytes w a len) :
    Calls Try.prog 34 #[.slice a len cap] w (WatPost w) := by
  have hb0 := (Below.refl w.heap.size w).alloc (Nat.le_refl _) (.cells #[.int .i64 0, .int .i64 0] 25)
  have h0 := Lib.hid (h.kept hb0)
  clear h
  go_enter Try.func34, Try.ntmps34
  go_wp2_with fail
  refine (l6Open_any _ _ _ _ hc hm h0.out).mono ?_
  rintro e w1 ⟨rfl, r1, b1, s1⟩
  rw [World.size_alloc] at r1 b1 s1
  go_wp2_with fail
  refine (l93Water_any _ _ _ r1 (by omega)).mono ?_
  rintro e w2 ⟨x, y, rfl, hxy, r2, g2⟩
  have hs := g2.size
  have b2 := b1.trans (Below.of_grown g2 (B := w.heap.size + 1) (by omega) (Nat.le_refl _))
  have hcc : ∀ o, w2.cell? ⟨w.heap.size, o, none⟩ = _ := fun o => b2.cell (p := ⟨w.heap.size, o, none⟩) (by simp)
  have hff : ∀ o, w2.frozen? ⟨w.heap.size, o, none⟩ = _ := fun o => b2.frozen (p := ⟨w.heap.size, o, none⟩) (by simp)
  have B := Lib.hid (hb0.trans (b2.mono (by simp)))
  clear b1 b2 g2 hb0
  go_wp2_with fail
  refine bodyPost_ret (v := .agg #[.int .i64 x, .int .i64 y]) (by simp [results, Try.results34, go_sem, hcc]) rfl ⟨_, _, rfl, by omega, ?_⟩
  exact (B.out.setCell (by simp) _).setCell (by simp) _

theorem Rd.drew {w : World} {R k : Nat} (h : Rd w R k) : Rd w.drew R k := h

/-- One of two numbers. -/
def sel2 (m : Int) (u v : Int) : Int := if m = 0 then u else v

theorem sel2_arr (m u v : Int) (h0 : 0 ≤ m) (h1 : m < 2) : (#[Value.int .i64 u, Value.int .i64 v] : Array Value)[m.toNat]? = some (.int .i64 (sel2 m u v)) := by
  rcases (show m = 0 ∨ m = 1 by omega) with rfl | rfl <;> rfl

theorem sel2_list (m u v : Int) (h0 : 0 ≤ m) (h1 : m < 2) : ∀ h : m.toNat < [Value.int .i64 u, Value.int .i64 v].length, [Value.int .i64 u, Value.int .i64 v][m.toNat]'h = .int .i64 (sel2 m u v) := by
  rcases (show m = 0 ∨ m = 1 by omega) with rfl | rfl <;> exact fun _ => rfl

theorem sel2_cell {w w' : World} {R : Nat} {t : TypeId} {u v : Int} (hg : (w.alloc (.cells #[.int .i64 u, .int .i64 v] t)).drew.grownBy w' (some R)) (hR : R < w.heap.size) (m : Int) (h0 : 0 ≤ m) (h1 : m < 2) :
    w'.cell? ⟨w.heap.size, m.toNat, none⟩ = some (.int .i64 (sel2 m u v)) := by
  rw [(gk hg w.heap.size (by show w.heap.size < (w.alloc _).heap.size; simp) (by omega)).1, ← sel2_arr m u v h0 h1]
  exact World.cell?_alloc_at _ _ _ _ rfl

theorem grownBy_drew {w w' : World} {r : Option Nat} (h : w.grownBy w' r) : w.grownBy w'.drew r := ⟨h.os, h.tape, h.output, h.size, h.block⟩

theorem le_set {w : World} {n : Nat} (h : n < w.heap.size) (p : Addr) (v : Value) : n ≤ (w.setCell p v).heap.size := by
  simp [World.setCell]; omega

theorem le_set3 {w : World} {n : Nat} (h : n < w.heap.size) (p q r : Addr) (u v x : Value) : n ≤ (((w.setCell p u).setCell q v).setCell r x).heap.size := by
  simp [World.setCell]; omega

theorem after_pick {W w3 w4 : World} {R B : Nat} (b3 : Below B W w3) (hB : B ≤ w3.heap.size) (hR : B ≤ R) (g : w3.grownBy w4 (some R)) : Below B W w4 := b3.trans (Below.of_grown g hB hR)

theorem sel2_le (m u v : Int) (lo hi : Int) (h1 : lo ≤ u) (h2 : u ≤ hi) (h3 : lo ≤ v) (h4 : v ≤ hi) : lo ≤ sel2 m u v ∧ sel2 m u v ≤ hi := by
  unfold sel2; split <;> omega

set_option maxHeartbeats 600000 in
theorem drawWaterValid_any (a : Option Addr) (len cap : Nat) (w : World) (hc : len ≤ cap) (hm : cap ≤ maxLen) (h : IsBytes w a len) :
    Calls Try.prog 20 #[.slice a len cap] w (WatPost w) := by
  have hb0 := (Below.refl w.heap.size w).alloc (Nat.le_refl _) (.cells #[.int .i64 0, .int .i64 0] 25)
  have h0 := Lib.hid (h.kept hb0)
  clear h
  go_enter Try.func20, Try.ntmps20
  go_wp2_with fail
  refine (l6Open_any _ _ _ _ hc hm h0.out).mono ?_
  rintro e w1 ⟨rfl, r1, b1, s1⟩
  rw [World.size_alloc] at r1 b1 s1
  go_wp2_with fail
  refine (l93Water_any _ _ _ r1 (by omega)).mono ?_
  rintro e w2 ⟨x, y, rfl, hxy, r2, g2⟩
  have hs := g2.size
  have b2 := b1.trans (Below.of_grown g2 (B := w.heap.size + 1) (by omega) (Nat.le_refl _))
  clear b1 g2
  go_wp2_with fail
  refine (pick_any _ _ _ _ (r2.alloc _) (by omega) (by omega)).mono ?_
  rintro e w3 ⟨m3, m30, m31, rfl, r3, g3, s3⟩
  have g4 := grownBy_trans (World.grownBy_alloc w2 (.cells #[.int .i64 x, .int .i64 y] 25) _) g3
  have b3 := b2.trans (Below.of_grown g4 (B := w.heap.size + 1) (by omega) (Nat.le_refl _))
  have c0 : ∀ o, w3.cell? ⟨w.heap.size, o, none⟩ = _ := fun o => b3.cell (p := ⟨w.heap.size, o, none⟩) (by simp)
  have f0 : ∀ o, w3.frozen? ⟨w.heap.size, o, none⟩ = _ := fun o => b3.frozen (p := ⟨w.heap.size, o, none⟩) (by simp)
  obtain ⟨c1, f1⟩ := gk g3 w2.heap.size (by simp) (by omega)
  have B := Lib.hid (hb0.trans (b3.mono (by simp)))
  have hz : w.heap.size < w2.heap.size := by omega
  have hz3 : w.heap.size + 1 < w3.heap.size := by rw [s3]; simp; omega
  have hz6 : w.heap.size < w3.heap.size := by omega
  have hz23 : w2.heap.size < w3.heap.size := by rw [s3]; simp
  have hz2R : w2.heap.size ≠ w.heap.size + 1 := by omega
  have G3 := Lib.hid g3
  have B3 := Lib.hid b3
  clear g3 g4 b2 b3 s1 s3
  by_cases e0 : m3 = 0
  · subst e0
    go_wp2_with fail
    have wx : IntKind.i64.wrap (x + 1) = x + 1 := IntWalk.i64_in _ (by omega)
    go_region_with (go_at_call 45; (first | ((with_reducible refine (pick_any _ _ _ _ (Rd.drew (r3.alloc _)) (by omega) (by omega)).mono ?_); rintro e w4 ⟨m4, m40, m41, rfl, r4, g5, s4⟩; have hsl := sel2_cell g5 (by omega) m4 m40 m41; obtain ⟨k1, l1⟩ := gk (grownBy_trans G3.out (grownBy_trans (grownBy_drew (World.grownBy_alloc _ _ _)) g5)) w2.heap.size (by simp) hz2R; have b4 := after_pick B3.out (by omega) (Nat.le_refl _) (grownBy_trans (grownBy_drew (World.grownBy_alloc _ _ _)) g5); have c4 : ∀ o, w4.cell? ⟨w.heap.size, o, none⟩ = _ := fun o => b4.cell (p := ⟨w.heap.size, o, none⟩) (by simp); have f4 : ∀ o, w4.frozen? ⟨w.heap.size, o, none⟩ = _ := fun o => b4.frozen (p := ⟨w.heap.size, o, none⟩) (by simp); have B4 := Lib.hid b4; clear b4) | ((with_reducible refine (pick_any _ _ _ _ (Rd.drew r3) (by omega) (by omega)).mono ?_); rintro e w4 ⟨m4, m40, m41, rfl, r4, g5, s4⟩; have hsl := sel2_list m4 (-1) (x + 1) m40 m41; obtain ⟨k1, l1⟩ := gk (grownBy_trans G3.out (grownBy_trans (grownBy_drew (World.grownBy.refl _ _)) g5)) w2.heap.size (by simp) hz2R; have hz4 : w2.heap.size < w4.heap.size := (by rw [s4]; exact hz23); have hz5 := Nat.lt_trans hz hz4; have b4 := after_pick B3.out (by omega) (Nat.le_refl _) (grownBy_trans (grownBy_drew (World.grownBy.refl _ _)) g5); have c4 : ∀ o, w4.cell? ⟨w.heap.size, o, none⟩ = _ := fun o => b4.cell (p := ⟨w.heap.size, o, none⟩) (by simp); have f4 : ∀ o, w4.frozen? ⟨w.heap.size, o, none⟩ = _ := fun o => b4.frozen (p := ⟨w.heap.size, o, none⟩) (by simp); have B4 := Lib.hid b4; clear b4)))
    all_goals
      clear wx
      have hq := sel2_le m4 (-1) (x + 1) (-1) 1002 (by omega) (by omega) (by omega) (by omega)
      have hB := (hb0.trans (B4.out.mono (by simp)))
      go_wp2_with fail
      refine bodyPost_ret (v := .agg #[.int .i64 x, .int .i64 (sel2 m4 (-1) (x + 1))]) (by first | (simp [results, Try.results20, go_sem, c4, s4, hz6]; done) | simp [results, Try.results20, go_sem, c4]) rfl ⟨_, _, rfl, by omega, ?_⟩
      repeat' (first | exact hB | (refine Below.alloc ?_ ?_ _) | (refine Below.setCell ?_ ?_ _))
      all_goals (first | exact Nat.le_refl _ | exact Nat.le_of_lt hz | exact le_set3 hz5 _ _ _ _ _ _)
  · have d0 : (m3 == 0) = false := by simpa using e0
    go_wp2_with fail
    refine bodyPost_ret (v := .agg #[.int .i64 x, .int .i64 y]) (by simp [results, Try.results20, go_sem, c0]) rfl ⟨_, _, rfl, by omega, ?_⟩
    exact (B.out.setCell (by simp) _).setCell (by simp) _
end Go.Proofs.Ytkblbppemjnpdaa
