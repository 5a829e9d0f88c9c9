/- Drawn waters: l93Water, DrawWaterValid, DrawWaterRatio. -/
import Derived.Test.YtkblbppemjnpdaaOpen
namespace Go.Proofs.Ytkblbppemjnpdaa
open Go.RowKit
set_option linter.unusedVariables false

/-- A block of one's own behind a call that writes at the reader alone. -/
theorem gk {W w1 : World} {R : Nat} (hg : W.grownBy w1 (some R)) (b : Nat) (hb : b < W.heap.size) (hn : b ≠ R) : (∀ o, w1.cell? ⟨b, o, none⟩ = W.cell? ⟨b, o, none⟩) ∧ (∀ o, w1.frozen? ⟨b, o, none⟩ = W.frozen? ⟨b, o, none⟩) :=
  ⟨fun o => World.cell?_of_block (hg.block b hb (by simpa using hn)), fun o => World.frozen?_of_block (hg.block b hb (by simpa using hn))⟩

theorem grownBy_trans {a b c : World} {r : Option Nat} (h : a.grownBy b r) (k : b.grownBy c r) : a.grownBy c r :=
  ⟨k.os.trans h.os, k.tape.trans h.tape, k.output.trans h.output, Nat.le_trans h.size k.size, fun i hi hr => (k.block i (Nat.lt_of_lt_of_le hi h.size) hr).trans (h.block i hi hr)⟩

theorem Rd.alloc {w : World} {R k : Nat} (h : Rd w R k) (o : Obj) : Rd (w.alloc o) R k := h.kept (World.grownBy_alloc w o none) (by simp)

theorem Rd.setCell {w : World} {R k : Nat} (h : Rd w R k) {p : Addr} (hp : R < p.block) (v : Value) : Rd (w.setCell p v) R k :=
  h.kept (row := some p.block) ⟨rfl, rfl, rfl, by simp [World.setCell], fun j _ hj => Below.heap_setCell _ _ _ _ (fun e => hj (by rw [e]))⟩ (by rintro j ⟨⟩; exact hp)

theorem grownBy_setCell {w w' : World} {r : Option Nat} (h : w.grownBy w' r) {p : Addr} (hp : w.heap.size ≤ p.block) (v : Value) : w.grownBy (w'.setCell p v) r :=
  ⟨h.os, h.tape, h.output, by simpa [World.setCell] using h.size, fun i hi hr => (Below.heap_setCell _ _ _ _ (by omega)).trans (h.block i hi hr)⟩

def WaterPost (w : World) (R k : Nat) (e : Ending) (w' : World) : Prop := ∃ a h : Int, e = .returned (.agg #[.int .i64 a, .int .i64 h]) ∧ (0 ≤ a ∧ a ≤ 1001 ∧ 0 ≤ h ∧ h ≤ 1001) ∧ Rd w' R (k + 4) ∧ w.grownBy w' (some R)

theorem l93Water_any (R k : Nat) (w : World) (h : Rd w R k) (hk : k ≤ 900000) :
    Calls Try.prog 44 #[.pointer (some ⟨R, 0, none⟩)] w (WaterPost w R k) := by
  have hlt := h.lt
  have h1 := h.alloc (.cells #[.int .i64 0, .int .i64 0] 25)
  go_enter Try.func44, Try.ntmps44
  go_wp2_with fail
  refine (pick_any R k _ _ h1 (by omega) (by omega)).mono ?_
  rintro e w1 ⟨m1, m10, m11, rfl, h2, g2, s2⟩
  go_wp2_with fail
  refine (pick_any R (k + 1) _ _ h2 (by omega) (by omega)).mono ?_
  rintro e w2 ⟨m2, m20, m21, rfl, h3, g3, s3⟩
  have g4 := grownBy_trans g2 g3
  go_wp2_with fail
  refine (pick_any R (k + 1 + 1) _ _ (h3.alloc _) (by omega) (by omega)).mono ?_
  rintro e w3 ⟨m3, m30, m31, rfl, h5, g5, s5⟩
  have g6 := grownBy_trans g4 (grownBy_trans (World.grownBy_alloc _ _ _) g5)
  have g7 := grownBy_trans (World.grownBy_alloc w (.cells #[.int .i64 0, .int .i64 0] 25) _) g6
  obtain ⟨c0, f0⟩ := gk g6 w.heap.size (by simp) (by omega)
  obtain ⟨c1, f1⟩ := gk g5 (w.heap.size + 1) (by simp [s2, s3]) (by omega)
  have G := Lib.hid g7
  have G6 := Lib.hid g6
  clear g2 g3 g4 g5 g6 g7
  by_cases e0 : m3 = 0
  · subst e0
    go_wp2_with fail
    refine (pick_any R (k + 1 + 1 + 1) _ _ (h5.alloc _) (by omega) (by omega)).mono ?_
    rintro e w4 ⟨m4, m40, m41, rfl, h8, g8, s8⟩
    have g9 := grownBy_trans G.out (grownBy_trans (World.grownBy_alloc _ _ _) g8)
    obtain ⟨k0, l0⟩ := gk (grownBy_trans G6.out (grownBy_trans (World.grownBy_alloc _ _ _) g8)) w.heap.size (by simp) (by omega)
    obtain ⟨k1, l1⟩ := gk g8 (w.heap.size + 1) (by simp [s2, s3, s5]; try omega) (by omega)
    obtain ⟨k2, l2⟩ := gk g8 (w.heap.size + 1 + 1) (by simp [s2, s3, s5]) (by omega)
    have G9 := Lib.hid g9
    clear g8 g9 G
    rcases (show m4 = 0 ∨ m4 = 1 by omega) with e1 | e1
    · subst e1
      go_wp2_with fail
      refine bodyPost_ret (v := .agg #[.int .i64 0, .int .i64 m2]) (by simp [results, Try.results44, go_sem, k0]) rfl ⟨_, _, rfl, by omega, ?_, ?_⟩
      · exact (Rd.setCell (Rd.setCell (Rd.setCell h8 (by simp; omega) _) (by simp; omega) _) (by simp; omega) _)
      · exact (grownBy_setCell (grownBy_setCell (grownBy_setCell G9.out (by simp; try omega) _) (by simp; try omega) _) (by simp; try omega) _)
    · subst e1
      go_wp2_with fail
      refine bodyPost_ret (v := .agg #[.int .i64 1001, .int .i64 m2]) (by simp [results, Try.results44, go_sem, k0]) rfl ⟨_, _, rfl, by omega, ?_, ?_⟩
      · exact (Rd.setCell (Rd.setCell (Rd.setCell h8 (by simp; omega) _) (by simp; omega) _) (by simp; omega) _)
      · exact (grownBy_setCell (grownBy_setCell (grownBy_setCell G9.out (by simp; try omega) _) (by simp; try omega) _) (by simp; try omega) _)
  · have d0 : (m3 == 0) = false := by simpa using e0
    clear e0
    by_cases e0 : m3 = 1
    · subst e0
      clear d0
      go_wp2_with fail
      refine bodyPost_ret (v := .agg #[.int .i64 (1 + m1), .int .i64 (1 + m1 + 1)]) (by simp [results, Try.results44, go_sem, c0]) rfl ⟨_, _, rfl, by omega, ?_, ?_⟩
      · exact (Rd.setCell (Rd.setCell (Rd.setCell (h5.mono (by omega)) (by simp; omega) _) (by simp; omega) _) (by simp; omega) _)
      · exact (grownBy_setCell (grownBy_setCell (grownBy_setCell G.out (by simp; try omega) _) (by simp; try omega) _) (by simp; try omega) _)
    · have d1 : (m3 == 1) = false := by simpa using e0
      clear e0
      go_wp2_with fail
      refine bodyPost_ret (v := .agg #[.int .i64 (1 + m1), .int .i64 m2]) (by simp [results, Try.results44, go_sem, c0]) rfl ⟨_, _, rfl, by omega, ?_, ?_⟩
      · exact (Rd.setCell (Rd.setCell (h5.mono (by omega)) (by simp; omega) _) (by simp; omega) _)
      · exact (grownBy_setCell (grownBy_setCell G.out (by simp; try omega) _) (by simp; try omega) _)
end Go.Proofs.Ytkblbppemjnpdaa
