/- The reader of drawn inputs: the contract of pick at any reader; l6Open. -/
import Derived.Test.YtjiffbddgbigcaaDoorPick
namespace Go.Proofs.YtjiffbddgbigcaaDoor
open Go.RowKit
set_option linter.unusedVariables false

theorem size_drewN (w : World) (k : Nat) : (w.drewN k).heap.size = w.heap.size := by
  induction k with
  | zero => rfl
  | succ k ih => exact ih

theorem cell_drewN (w : World) (k : Nat) (a : Addr) : (w.drewN k).cell? a = w.cell? a := by
  induction k with
  | zero => rfl
  | succ k ih => exact ih

theorem frozen_drewN (w : World) (k : Nat) (a : Addr) : (w.drewN k).frozen? a = w.frozen? a := by
  induction k with
  | zero => rfl
  | succ k ih => exact ih

/-- The reader behind a pick: its place is one further. -/
theorem Rd.step {w : World} {R k : Nat} (a : Option Addr) (len cap p : Nat) (h1 : w.cell? ⟨R, 0, none⟩ = some (.slice a len cap)) (h2 : w.cell? ⟨R, 0 + 1, none⟩ = some (.int .i64 p)) (h3 : w.frozen? ⟨R, 0 + 1, none⟩ = false)
    (h4 : p ≤ k) (h5 : len ≤ 2000) (h6 : len = 0 ∨ ∃ b off : Nat, a = some ⟨b, off, none⟩ ∧ b < R ∧ ∀ i, i < len → ∃ z : Int, w.cell? ⟨b, off + i, none⟩ = some (.int .u8 z) ∧ 0 ≤ z ∧ z ≤ 255) (j : Nat) :
    Rd ((w.setCell ⟨R, 0 + 1, none⟩ (.int .i64 (p + 1))).drewN j) R (k + 1) := by
  refine ⟨a, len, cap, p + 1, ?_, ?_, ?_, by omega, h5, ?_⟩
  · rw [cell_drewN, World.cell?_setCell_other _ _ _ _ (by simp)]; exact h1
  · rw [cell_drewN, World.cell?_setCell_same w _ _ h2]; rfl
  · rw [frozen_drewN]; simp [h3]
  · rcases h6 with h6 | ⟨b, off, e, hb, hi⟩
    · exact .inl h6
    · refine .inr ⟨b, off, e, hb, fun i hi' => ?_⟩
      obtain ⟨z, hz, z0, z1⟩ := hi i hi'
      refine ⟨z, ?_, z0, z1⟩
      rw [cell_drewN, World.cell?_setCell_other _ _ _ _ (fun e => by have e' : R = b := congrArg Addr.block e; omega)]; exact hz

def PickPost (w : World) (R k : Nat) (n : Int) (e : Ending) (w' : World) : Prop := ∃ m : Int, 0 ≤ m ∧ m < n ∧ e = .returned (.int .i64 m) ∧ Rd w' R (k + 1) ∧ w.grownBy w' (some R) ∧ w'.heap.size = w.heap.size

theorem pick_any (R k : Nat) (n : Int) (w : World) (h : Rd w R k) (hk : k ≤ 1000000) (hn : 1 ≤ n) :
    Calls Tryd.prog 29 #[.pointer (some ⟨R, 0, none⟩), .int .i64 n] w (PickPost w R k n) := by
  obtain ⟨a, len, cap, p, h1, h2, h3, h4, h5, h6⟩ := h
  have st := fun j => Rd.step (k := k) a len cap p h1 h2 h3 h4 h5 h6 j
  have gr := fun j => grown_set_drew w R (0 + 1) (.int .i64 (p + 1)) j
  have sz : ∀ j, ((w.setCell ⟨R, 0 + 1, none⟩ (.int .i64 (p + 1))).drewN j).heap.size = w.heap.size := fun j => by rw [size_drewN]; simp [World.setCell]
  rcases h6 with rfl | ⟨b, off, rfl, hb, hi⟩
  · refine (pick_none R cap p a n w (by omega) h1 h2 h3).mono ?_
    rintro e w' ⟨rfl, rfl⟩
    exact ⟨0, by omega, by omega, rfl, st 0, gr 0, sz 0⟩
  · by_cases h0 : len = 0
    · subst h0
      refine (pick_none R cap p _ n w (by omega) h1 h2 h3).mono ?_
      rintro e w' ⟨rfl, rfl⟩
      exact ⟨0, by omega, by omega, rfl, st 0, gr 0, sz 0⟩
    · by_cases hlt : p < len
      · obtain ⟨z, hz, z0, z1⟩ := hi p hlt
        refine (pick_in R b off len cap p z n w hn (by omega) hlt h5 z0 z1 (by omega) h1 h2 h3 hz).mono ?_
        rintro e w' ⟨rfl, rfl⟩
        exact ⟨z % n, Int.emod_nonneg _ (by omega), Int.emod_lt_of_pos _ (by omega), rfl, st 0, gr 0, sz 0⟩
      · obtain ⟨z1, hz1, z10, z11⟩ := hi (p % len) (Nat.mod_lt _ (by omega))
        obtain ⟨z2, hz2, z20, z21⟩ := hi ((p * 7 + 3) % len) (Nat.mod_lt _ (by omega))
        refine (pick_out' R b off len cap p (p % len) ((p * 7 + 3) % len) (p / len) z1 z2 n w hn (by omega) (by omega) (by omega) h5 z10 z11 z20 z21 (by omega) h1 h2 h3 ?_ ?_ ?_ (Nat.mod_lt _ (by omega)) (Nat.mod_lt _ (by omega)) (Nat.le_trans (Nat.div_le_self _ _) (by omega)) hz1 hz2).mono ?_
        · rw [Int.tmod_eq_emod_of_nonneg (by omega)]; rfl
        · rw [Int.tmod_eq_emod_of_nonneg (by omega)]; rfl
        · rw [Int.tdiv_eq_ediv_of_nonneg (by omega)]; rfl
        · rintro e w' ⟨m, m0, m1, rfl, j, rfl⟩
          exact ⟨m, m0, m1, rfl, st j, gr j, sz j⟩
end Go.Proofs.YtjiffbddgbigcaaDoor
