/- The contract of pick: a number from 0 to n-1; the reader's place goes on by one. -/
import Derived.Test.YtjiffbddgbigcaaDoorIn
import Derived.RegionTactic
import Derived.Deep.QuietTactic
import Derived.BigQuiet
import Derived.IntWalk
namespace Go.Proofs.YtjiffbddgbigcaaDoor
open Go.RowKit
set_option linter.unusedVariables false

theorem xor_i64_nat (a b : Nat) (ha : a < 1000000000) (hb : b < 1000000000) : ∃ c : Nat, bits .xor .i64 (a : Int) (b : Int) = (c : Int) ∧ c < 2 ^ 30 := by
  have hx : a ^^^ b < 2 ^ 30 := Nat.xor_lt_two_pow (by omega) (by omega)
  have h1 : (BitVec.ofInt 64 (a : Int)).toNat = a := by
    rw [BitVec.ofInt_natCast, BitVec.toNat_ofNat]; exact Nat.mod_eq_of_lt (by omega)
  have h2 : (BitVec.ofInt 64 (b : Int)).toNat = b := by
    rw [BitVec.ofInt_natCast, BitVec.toNat_ofNat]; exact Nat.mod_eq_of_lt (by omega)
  refine ⟨a ^^^ b, ?_, hx⟩
  show IntKind.i64.wrap ((BitVec.ofInt 64 (a : Int) ^^^ BitVec.ofInt 64 (b : Int)).toNat : Int) = _
  rw [BitVec.toNat_xor, h1, h2]
  exact IntWalk.i64_in _ (by omega)

theorem mix_nonneg (X : Int) (h0 : 0 ≤ X) (h1 : X ≤ 100000000) (n : Int) (hn : 1 ≤ n) :
    0 ≤ (bits .xor .i64 X (X / 64)).tmod n ∧ (bits .xor .i64 X (X / 64)).tmod n < n := by
  obtain ⟨x, rfl⟩ := Int.eq_ofNat_of_zero_le h0
  rw [show ((x : Int) / 64) = ((x / 64 : Nat) : Int) from by omega]
  obtain ⟨c, hc, _⟩ := xor_i64_nat x (x / 64) (by omega) (by omega)
  rw [hc, Int.tmod_eq_emod_of_nonneg (by omega)]
  exact ⟨Int.emod_nonneg _ (by omega), Int.emod_lt_of_pos _ (by omega)⟩

set_option maxRecDepth 100000 in
theorem pick_none (R cap p : Nat) (a : Option Addr) (n : Int) (w : World) (hp2 : p ≤ 1000000)
    (hb : w.cell? ⟨R, 0, none⟩ = some (.slice a 0 cap)) (hp : w.cell? ⟨R, 0 + 1, none⟩ = some (.int .i64 p)) (hf : w.frozen? ⟨R, 0 + 1, none⟩ = false) :
    Calls Tryd.prog 29 #[.pointer (some ⟨R, 0, none⟩), .int .i64 n] w fun e w' => e = .returned (.int .i64 0) ∧ w.setCell ⟨R, 0 + 1, none⟩ (.int .i64 (p + 1)) = w' := by
  by_cases hn : n < 1
  · have d1 : decide (n < 1) = true := by simpa using hn
    go_enter Tryd.func29, Tryd.ntmps29
    go_wp2
    go_ret
    exact ⟨rfl, rfl⟩
  · have d1 : decide (n < 1) = false := by simpa using hn
    go_enter Tryd.func29, Tryd.ntmps29
    go_wp2
    go_ret
    exact ⟨rfl, rfl⟩

set_option maxRecDepth 100000 in
theorem pick_in (R b off len cap p : Nat) (z : Int) (n : Int) (w : World) (hn : 1 ≤ n) (hp2 : p ≤ 1000000) (hlt : p < len) (hl : len ≤ 2000) (hz : 0 ≤ z) (hz2 : z ≤ 255) (hne : b ≠ R)
    (hb : w.cell? ⟨R, 0, none⟩ = some (.slice (some ⟨b, off, none⟩) len cap)) (hp : w.cell? ⟨R, 0 + 1, none⟩ = some (.int .i64 p)) (hf : w.frozen? ⟨R, 0 + 1, none⟩ = false)
    (hc : w.cell? ⟨b, off + p, none⟩ = some (.int .u8 z)) :
    Calls Tryd.prog 29 #[.pointer (some ⟨R, 0, none⟩), .int .i64 n] w fun e w' => e = .returned (.int .i64 (z % n)) ∧ w.setCell ⟨R, 0 + 1, none⟩ (.int .i64 (p + 1)) = w' := by
  have d1 : decide (n < 1) = false := by simp; omega
  have d2 : ((len : Int) == 0) = false := by simp; omega
  go_enter Tryd.func29, Tryd.ntmps29
  go_wp2
  go_ret
  exact ⟨rfl, rfl⟩

set_option maxRecDepth 100000 in
set_option maxHeartbeats 400000 in
theorem pick_out' (R b off len cap p i1 i2 q : Nat) (z1 z2 : Int) (n : Int) (w : World) (hn : 1 ≤ n) (hp2 : p ≤ 1000000) (hpos : 0 < len) (hge : len ≤ p) (hl : len ≤ 2000) (h10 : 0 ≤ z1) (h11 : z1 ≤ 255) (h20 : 0 ≤ z2) (h21 : z2 ≤ 255) (hne : b ≠ R)
    (hb : w.cell? ⟨R, 0, none⟩ = some (.slice (some ⟨b, off, none⟩) len cap)) (hp : w.cell? ⟨R, 0 + 1, none⟩ = some (.int .i64 p)) (hf : w.frozen? ⟨R, 0 + 1, none⟩ = false)
    (t1 : (p : Int).tmod (len : Int) = (i1 : Int)) (t2 : ((p : Int) * 7 + 3).tmod (len : Int) = (i2 : Int)) (t3 : (p : Int).tdiv (len : Int) = (q : Int)) (hi1 : i1 < len) (hi2 : i2 < len) (hq : q ≤ 1000000)
    (hc1 : w.cell? ⟨b, off + i1, none⟩ = some (.int .u8 z1)) (hc2 : w.cell? ⟨b, off + i2, none⟩ = some (.int .u8 z2)) :
    Calls Tryd.prog 29 #[.pointer (some ⟨R, 0, none⟩), .int .i64 n] w fun e w' => ∃ m : Int, 0 ≤ m ∧ m < n ∧ e = .returned (.int .i64 m) ∧ ∃ k, (w.setCell ⟨R, 0 + 1, none⟩ (.int .i64 (p + 1))).drewN k = w' := by
  have d1 : decide (n < 1) = false := by simp; omega
  have d2 : ((len : Int) == 0) = false := by simp; omega
  have d3 : decide (p < len) = false := by simp; omega
  go_enter Tryd.func29, Tryd.ntmps29
  go_wp2
  have a1 : IntKind.i64.wrap ((p : Int) * 7) = (p : Int) * 7 := IntWalk.i64_in _ (by omega)
  have a2 : IntKind.i64.wrap ((p : Int) * 7 + 3) = (p : Int) * 7 + 3 := IntWalk.i64_in _ (by omega)
  have a3 : IntKind.i64.wrap z1 = z1 := IntWalk.i64_in _ (by omega)
  have a4 : IntKind.i64.wrap z2 = z2 := IntWalk.i64_in _ (by omega)
  have a5 : IntKind.i64.wrap (z1 * 131) = z1 * 131 := IntWalk.i64_in _ (by omega)
  have a6 : IntKind.i64.wrap (z2 * 1117) = z2 * 1117 := IntWalk.i64_in _ (by omega)
  have a7 : IntKind.i64.wrap (z1 * 131 + z2 * 1117) = z1 * 131 + z2 * 1117 := IntWalk.i64_in _ (by omega)
  have a8 : IntKind.i64.wrap ((p : Int) * 29) = (p : Int) * 29 := IntWalk.i64_in _ (by omega)
  have a9 : IntKind.i64.wrap (z1 * 131 + z2 * 1117 + (p : Int) * 29) = z1 * 131 + z2 * 1117 + (p : Int) * 29 := IntWalk.i64_in _ (by omega)
  have b1 : IntKind.i64.wrap (q : Int) = (q : Int) := IntWalk.i64_in _ (by omega)
  have b2 : IntKind.i64.wrap ((q : Int) * 53) = (q : Int) * 53 := IntWalk.i64_in _ (by omega)
  have b3 : IntKind.i64.wrap (z1 * 131 + z2 * 1117 + (p : Int) * 29 + (q : Int) * 53) = z1 * 131 + z2 * 1117 + (p : Int) * 29 + (q : Int) * 53 := IntWalk.i64_in _ (by omega)
  have c1 : (0 : Int) ≤ (i1 : Int) := by omega
  have c2 : (0 : Int) ≤ (i2 : Int) := by omega
  go_quiet (fail)
  clear a1 a2 a3 a4 a5 a6 a7 a8 a9 b1 b2 b3 t1 t2 t3
  have x0 : 0 ≤ z1 * 131 + z2 * 1117 + (p : Int) * 29 + (q : Int) * 53 := by omega
  have x1 : z1 * 131 + z2 * 1117 + (p : Int) * 29 + (q : Int) * 53 ≤ 100000000 := by omega
  generalize z1 * 131 + z2 * 1117 + (p : Int) * 29 + (q : Int) * 53 = X at *
  obtain ⟨m0, m1⟩ := mix_nonneg X x0 x1 n hn
  go_wp2
  go_ret
  exact ⟨_, m0, m1, rfl, _, rfl⟩

/-- What lies at the reader: the bytes that it reads, and its place. -/
def Rd (w : World) (R k : Nat) : Prop := ∃ (a : Option Addr) (len cap p : Nat), w.cell? ⟨R, 0, none⟩ = some (.slice a len cap) ∧ w.cell? ⟨R, 0 + 1, none⟩ = some (.int .i64 p) ∧ w.frozen? ⟨R, 0 + 1, none⟩ = false ∧
  p ≤ k ∧ len ≤ 2000 ∧ (len = 0 ∨ ∃ b off : Nat, a = some ⟨b, off, none⟩ ∧ b < R ∧ ∀ i, i < len → ∃ z : Int, w.cell? ⟨b, off + i, none⟩ = some (.int .u8 z) ∧ 0 ≤ z ∧ z ≤ 255)

theorem Rd.lt {w : World} {R k : Nat} (h : Rd w R k) : R < w.heap.size := by
  obtain ⟨a, len, cap, p, hb, _⟩ := h
  exact World.block_lt_of_cell? w _ hb

theorem Rd.mono {w : World} {R k k' : Nat} (h : Rd w R k) (hk : k ≤ k') : Rd w R k' := by
  obtain ⟨a, len, cap, p, h1, h2, h3, h4, h5⟩ := h
  exact ⟨a, len, cap, p, h1, h2, h3, by omega, h5⟩

theorem frozen_lt_kept {w w' : World} {row : Option Nat} (hg : w.grownBy w' row) {a : Addr} (hlt : a.block < w.heap.size) (hne : some a.block ≠ row) : w'.frozen? a = w.frozen? a :=
  World.frozen?_of_block (hg.block a.block hlt hne)

/-- The reader stays as it is behind writes elsewhere. -/
theorem Rd.kept {w w' : World} {R k : Nat} {row : Option Nat} (h : Rd w R k) (hg : w.grownBy w' row) (hr : ∀ j, row = some j → R < j) : Rd w' R k := by
  have hlt := h.lt
  have hne : some R ≠ row := fun e => by have := hr R e.symm; omega
  obtain ⟨a, len, cap, p, h1, h2, h3, h4, h5, h6⟩ := h
  refine ⟨a, len, cap, p, hg.cell h1 hne, hg.cell h2 hne, ?_, h4, h5, ?_⟩
  · rw [frozen_lt_kept hg hlt hne]; exact h3
  · rcases h6 with h6 | ⟨b, off, e, hb, hi⟩
    · exact .inl h6
    · refine .inr ⟨b, off, e, hb, fun i hi' => ?_⟩
      obtain ⟨z, hz, z0, z1⟩ := hi i hi'
      exact ⟨z, hg.cell hz (fun e => by have := hr b e.symm; omega), z0, z1⟩

theorem grown_set_drew (w : World) (R o : Nat) (v : Value) (k : Nat) : w.grownBy ((w.setCell ⟨R, o, none⟩ v).drewN k) (some R) := by
  induction k with
  | zero => exact ⟨rfl, rfl, rfl, by simp [World.setCell, World.drewN], fun j _ hj => Below.heap_setCell _ _ _ _ (by simpa using hj)⟩
  | succ k ih => exact ⟨ih.os, ih.tape, ih.output, ih.size, ih.block⟩
end Go.Proofs.YtjiffbddgbigcaaDoor
