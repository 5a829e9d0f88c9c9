/- General lemmas on worlds, regions and readers (for the seats without fractions). -/
import Derived.Test.YtjiffbddgbigcaaDoorOpen
import Derived.Deep.RegionHeld3
import Derived.Deep.DeepCutAuto
import Derived.Deep.RegionWith
import Derived.OwnWalk
import Derived.StillTailTactics
import Derived.IntWalk
namespace Go.Proofs.YtjiffbddgbigcaaDoor
open Go.RowKit
set_option linter.unusedVariables false

theorem ret_int {k : IntKind} {a b : Int} (h : a = b) : Ending.returned (.int k a) = .returned (.int k b) := by rw [h]
theorem below_drewN {B : Nat} {a w : World} (h : Below B a w) (n : Nat) : Below B a (w.drewN n) := by
  induction n with
  | zero => exact h
  | succ n ih => exact ⟨ih.os, ih.tape, ih.output, ih.size, ih.block⟩

theorem Below.step0 {W w w2 : World} (C : Below W.heap.size W w) (b : Below w.heap.size w w2) : Below W.heap.size W w2 := C.trans (b.mono C.size)
theorem Below.step1 {W w w2 : World} {o : Obj} (C : Below W.heap.size W w) (b : Below (w.alloc o).heap.size (w.alloc o) w2) : Below W.heap.size W w2 :=
  (C.alloc C.size o).trans (b.mono (Nat.le_trans C.size (by simp)))
theorem Below.step2 {W w w2 : World} {o o2 : Obj} (C : Below W.heap.size W w) (b : Below ((w.alloc o).alloc o2).heap.size ((w.alloc o).alloc o2) w2) : Below W.heap.size W w2 :=
  Below.step1 (C.alloc C.size o) b
theorem Below.step3 {W w w2 : World} {o o2 o3 : Obj} (C : Below W.heap.size W w) (b : Below (((w.alloc o).alloc o2).alloc o3).heap.size (((w.alloc o).alloc o2).alloc o3) w2) : Below W.heap.size W w2 :=
  Below.step2 (C.alloc C.size o) b
theorem Below.step4 {W w w2 : World} {o o2 o3 o4 : Obj} (C : Below W.heap.size W w) (b : Below ((((w.alloc o).alloc o2).alloc o3).alloc o4).heap.size ((((w.alloc o).alloc o2).alloc o3).alloc o4) w2) : Below W.heap.size W w2 :=
  Below.step3 (C.alloc C.size o) b
theorem Below.draw {B : Nat} {W w w2 : World} (b : Below B w.drew w2) : Below B w w2 := ⟨b.os, b.tape, b.output, b.size, b.block⟩

/-- What lies in blocks below, behind a call. -/
theorem blw {W w1 : World} (hb : Below W.heap.size W w1) : (∀ b o, b < W.heap.size → w1.cell? ⟨b, o, none⟩ = W.cell? ⟨b, o, none⟩) ∧ (∀ b o, b < W.heap.size → w1.frozen? ⟨b, o, none⟩ = W.frozen? ⟨b, o, none⟩) :=
  ⟨fun b o h => hb.cell (p := ⟨b, o, none⟩) h, fun b o h => hb.frozen (p := ⟨b, o, none⟩) h⟩

theorem Below.lt1 {B : Nat} {w w2 : World} {o : Obj} (A : Below B (w.alloc o) w2) : w.heap.size < w2.heap.size := by have := A.size; simp at this; omega
theorem Below.lt2 {B : Nat} {w w2 : World} {o o2 : Obj} (A : Below B ((w.alloc o).alloc o2) w2) : w.heap.size < w2.heap.size ∧ w.heap.size + 1 < w2.heap.size := by have := A.size; simp at this; omega
theorem Below.lt3 {B : Nat} {w w2 : World} {o o2 o3 : Obj} (A : Below B (((w.alloc o).alloc o2).alloc o3) w2) : w.heap.size < w2.heap.size ∧ w.heap.size + 1 < w2.heap.size ∧ w.heap.size + 1 + 1 < w2.heap.size := by have := A.size; simp at this; omega
theorem Below.lt4 {B : Nat} {w w2 : World} {o o2 o3 o4 : Obj} (A : Below B ((((w.alloc o).alloc o2).alloc o3).alloc o4) w2) : w.heap.size < w2.heap.size ∧ w.heap.size + 1 < w2.heap.size ∧ w.heap.size + 1 + 1 < w2.heap.size ∧ w.heap.size + 1 + 1 + 1 < w2.heap.size := by have := A.size; simp at this; omega

theorem Below.al {W w : World} {o : Obj} (C : Below W.heap.size W w) : Below W.heap.size W (w.alloc o) := C.alloc C.size o
theorem Below.und {W w : World} (C : Below W.drew.heap.size W.drew w) : Below W.heap.size W w := ⟨C.os, C.tape, C.output, C.size, C.block⟩
theorem keep2 {W w' : World} {p0 p1 : Addr} {v0 v1 : Value} (k0 : W.cell? p0 = some v0) (k1 : W.cell? p1 = some v1) (C : Below W.heap.size W w') :
    w'.cell? p0 = some v0 ∧ w'.cell? p1 = some v1 ∧ Below W.heap.size W w' :=
  ⟨(C.cell (World.block_lt_of_cell? W _ k0)).trans k0, (C.cell (World.block_lt_of_cell? W _ k1)).trans k1, C⟩
theorem keep4 {W w' : World} {p0 p1 p2 p3 : Addr} {v0 v1 v2 v3 : Value} (k0 : W.cell? p0 = some v0) (k1 : W.cell? p1 = some v1) (k2 : W.cell? p2 = some v2) (k3 : W.cell? p3 = some v3) (C : Below W.heap.size W w') :
    w'.cell? p0 = some v0 ∧ w'.cell? p1 = some v1 ∧ w'.cell? p2 = some v2 ∧ w'.cell? p3 = some v3 ∧ Below W.heap.size W w' :=
  ⟨(C.cell (World.block_lt_of_cell? W _ k0)).trans k0, (C.cell (World.block_lt_of_cell? W _ k1)).trans k1, (C.cell (World.block_lt_of_cell? W _ k2)).trans k2, (C.cell (World.block_lt_of_cell? W _ k3)).trans k3, C⟩
theorem keep6 {W w' : World} {p0 p1 p2 p3 p4 p5 : Addr} {v0 v1 v2 v3 v4 v5 : Value} (k0 : W.cell? p0 = some v0) (k1 : W.cell? p1 = some v1) (k2 : W.cell? p2 = some v2) (k3 : W.cell? p3 = some v3) (k4 : W.cell? p4 = some v4) (k5 : W.cell? p5 = some v5) (C : Below W.heap.size W w') :
    w'.cell? p0 = some v0 ∧ w'.cell? p1 = some v1 ∧ w'.cell? p2 = some v2 ∧ w'.cell? p3 = some v3 ∧ w'.cell? p4 = some v4 ∧ w'.cell? p5 = some v5 ∧ Below W.heap.size W w' :=
  ⟨(C.cell (World.block_lt_of_cell? W _ k0)).trans k0, (C.cell (World.block_lt_of_cell? W _ k1)).trans k1, (C.cell (World.block_lt_of_cell? W _ k2)).trans k2, (C.cell (World.block_lt_of_cell? W _ k3)).trans k3, (C.cell (World.block_lt_of_cell? W _ k4)).trans k4, (C.cell (World.block_lt_of_cell? W _ k5)).trans k5, C⟩

theorem set2a {w1 : World} {g : Nat} {u x y : Value} (o : w1.cell? ⟨g, 0, none⟩ = some u) : ((w1.setCell ⟨g, 0, none⟩ x).setCell ⟨g, 1, none⟩ y).cell? ⟨g, 0, none⟩ = some x := by
  rw [World.cell?_setCell_other _ _ _ _ (by simp)]; exact World.cell?_setCell_same w1 _ _ o
theorem set2b {w1 : World} {g : Nat} {v x y : Value} (o : w1.cell? ⟨g, 1, none⟩ = some v) : ((w1.setCell ⟨g, 0, none⟩ x).setCell ⟨g, 1, none⟩ y).cell? ⟨g, 1, none⟩ = some y := by
  have o' : (w1.setCell ⟨g, 0, none⟩ x).cell? ⟨g, 1, none⟩ = some v := by rw [World.cell?_setCell_other _ _ _ _ (by simp)]; exact o
  exact World.cell?_setCell_same _ _ _ o'

/-- What a call with a struct and a bool leaves: the struct in a new block. -/
def ResAt (W : World) (x y : Value) (ok : Bool) (s t : Value) (wx : World) : Prop := ∃ g : Nat, s = .pointer (some ⟨g, 0, none⟩) ∧ t = .bool ok ∧ wx.cell? ⟨g, 0, none⟩ = some x ∧ wx.cell? ⟨g, 1, none⟩ = some y ∧ W.heap.size ≤ g ∧ Below W.heap.size W wx


/-- A block of one's own behind a call that writes at the reader alone. -/
theorem gk {W w1 : World} {R : Nat} (hg : W.grownBy w1 (some R)) (b : Nat) (hb : b < W.heap.size) (hn : b ≠ R) : (∀ o, w1.cell? ⟨b, o, none⟩ = W.cell? ⟨b, o, none⟩) ∧ (∀ o, w1.frozen? ⟨b, o, none⟩ = W.frozen? ⟨b, o, none⟩) :=
  ⟨fun o => World.cell?_of_block (hg.block b hb (by simpa using hn)), fun o => World.frozen?_of_block (hg.block b hb (by simpa using hn))⟩
theorem grownBy_trans {a b c : World} {r : Option Nat} (h : a.grownBy b r) (k : b.grownBy c r) : a.grownBy c r :=
  ⟨k.os.trans h.os, k.tape.trans h.tape, k.output.trans h.output, Nat.le_trans h.size k.size, fun i hi hr => (k.block i (Nat.lt_of_lt_of_le hi h.size) hr).trans (h.block i hi hr)⟩
theorem Rd.alloc {w : World} {R k : Nat} (h : Rd w R k) (o : Obj) : Rd (w.alloc o) R k := h.kept (World.grownBy_alloc w o none) (by simp)
theorem Rd.setCell {w : World} {R k : Nat} (h : Rd w R k) {p : Addr} (hp : R < p.block) (v : Value) : Rd (w.setCell p v) R k :=
  h.kept (row := some p.block) ⟨rfl, rfl, rfl, by simp [World.setCell], fun j _ hj => Below.heap_setCell _ _ _ _ (fun e => hj (by rw [e]))⟩ (by rintro j ⟨⟩; exact hp)
theorem grownBy_setCell {w w' : World} {r : Option Nat} (h : w.grownBy w' r) {p : Addr} (hp : w.heap.size ≤ p.block) (v : Value) : w.grownBy (w'.setCell p v) r :=
  ⟨h.os, h.tape, h.output, by simpa [World.setCell] using h.size, fun i hi hr => (Below.heap_setCell _ _ _ _ (by omega)).trans (h.block i hi hr)⟩

theorem Below.of_grown {w w' : World} {B R : Nat} (hg : w.grownBy w' (some R)) (hB : B ≤ w.heap.size) (hR : B ≤ R) : Below B w w' :=
  (Below.refl B w).grown hg hB (by rintro k ⟨⟩; exact hR)
theorem Rd.drew {w : World} {R k : Nat} (h : Rd w R k) : Rd w.drew R k := h
/-- One of two numbers. -/
def sel2 (m : Int) (u v : Int) : Int := if m = 0 then u else v
theorem sel2_arr (m u v : Int) (h0 : 0 ≤ m) (h1 : m < 2) : (#[Value.int .i64 u, Value.int .i64 v] : Array Value)[m.toNat]? = some (.int .i64 (sel2 m u v)) := by
  rcases (show m = 0 ∨ m = 1 by omega) with rfl | rfl <;> rfl
theorem sel2_list (m u v : Int) (h0 : 0 ≤ m) (h1 : m < 2) : ∀ h : m.toNat < [Value.int .i64 u, Value.int .i64 v].length, [Value.int .i64 u, Value.int .i64 v][m.toNat]'h = .int .i64 (sel2 m u v) := by
  rcases (show m = 0 ∨ m = 1 by omega) with rfl | rfl <;> exact fun _ => rfl
theorem sel2_cell {w w' : World} {R : Nat} {t : TypeId} {u v : Int} (hg : (w.alloc (.cells #[.int .i64 u, .int .i64 v] t)).drew.grownBy w' (some R)) (hR : R < w.heap.size) (m : Int) (h0 : 0 ≤ m) (h1 : m < 2) :
    w'.cell? ⟨w.heap.size, m.toNat, none⟩ = some (.int .i64 (sel2 m u v)) := by
  rw [(gk hg w.heap.size (by show w.heap.size < (w.alloc _).heap.size; simp) (by omega)).1, ← sel2_arr m u v h0 h1]
  exact World.cell?_alloc_at _ _ _ _ rfl
theorem grownBy_drew {w w' : World} {r : Option Nat} (h : w.grownBy w' r) : w.grownBy w'.drew r := ⟨h.os, h.tape, h.output, h.size, h.block⟩
theorem le_set {w : World} {n : Nat} (h : n < w.heap.size) (p : Addr) (v : Value) : n ≤ (w.setCell p v).heap.size := by
  simp [World.setCell]; omega
theorem le_set3 {w : World} {n : Nat} (h : n < w.heap.size) (p q r : Addr) (u v x : Value) : n ≤ (((w.setCell p u).setCell q v).setCell r x).heap.size := by
  simp [World.setCell]; omega
theorem after_pick {W w3 w4 : World} {R B : Nat} (b3 : Below B W w3) (hB : B ≤ w3.heap.size) (hR : B ≤ R) (g : w3.grownBy w4 (some R)) : Below B W w4 := b3.trans (Below.of_grown g hB hR)
theorem sel2_le (m u v : Int) (lo hi : Int) (h1 : lo ≤ u) (h2 : u ≤ hi) (h3 : lo ≤ v) (h4 : v ≤ hi) : lo ≤ sel2 m u v ∧ sel2 m u v ≤ hi := by
  unfold sel2; split <;> omega

theorem IsRow.le {k : IntKind} {w : World} {a : Option Addr} {len cap : Nat} {zs : List Int} (h : IsRow k w a len cap zs) : len ≤ cap ∧ cap ≤ maxLen := by
  rcases h with ⟨_, rfl, rfl, _⟩ | ⟨x, _, h1, h2, _⟩
  · exact ⟨Nat.le_refl _, by unfold maxLen; omega⟩
  · exact ⟨h1, h2⟩

theorem blk_cells {W w' : World} {x y : Value} {t : TypeId} (b : Below (W.alloc (.cells #[x, y] t)).heap.size (W.alloc (.cells #[x, y] t)) w') : w'.cell? ⟨W.heap.size, 0, none⟩ = some x ∧ w'.cell? ⟨W.heap.size, 1, none⟩ = some y ∧ W.heap.size < w'.heap.size :=
  ⟨by rw [b.cell (by simp)]; simp, by rw [b.cell (by simp)]; simp, Below.lt1 b⟩

theorem own_kept {w w' : World} {base e size n R : Nat} {v : Value} {xs : List Value} (h : w.ownsRow base e size v n xs) (hg : w.grownBy w' (some R)) (hR : R < base) : w'.ownsRow base e size v n xs := by
  refine h.kept hg ?_
  cases hv : v.ownBlock with
  | none => exact .inl rfl
  | some k =>
    have := (h.lt k hv).1
    exact .inr (by simp; omega)

theorem own_kept' {w w' : World} {base e size n : Nat} {v : Value} {xs : List Value} (h : w.ownsRow base e size v n xs) (b : Below w.heap.size w w') : w'.ownsRow base e size v n xs := by
  obtain ⟨h1, h2⟩ := h
  refine ⟨h1, ?_⟩
  rcases h2 with h2 | ⟨g, cap, cur, hv, hb, hh, r⟩
  · exact .inl h2
  · refine .inr ⟨g, cap, cur, hv, hb, ?_, r⟩
    have hlt : g < w.heap.size := by
      rcases Nat.lt_or_ge g w.heap.size with k | k
      · exact k
      · rw [Array.getElem?_eq_none k] at hh; cases hh
    rw [b.block g hlt]; exact hh

theorem i64_bounds {n : Int} (h : (Lit.int .i64 n).wf = true) : -9223372036854775808 ≤ n ∧ n ≤ 9223372036854775807 := by
  simpa [Lit.wf, IntKind.min, IntKind.max, IntKind.bits, IntKind.signed] using h
end Go.Proofs.YtjiffbddgbigcaaDoor
