/- Contracts: WaterSteps of both packages. -/
import Derived.Test.YtkblbppemjnpdaaFrac2
import Derived.Test.YtkblbppemjnpdaaReg
namespace Go.Proofs.Ytkblbppemjnpdaa
open Go.RowKit
set_option linter.unusedVariables false

def stp (c d : Int) : Nat → Int × Int → Option (Int × Int)
  | 0, x => some x
  | k + 1, x => (stp c d k x).bind fun p => if fmOk p.1 p.2 c d = true then some (fmN p.1 p.2 c d, fmD p.1 p.2 c d) else none

def wsGo (a b c d n : Int) : Bool := fvB a b && fvB c d && inB n 0 10
def wsRes (a b c d n : Int) : Option (Int × Int) := if wsGo a b c d n = true then stp c d n.toNat (a, b) else none
def wsOk (a b c d n : Int) : Bool := (wsRes a b c d n).isSome
def wsN (a b c d n : Int) : Int := ((wsRes a b c d n).getD (0, 0)).1
def wsD (a b c d n : Int) : Int := ((wsRes a b c d n).getD (0, 0)).2

theorem ws_no {a b c d n : Int} (h : wsGo a b c d n = false) : wsN a b c d n = 0 ∧ wsD a b c d n = 0 ∧ wsOk a b c d n = false := by
  unfold wsN wsD wsOk wsRes; rw [h]; exact ⟨rfl, rfl, rfl⟩
theorem ws_end {a b c d p q : Int} {k : Nat} (h : wsGo a b c d k = true) (hs : stp c d k (a, b) = some (p, q)) : wsN a b c d k = p ∧ wsD a b c d k = q ∧ wsOk a b c d k = true := by
  unfold wsN wsD wsOk wsRes; rw [h]; simp [hs]
theorem stp_none {c d : Int} {x : Int × Int} {k : Nat} (h : stp c d k x = none) : ∀ m, k ≤ m → stp c d m x = none := by
  intro m hm
  induction m with
  | zero => have : k = 0 := by omega
            subst this; exact h
  | succ m ih =>
    by_cases e : k = m + 1
    · subst e; exact h
    · have := ih (by omega)
      show (stp c d m x).bind _ = none
      rw [this]; rfl
theorem stp_ok {c d p q : Int} {x : Int × Int} {k : Nat} (h : stp c d k x = some (p, q)) (ho : fmOk p q c d = true) : stp c d (k + 1) x = some (fmN p q c d, fmD p q c d) := by
  show (stp c d k x).bind _ = _
  rw [h]; show (if fmOk p q c d = true then _ else _) = _; rw [if_pos ho]
theorem ws_fail {a b c d p q n : Int} {k : Nat} (hk : (k : Int) < n) (h : wsGo a b c d n = true) (hs : stp c d k (a, b) = some (p, q)) (ho : fmOk p q c d = false) : wsN a b c d n = 0 ∧ wsD a b c d n = 0 ∧ wsOk a b c d n = false := by
  have e : stp c d (k + 1) (a, b) = none := by
    show (stp c d k (a, b)).bind _ = _
    rw [hs]; show (if fmOk p q c d = true then _ else _) = _; rw [if_neg (by rw [ho]; simp)]
  have e2 := stp_none e n.toNat (by omega)
  unfold wsN wsD wsOk wsRes; rw [h]; simp [e2]

/-- The three blocks of the loop: the fraction, the factor, the result. -/
structure StpRel (w : World) (gO gF gR : Nat) (p q c d : Int) (wr : World) : Prop where
  o0 : wr.cell? ⟨gO, 0, none⟩ = some (.int .i64 p)
  o1 : wr.cell? ⟨gO, 1, none⟩ = some (.int .i64 q)
  x0 : wr.frozen? ⟨gO, 0, none⟩ = false
  x1 : wr.frozen? ⟨gO, 1, none⟩ = false
  f0 : wr.cell? ⟨gF, 0, none⟩ = some (.int .i64 c)
  f1 : wr.cell? ⟨gF, 1, none⟩ = some (.int .i64 d)
  r0 : wr.cell? ⟨gR, 0, none⟩ = some (.int .i64 0)
  r1 : wr.cell? ⟨gR, 1, none⟩ = some (.int .i64 0)
  y0 : wr.frozen? ⟨gR, 0, none⟩ = false
  y1 : wr.frozen? ⟨gR, 1, none⟩ = false
  bl : Below w.heap.size w wr

theorem StpRel.lt {w wr : World} {gO gF gR : Nat} {p q c d : Int} (h : StpRel w gO gF gR p q c d wr) : gO < wr.heap.size ∧ gF < wr.heap.size ∧ gR < wr.heap.size :=
  ⟨World.block_lt_of_cell? wr _ h.o0, World.block_lt_of_cell? wr _ h.f0, World.block_lt_of_cell? wr _ h.r0⟩

theorem StpRel.below {w wr w2 : World} {gO gF gR : Nat} {p q c d : Int} (h : StpRel w gO gF gR p q c d wr) (b : Below wr.heap.size wr w2) : StpRel w gO gF gR p q c d w2 := by
  obtain ⟨l1, l2, l3⟩ := h.lt
  exact ⟨(b.cell l1).trans h.o0, (b.cell l1).trans h.o1, (b.frozen l1).trans h.x0, (b.frozen l1).trans h.x1, (b.cell l2).trans h.f0, (b.cell l2).trans h.f1, (b.cell l3).trans h.r0, (b.cell l3).trans h.r1, (b.frozen l3).trans h.y0, (b.frozen l3).trans h.y1, Below.step0 h.bl b⟩

theorem StpRel.alloc {w wr : World} {gO gF gR : Nat} {p q c d : Int} (h : StpRel w gO gF gR p q c d wr) (o : Obj) : StpRel w gO gF gR p q c d (wr.alloc o) :=
  h.below ((Below.refl _ _).alloc (Nat.le_refl _) o)

theorem StpRel.set {w wr : World} {gO gF gR : Nat} {p q c d : Int} (h : StpRel w gO gF gR p q c d wr) (hF : gO ≠ gF) (hR : gO ≠ gR) (hw : w.heap.size ≤ gO) (p' q' : Int) :
    StpRel w gO gF gR p' q' c d ((wr.setCell ⟨gO, 0, none⟩ (.int .i64 p')).setCell ⟨gO, 1, none⟩ (.int .i64 q')) := by
  have ne : ∀ (g o o' : Nat), gO ≠ g → (⟨gO, o, none⟩ : Addr) ≠ ⟨g, o', none⟩ := fun g o o' hn e => hn (congrArg Addr.block e)
  have kc : ∀ (g o : Nat), gO ≠ g → ((wr.setCell ⟨gO, 0, none⟩ (.int .i64 p')).setCell ⟨gO, 1, none⟩ (.int .i64 q')).cell? ⟨g, o, none⟩ = wr.cell? ⟨g, o, none⟩ := fun g o hn => by
    rw [World.cell?_setCell_other _ _ _ _ (ne g 1 o hn), World.cell?_setCell_other _ _ _ _ (ne g 0 o hn)]
  have kf : ∀ a, ((wr.setCell ⟨gO, 0, none⟩ (.int .i64 p')).setCell ⟨gO, 1, none⟩ (.int .i64 q')).frozen? a = wr.frozen? a := fun a => by simp
  refine ⟨set2a h.o0, set2b h.o1, (kf _).trans h.x0, (kf _).trans h.x1, (kc _ _ hF).trans h.f0, (kc _ _ hF).trans h.f1, (kc _ _ hR).trans h.r0, (kc _ _ hR).trans h.r1, (kf _).trans h.y0, (kf _).trans h.y1, ?_⟩
  exact (h.bl.setCell hw _).setCell hw _
end Go.Proofs.Ytkblbppemjnpdaa
