/- Slices of pairs of numbers. -/
import Derived.Test.YtkblbppemjnpdaaReg
import Derived.Test.YtkblbppemjnpdaaOpen
import Derived.OwnWalk
namespace Go.Proofs.Ytkblbppemjnpdaa
open Go.RowKit
set_option linter.unusedVariables false

/-- The k-th pair. -/
def pr (L : List (Int × Int)) (k : Nat) : Int × Int := L.getD k (0, 0)

def PrsAt (w : World) (b off : Nat) (L : List (Int × Int)) : Prop :=
  ∀ i, i < L.length → w.cell? ⟨b, off + i * 2, none⟩ = some (.int .i64 (pr L i).1) ∧ w.cell? ⟨b, off + i * 2 + 1, none⟩ = some (.int .i64 (pr L i).2)

/-- A slice of len pairs reads as L. -/
def Prs (w : World) (a : Option Addr) (len : Nat) (L : List (Int × Int)) : Prop :=
  L.length = len ∧ (len = 0 ∨ ∃ b off : Nat, a = some ⟨b, off, none⟩ ∧ b < w.heap.size ∧ PrsAt w b off L)

theorem Prs.below {w w' : World} {a : Option Addr} {len : Nat} {L : List (Int × Int)} (h : Prs w a len L) (b : Below w.heap.size w w') : Prs w' a len L := by
  obtain ⟨h1, h2⟩ := h
  refine ⟨h1, ?_⟩
  rcases h2 with h2 | ⟨bb, off, e, hlt, hc⟩
  · exact .inl h2
  · exact .inr ⟨bb, off, e, Nat.lt_of_lt_of_le hlt b.size, fun i hi => ⟨(b.cell (p := ⟨bb, _, none⟩) hlt).trans (hc i hi).1, (b.cell (p := ⟨bb, _, none⟩) hlt).trans (hc i hi).2⟩⟩

/-- A row of n pairs of the call's own, at the head of block g. -/
def OwnF (w : World) (g n : Nat) (f : Nat → Int × Int) : Prop :=
  g < w.heap.size ∧ ∀ i, i < n → w.cell? ⟨g, i * 2, none⟩ = some (.int .i64 (f i).1) ∧ w.cell? ⟨g, i * 2 + 1, none⟩ = some (.int .i64 (f i).2) ∧ w.frozen? ⟨g, i * 2, none⟩ = false ∧ w.frozen? ⟨g, i * 2 + 1, none⟩ = false

theorem OwnF.below {w w' : World} {g n : Nat} {f : Nat → Int × Int} (h : OwnF w g n f) (b : Below w.heap.size w w') : OwnF w' g n f :=
  ⟨Nat.lt_of_lt_of_le h.1 b.size, fun i hi => by
    obtain ⟨h1, h2, h3, h4⟩ := h.2 i hi
    exact ⟨(b.cell (p := ⟨g, _, none⟩) h.1).trans h1, (b.cell (p := ⟨g, _, none⟩) h.1).trans h2, (b.frozen (p := ⟨g, _, none⟩) h.1).trans h3, (b.frozen (p := ⟨g, _, none⟩) h.1).trans h4⟩⟩

theorem OwnF.alloc {w : World} {g n : Nat} {f : Nat → Int × Int} (h : OwnF w g n f) (o : Obj) : OwnF (w.alloc o) g n f := h.below ((Below.refl _ _).alloc (Nat.le_refl _) o)

theorem OwnF.congr {w : World} {g n : Nat} {f f' : Nat → Int × Int} (h : OwnF w g n f) (e : ∀ i, i < n → f i = f' i) : OwnF w g n f' :=
  ⟨h.1, fun i hi => by rw [← e i hi]; exact h.2 i hi⟩

theorem OwnF.far {w : World} {g n : Nat} {f : Nat → Int × Int} (h : OwnF w g n f) {p : Addr} (hp : p.block ≠ g) (v : Value) : OwnF (w.setCell p v) g n f := by
  have ne : ∀ o, p ≠ (⟨g, o, none⟩ : Addr) := fun o e => hp (by rw [e])
  refine ⟨by simpa [World.setCell] using h.1, fun i hi => ?_⟩
  obtain ⟨h1, h2, h3, h4⟩ := h.2 i hi
  exact ⟨(World.cell?_setCell_other _ _ _ _ (ne _)).trans h1, (World.cell?_setCell_other _ _ _ _ (ne _)).trans h2, by simpa using h3, by simpa using h4⟩

theorem OwnF.set {w : World} {g n : Nat} {f : Nat → Int × Int} (h : OwnF w g n f) (k : Nat) (x : Int × Int) :
    OwnF ((w.setCell ⟨g, k * 2, none⟩ (.int .i64 x.1)).setCell ⟨g, k * 2 + 1, none⟩ (.int .i64 x.2)) g n (fun i => if i = k then x else f i) := by
  refine ⟨by simpa [World.setCell] using h.1, fun i hi => ?_⟩
  obtain ⟨h1, h2, h3, h4⟩ := h.2 i hi
  refine ⟨?_, ?_, by simpa using h3, by simpa using h4⟩ <;> dsimp only
  · rw [World.cell?_setCell_other _ _ _ _ (by simp <;> omega)]
    by_cases e : i = k
    · subst e; rw [if_pos rfl]; exact World.cell?_setCell_same _ _ _ h1
    · rw [if_neg e, World.cell?_setCell_other _ _ _ _ (by simp <;> omega)]; exact h1
  · by_cases e : i = k
    · subst e; rw [if_pos rfl]
      have h2' : (w.setCell ⟨g, i * 2, none⟩ (.int .i64 x.1)).cell? ⟨g, i * 2 + 1, none⟩ = some (.int .i64 (f i).2) := by rw [World.cell?_setCell_other _ _ _ _ (by simp)]; exact h2
      exact World.cell?_setCell_same _ _ _ h2'
    · rw [if_neg e, World.cell?_setCell_other _ _ _ _ (by simp <;> omega), World.cell?_setCell_other _ _ _ _ (by simp <;> omega)]; exact h2

theorem OwnF.prs {w : World} {g : Nat} {L : List (Int × Int)} {f : Nat → Int × Int} {n : Nat} (h : OwnF w g n f) (hl : L.length = n) (e : ∀ i, i < n → f i = pr L i) : Prs w (some ⟨g, 0, none⟩) n L :=
  ⟨hl, .inr ⟨g, 0, rfl, h.1, fun i hi => by
    have := h.2 i (by omega)
    rw [e i (by omega)] at this
    simp only [Nat.zero_add]
    exact ⟨this.1, this.2.1⟩⟩⟩

theorem made_get (z : Value) (n j : Nat) (h : j < n) : (madeCells #[z, z] n).toList[j]? = some z := by
  have : j % 2 = 0 ∨ j % 2 = 1 := by omega
  rcases this with e | e <;> simp [madeCells, h, e]

theorem own_lt {w : World} {base e size g n cap : Nat} {xs : List Value} (h : w.ownsRow base e size (.slice (some ⟨g, 0, none⟩) n cap) n xs) : g < w.heap.size := by
  rcases h.2 with ⟨h', _⟩ | ⟨g', cp, cur, h', _, hh, _⟩
  · simp at h'
  · simp only [Value.slice.injEq, Option.some.injEq, Addr.mk.injEq, and_true, true_and] at h'
    obtain ⟨rfl, _⟩ := h'
    rcases Nat.lt_or_ge g w.heap.size with k | k
    · exact k
    · rw [Array.getElem?_eq_none k] at hh; cases hh

theorem own_made {w : World} {base e g n : Nat} (h : w.ownsRow base e 2 (.slice (some ⟨g, 0, none⟩) n n) n (madeCells #[.int .i64 0, .int .i64 0] (n * 2)).toList) (hg : g < w.heap.size) : OwnF w g n (fun _ => (0, 0)) :=
  ⟨hg, fun i hi => ⟨by rw [h.cellAt _ (by omega)]; exact made_get _ _ _ (by omega), by rw [h.cellAt _ (by omega)]; exact made_get _ _ _ (by omega), h.frozenAt _, h.frozenAt _⟩⟩

theorem pr_map (n : Nat) (f : Nat → Int × Int) (i : Nat) (h : i < n) : pr ((List.range n).map f) i = f i := by
  unfold pr; simp [h]

theorem OwnF.prs' {w : World} {g n : Nat} {f : Nat → Int × Int} (h : OwnF w g n f) : Prs w (some ⟨g, 0, none⟩) n ((List.range n).map f) :=
  h.prs (by simp) (fun i hi => (pr_map n f i hi).symm)

theorem OwnF.set0 {w : World} {g n : Nat} {f : Nat → Int × Int} (h : OwnF w g n f) (k : Nat) (u : Int) :
    OwnF (w.setCell ⟨g, k * 2, none⟩ (.int .i64 u)) g n (fun i => if i = k then (u, (f i).2) else f i) := by
  refine ⟨by simpa [World.setCell] using h.1, fun i hi => ?_⟩
  obtain ⟨h1, h2, h3, h4⟩ := h.2 i hi
  refine ⟨?_, ?_, by simpa using h3, by simpa using h4⟩ <;> dsimp only
  · by_cases e : i = k
    · subst e; rw [if_pos rfl]; exact World.cell?_setCell_same _ _ _ h1
    · rw [if_neg e, World.cell?_setCell_other _ _ _ _ (by simp <;> omega)]; exact h1
  · rw [World.cell?_setCell_other _ _ _ _ (by simp <;> omega), h2]
    by_cases e : i = k
    · rw [if_pos e]
    · rw [if_neg e]

theorem OwnF.set1 {w : World} {g n : Nat} {f : Nat → Int × Int} (h : OwnF w g n f) (k : Nat) (u : Int) :
    OwnF (w.setCell ⟨g, k * 2 + 1, none⟩ (.int .i64 u)) g n (fun i => if i = k then ((f i).1, u) else f i) := by
  refine ⟨by simpa [World.setCell] using h.1, fun i hi => ?_⟩
  obtain ⟨h1, h2, h3, h4⟩ := h.2 i hi
  refine ⟨?_, ?_, by simpa using h3, by simpa using h4⟩ <;> dsimp only
  · rw [World.cell?_setCell_other _ _ _ _ (by simp <;> omega), h1]
    by_cases e : i = k
    · rw [if_pos e]
    · rw [if_neg e]
  · by_cases e : i = k
    · subst e; rw [if_pos rfl]; exact World.cell?_setCell_same _ _ _ h2
    · rw [if_neg e, World.cell?_setCell_other _ _ _ _ (by simp <;> omega)]; exact h2

/-- The cells of a row of pairs. -/
def fl (L : List (Int × Int)) : List Value := L.flatMap fun p => [.int .i64 p.1, .int .i64 p.2]
theorem fl_nil : fl [] = [] := rfl
theorem fl_snoc (L : List (Int × Int)) (x : Int × Int) : fl (L ++ [x]) = fl L ++ [.int .i64 x.1, .int .i64 x.2] := by simp [fl]
theorem fl_get (L : List (Int × Int)) (i : Nat) (h : i < L.length) : (fl L)[i * 2]? = some (.int .i64 (pr L i).1) ∧ (fl L)[i * 2 + 1]? = some (.int .i64 (pr L i).2) := by
  induction L generalizing i with
  | nil => simp at h
  | cons x L ih =>
    have e : fl (x :: L) = .int .i64 x.1 :: .int .i64 x.2 :: fl L := rfl
    cases i with
    | zero => rw [e]; exact ⟨rfl, rfl⟩
    | succ i =>
      have := ih i (by simpa using h)
      rw [e]
      have e1 : (i + 1) * 2 = i * 2 + 1 + 1 := by omega
      rw [e1]
      simp only [List.getElem?_cons_succ]
      exact this

theorem own_fl {w : World} {base e g cap : Nat} {L : List (Int × Int)} (h : w.ownsRow base e 2 (.slice (some ⟨g, 0, none⟩) L.length cap) L.length (fl L)) : OwnF w g L.length (pr L) :=
  ⟨own_lt h, fun i hi => ⟨by rw [h.cellAt _ (by omega)]; exact (fl_get L i hi).1, by rw [h.cellAt _ (by omega)]; exact (fl_get L i hi).2, h.frozenAt _, h.frozenAt _⟩⟩

theorem own_prs {w : World} {base e : Nat} {v : Value} {n : Nat} {L : List (Int × Int)} (h : w.ownsRow base e 2 v n (fl L)) (hn : L.length = n) :
    ∃ (a : Option Addr) (cap : Nat), v = .slice a n cap ∧ n ≤ cap ∧ cap ≤ maxLen ∧ Prs w a n L := by
  subst hn
  rcases h.2 with ⟨hv, h0⟩ | ⟨g, cap, cur, hv, _, _, h1, h2, _⟩
  · have : L = [] := List.eq_nil_of_length_eq_zero h0
    subst this
    exact ⟨none, 0, hv, Nat.le_refl _, by unfold maxLen; omega, ⟨rfl, .inl rfl⟩⟩
  · subst hv
    exact ⟨_, cap, rfl, h1, h2, (own_fl h).prs rfl (fun _ _ => rfl)⟩

theorem fl_len (L : List (Int × Int)) : (fl L).length = L.length * 2 := by
  induction L with
  | nil => rfl
  | cons x L ih =>
    show (fl L).length + 1 + 1 = (L.length + 1) * 2
    omega
theorem fl_app (A B : List (Int × Int)) : fl (A ++ B) = fl A ++ fl B := by simp [fl]
theorem fl_one (L : List (Int × Int)) : ∀ u ∈ fl L, u.oneCell' = true := by
  intro u hu
  simp only [fl, List.mem_flatMap, List.mem_cons, List.not_mem_nil, or_false] at hu
  obtain ⟨p, _, h | h⟩ := hu <;> subst h <;> rfl
/-- The cells of a slice as the law on append wants them. -/
theorem prs_news {w : World} {b off : Nat} {L : List (Int × Int)} (h : PrsAt w b off L) : ∀ j u, (fl L)[j]? = some u → w.cell? ((⟨b, off, none⟩ : Addr).add j) = some u := by
  intro j u hu
  have hj : j < L.length * 2 := by
    rw [← fl_len]
    exact (List.getElem?_eq_some_iff.1 hu).1
  rw [add_none]
  have hi : j / 2 < L.length := by omega
  obtain ⟨c0, c1⟩ := h (j / 2) hi
  obtain ⟨g0, g1⟩ := fl_get L (j / 2) hi
  rcases Nat.mod_two_eq_zero_or_one j with e | e
  · have ej : j / 2 * 2 = j := by omega
    rw [ej] at c0 g0
    rw [g0] at hu
    cases hu
    exact c0
  · have ej : j / 2 * 2 + 1 = j := by omega
    rw [ej] at g1
    rw [Nat.add_assoc, ej] at c1
    rw [g1] at hu
    cases hu
    exact c1
theorem pr_take (L : List (Int × Int)) (k i : Nat) (h : i < k) : pr (L.take k) i = pr L i := by
  unfold pr; simp [List.getD_eq_getElem?_getD, h]
theorem pr_drop (L : List (Int × Int)) (k i : Nat) : pr (L.drop k) i = pr L (k + i) := by
  unfold pr; simp [List.getD_eq_getElem?_getD, List.getElem?_drop]
theorem PrsAt.take {w : World} {b off : Nat} {L : List (Int × Int)} (h : PrsAt w b off L) (k : Nat) : PrsAt w b off (L.take k) := by
  intro i hi
  rw [List.length_take] at hi
  rw [pr_take L k i (by omega)]
  exact h i (by omega)
theorem PrsAt.drop {w : World} {b off : Nat} {L : List (Int × Int)} (h : PrsAt w b off L) (k : Nat) : PrsAt w b (off + k * 2) (L.drop k) := by
  intro i hi
  rw [List.length_drop] at hi
  rw [pr_drop L k i]
  have := h (k + i) (by omega)
  have e1 : off + (k + i) * 2 = off + k * 2 + i * 2 := by omega
  rw [e1] at this
  exact this
theorem PrsAt.below {w w' : World} {b off : Nat} {L : List (Int × Int)} (h : PrsAt w b off L) {B : Nat} (c : Below B w w') (hb : b < B) : PrsAt w' b off L := fun i hi =>
  ⟨(c.cell (p := ⟨b, _, none⟩) hb).trans (h i hi).1, (c.cell (p := ⟨b, _, none⟩) hb).trans (h i hi).2⟩

/-- Sums over the first k pairs. -/
def psA (L : List (Int × Int)) : Nat → Int
  | 0 => 0
  | k + 1 => psA L k + (pr L k).1
def psH (L : List (Int × Int)) : Nat → Int
  | 0 => 0
  | k + 1 => psH L k + (pr L k).2

/-- A struct of two numbers that a loop changes, beside the result. -/
structure MxRel (w : World) (gO gR : Nat) (p q : Int) (wr : World) : Prop where
  o0 : wr.cell? ⟨gO, 0, none⟩ = some (.int .i64 p)
  o1 : wr.cell? ⟨gO, 1, none⟩ = some (.int .i64 q)
  x0 : wr.frozen? ⟨gO, 0, none⟩ = false
  x1 : wr.frozen? ⟨gO, 1, none⟩ = false
  r0 : wr.cell? ⟨gR, 0, none⟩ = some (.int .i64 0)
  r1 : wr.cell? ⟨gR, 1, none⟩ = some (.int .i64 0)
  y0 : wr.frozen? ⟨gR, 0, none⟩ = false
  y1 : wr.frozen? ⟨gR, 1, none⟩ = false
  bl : Below w.heap.size w wr

theorem MxRel.lt {w wr : World} {gO gR : Nat} {p q : Int} (h : MxRel w gO gR p q wr) : gO < wr.heap.size ∧ gR < wr.heap.size :=
  ⟨World.block_lt_of_cell? wr _ h.o0, World.block_lt_of_cell? wr _ h.r0⟩

theorem MxRel.below {w wr w2 : World} {gO gR : Nat} {p q : Int} (h : MxRel w gO gR p q wr) (b : Below wr.heap.size wr w2) : MxRel w gO gR p q w2 := by
  obtain ⟨l1, l3⟩ := h.lt
  exact ⟨(b.cell l1).trans h.o0, (b.cell l1).trans h.o1, (b.frozen l1).trans h.x0, (b.frozen l1).trans h.x1, (b.cell l3).trans h.r0, (b.cell l3).trans h.r1, (b.frozen l3).trans h.y0, (b.frozen l3).trans h.y1, Below.step0 h.bl b⟩

theorem MxRel.alloc {w wr : World} {gO gR : Nat} {p q : Int} (h : MxRel w gO gR p q wr) (o : Obj) : MxRel w gO gR p q (wr.alloc o) :=
  h.below ((Below.refl _ _).alloc (Nat.le_refl _) o)

theorem MxRel.drew {w wr : World} {gO gR : Nat} {p q : Int} (h : MxRel w gO gR p q wr) : MxRel w gO gR p q wr.drew :=
  h.below (Below.refl _ _).drew

theorem MxRel.set {w wr : World} {gO gR : Nat} {p q : Int} (h : MxRel w gO gR p q wr) (hR : gO ≠ gR) (hw : w.heap.size ≤ gO) (p' q' : Int) :
    MxRel w gO gR p' q' ((wr.setCell ⟨gO, 0, none⟩ (.int .i64 p')).setCell ⟨gO, 1, none⟩ (.int .i64 q')) := by
  have ne : ∀ (g o o' : Nat), gO ≠ g → (⟨gO, o, none⟩ : Addr) ≠ ⟨g, o', none⟩ := fun g o o' hn e => hn (congrArg Addr.block e)
  have kc : ∀ (g o : Nat), gO ≠ g → ((wr.setCell ⟨gO, 0, none⟩ (.int .i64 p')).setCell ⟨gO, 1, none⟩ (.int .i64 q')).cell? ⟨g, o, none⟩ = wr.cell? ⟨g, o, none⟩ := fun g o hn => by
    rw [World.cell?_setCell_other _ _ _ _ (ne g 1 o hn), World.cell?_setCell_other _ _ _ _ (ne g 0 o hn)]
  have kf : ∀ a, ((wr.setCell ⟨gO, 0, none⟩ (.int .i64 p')).setCell ⟨gO, 1, none⟩ (.int .i64 q')).frozen? a = wr.frozen? a := fun a => by simp
  refine ⟨set2a h.o0, set2b h.o1, (kf _).trans h.x0, (kf _).trans h.x1, (kc _ _ hR).trans h.r0, (kc _ _ hR).trans h.r1, (kf _).trans h.y0, (kf _).trans h.y1, ?_⟩
  exact (h.bl.setCell hw _).setCell hw _
end Go.Proofs.Ytkblbppemjnpdaa
