/- What a range over segments keeps in its boxes. -/
import Derived.Test.YtjiffbddgbigcaaDoorSplit
import Derived.Test.YtjiffbddgbigcaaDoorRegIn
import Derived.Test.YtjiffbddgbigcaaDoorOrdI
import Derived.Test.YtjiffbddgbigcaaDoorDrawO
import Derived.RangeFuncBox
namespace Go.Proofs.YtjiffbddgbigcaaDoor
open Go.RowKit Go.Shelf
set_option linter.unusedVariables false
set_option linter.unusedSimpArgs false

/-- Two rows that grow, apart; either may be nil. -/
def Two2 (B : Nat) (w : World) (v v' : Value) (n : Nat) (A A' : List Int) : Prop :=
  w.ownsRow B 3 1 v n (il A) ∧ w.ownsRow B 3 1 v' n (il A') ∧ (∀ g, v.ownBlock = some g → v'.ownBlock = some g → False)
def Row2 (B : Nat) (w : World) (v v' : Value) (n m : Nat) (A A' : List Int) : Prop :=
  w.ownsRow B 3 1 v n (il A) ∧ w.ownsRow B 3 1 v' m (il A') ∧ (∀ g, v.ownBlock = some g → v'.ownBlock = some g → False)
theorem Row2.swap {B : Nat} {w : World} {v v' : Value} {n m : Nat} {A A' : List Int} (h : Row2 B w v v' n m A A') : Row2 B w v' v m n A' A := ⟨h.2.1, h.1, fun g q r => h.2.2 g r q⟩
theorem Row2.alloc {B : Nat} {w : World} {v v' : Value} {n m : Nat} {A A' : List Int} (h : Row2 B w v v' n m A A') (o : Obj) : Row2 B (w.alloc o) v v' n m A A' := ⟨h.1.alloc o, h.2.1.alloc o, h.2.2⟩
theorem Row2.drew {B : Nat} {w : World} {v v' : Value} {n m : Nat} {A A' : List Int} (h : Row2 B w v v' n m A A') : Row2 B w.drew v v' n m A A' := ⟨h.1.drew, h.2.1.drew, h.2.2⟩
theorem Row2.app {B : Nat} {w w' : World} {v v' u : Value} {n m : Nat} {A A' : List Int} {x : Int} (h : Row2 B w v v' n m A A') (ho : w'.ownsRow B 3 1 u (n + 1) (il A ++ [.int .i64 x]))
    (hg : w.grownBy w' v.ownBlock) (hl : u.ownBlock = v.ownBlock ∨ u.ownBlock = some w.heap.size) : Row2 B w' u v' (n + 1) m (A ++ [x]) A' := by
  obtain ⟨h1, h2, h3⟩ := h
  refine ⟨by rw [il_snoc]; exact ho, h2.kept hg ?_, fun g q r => ?_⟩
  · cases hv : v'.ownBlock with
    | none => exact .inl rfl
    | some g => exact .inr (fun q => h3 g q.symm hv)
  · rcases hl with z | z
    · exact h3 g (z ▸ q) r
    · rw [z] at q
      cases q
      have := (h2.lt _ r).2
      omega
theorem own_turn {B e size n : Nat} {w w' : World} {v : Value} {xs : List Value} {row : Option Nat} (h : w.ownsRow B e size v n xs) (hg : w.grownBy w' row) (hr : ∀ r, row = some r → r < B ∨ ∃ o : Obj, w.heap[r]? = some o ∧ o.isCells = false) : w'.ownsRow B e size v n xs := by
  refine h.kept hg ?_
  cases hv : v.ownBlock with
  | none => exact .inl rfl
  | some g =>
    right
    intro q
    rcases hr g q.symm with z | ⟨o, z1, z2⟩
    · have := (h.lt g hv).1
      omega
    · rcases h.2 with ⟨h1, _⟩ | ⟨g', cap, cur, h1, _, h2, _⟩
      · rw [h1] at hv; cases hv
      · rw [h1] at hv
        cases hv
        rw [h2] at z1
        cases z1
        cases z2
theorem Row2.turn {B : Nat} {w w' : World} {v v' : Value} {n m : Nat} {A A' : List Int} {row : Option Nat} (h : Row2 B w v v' n m A A') (hg : w.grownBy w' row) (hr : ∀ r, row = some r → r < B ∨ ∃ o : Obj, w.heap[r]? = some o ∧ o.isCells = false) : Row2 B w' v v' n m A A' :=
  ⟨own_turn h.1 hg hr, own_turn h.2.1 hg hr, h.2.2⟩
theorem Row2.nil (B : Nat) (w : World) : Row2 B w (.slice none 0 0) (.slice none 0 0) 0 0 [] [] :=
  ⟨⟨rfl, .inl ⟨rfl, rfl⟩⟩, ⟨rfl, .inl ⟨rfl, rfl⟩⟩, fun g q => by cases q⟩

def nA (S : List (List UInt8)) : List Int := S.map fun s => ((s.count 97 : Nat) : Int)
def nB (S : List (List UInt8)) : List Int := S.map fun s => ((s.count 98 : Nat) : Int)
theorem nA_snoc (S : List (List UInt8)) (x : List UInt8) : nA (S ++ [x]) = nA S ++ [((x.count 97 : Nat) : Int)] := by simp [nA]
theorem nB_snoc (S : List (List UInt8)) (x : List UInt8) : nB (S ++ [x]) = nB S ++ [((x.count 98 : Nat) : Int)] := by simp [nB]

/-- The result cells at block n as they were made. -/
def Res0 (n : Nat) (W : World) : Prop :=
  (W.cell? ⟨n, 0, none⟩ = some (.slice none 0 0) ∧ W.cell? ⟨n + 1, 0, none⟩ = some (.slice none 0 0) ∧ W.cell? ⟨n + 2, 0, none⟩ = some (.bool false)) ∧
  (W.frozen? ⟨n, 0, none⟩ = false ∧ W.frozen? ⟨n + 1, 0, none⟩ = false ∧ W.frozen? ⟨n + 2, 0, none⟩ = false)
theorem Res0.kr {n : Nat} {W W' : World} (h : Res0 n W) (hb : ∀ k, n ≤ k → k < n + 3 → W'.heap[k]? = W.heap[k]?) : Res0 n W' :=
  ⟨⟨(World.cell?_of_block (hb n (by omega) (by omega))).trans h.1.1, (World.cell?_of_block (hb (n + 1) (by omega) (by omega))).trans h.1.2.1, (World.cell?_of_block (hb (n + 2) (by omega) (by omega))).trans h.1.2.2⟩,
   ⟨(World.frozen?_of_block (hb n (by omega) (by omega))).trans h.2.1, (World.frozen?_of_block (hb (n + 1) (by omega) (by omega))).trans h.2.2.1, (World.frozen?_of_block (hb (n + 2) (by omega) (by omega))).trans h.2.2.2⟩⟩
/-- The boxes of both rows: blocks n+3 and n+4; the heap ended at n when the call began, at n+8 when the loop began. -/
def BoxI (n : Nat) (w : World) (pre : List (List UInt8)) (W : World) : Prop :=
  Res0 n W ∧ (∃ v v', W.cell? ⟨n + 3, 0, none⟩ = some v ∧ W.cell? ⟨n + 4, 0, none⟩ = some v' ∧ Row2 (n + 8) W v v' pre.length pre.length (nA pre) (nB pre)) ∧
  (W.frozen? ⟨n + 3, 0, none⟩ = false ∧ W.frozen? ⟨n + 4, 0, none⟩ = false) ∧ (∀ s ∈ pre, ab s = true) ∧ Below n w W ∧ n + 8 ≤ W.heap.size
theorem BoxI.turn {n : Nat} {w : World} (hn : n = w.heap.size) : OwnFrom (n + 8) (BoxI n w) := by
  rintro s W W' row ⟨h1, ⟨v, v', c1, c2, h2⟩, h3, h4, h5, h6⟩ hg hr
  have far : ∀ k, k < n + 8 → W'.heap[k]? = W.heap[k]? := fun k hk => hg.block k (by omega) (fun e => by have := (hr k e.symm).1; omega)
  exact ⟨h1.kr (fun k _ hk => far k (by omega)), ⟨v, v', (World.cell?_of_block (far _ (by show n + 3 < _; omega))).trans c1, (World.cell?_of_block (far _ (by show n + 4 < _; omega))).trans c2, h2.turn hg (fun r e => .inr (hr r e).2)⟩,
    ⟨(World.frozen?_of_block (far _ (by show n + 3 < _; omega))).trans h3.1, (World.frozen?_of_block (far _ (by show n + 4 < _; omega))).trans h3.2⟩, h4,
    h5.grown hg (by omega) (fun k e => by have := (hr k e).1; omega), Nat.le_trans h6 hg.size⟩
theorem BoxI.set {n : Nat} {w : World} (s : List (List UInt8)) (W : World) (u : Value) (h : BoxI n w s W) : BoxI n w s (W.setCell ⟨n + 5, 0, none⟩ u) := by
  obtain ⟨h1, ⟨v, v', c1, c2, h2⟩, h3, h4, h5, h6⟩ := h
  have far : ∀ k, k ≠ n + 5 → (W.setCell ⟨n + 5, 0, none⟩ u).heap[k]? = W.heap[k]? := fun k hk => Below.heap_setCell _ _ _ _ hk
  exact ⟨h1.kr (fun k _ hk => far k (by omega)), ⟨v, v', (World.cell?_of_block (far _ (by show n + 3 ≠ _; omega))).trans c1, (World.cell?_of_block (far _ (by show n + 4 ≠ _; omega))).trans c2, h2.turn (grownBy_setCell' W (n + 5) u) (fun r e => .inl (by cases e; show n + 5 < _; omega))⟩,
    ⟨(World.frozen?_of_block (far _ (by show n + 3 ≠ _; omega))).trans h3.1, (World.frozen?_of_block (far _ (by show n + 4 ≠ _; omega))).trans h3.2⟩, h4,
    h5.setCell (by show n ≤ n + 5; omega) _, by simpa [World.setCell] using h6⟩
/-- Left early. -/
def BoxX (n : Nat) (w : World) (l : List UInt8) (c : Code) (pre : List (List UInt8)) (W : World) : Prop := c = .ret ∧ prB l = false ∧ Res0 n W ∧ Below n w W ∧ n + 8 ≤ W.heap.size
theorem BoxX.turn {n : Nat} {w : World} (hn : n = w.heap.size) (l : List UInt8) (c : Code) : OwnFrom (n + 8) (BoxX n w l c) := by
  rintro s W W' row ⟨h0, hp, h1, h5, h6⟩ hg hr
  have far : ∀ k, k < n + 8 → W'.heap[k]? = W.heap[k]? := fun k hk => hg.block k (by omega) (fun e => by have := (hr k e.symm).1; omega)
  exact ⟨h0, hp, h1.kr (fun k _ hk => far k (by omega)), h5.grown hg (by omega) (fun k e => by have := (hr k e).1; omega), Nat.le_trans h6 hg.size⟩
theorem nA_sg (l : List UInt8) : nA (sg l) = cA l := rfl
theorem nB_sg (l : List UInt8) : nB (sg l) = cB l := rfl
theorem pr_no {l : List UInt8} {x : List UInt8} (h : x ∈ sg l) (hx : ab x = false) : prB l = false := by
  cases e : prB l with
  | false => rfl
  | true => rw [(pr_yes e).2 x h] at hx; cases hx
theorem pr_ok {l : List UInt8} (h : ∀ s ∈ sg l, ab s = true) : prB l = okB (cA l) (cB l) := by
  unfold prB
  rw [(letters_ab l).mpr h]
  rfl
theorem pr_len {l : List UInt8} (h : prB l = true) : l.length ≤ 52 := by
  obtain ⟨h1, h2⟩ := pr_yes h
  obtain ⟨g1, g2, g3, g4, g5⟩ := ok_true h1
  rw [cA_len] at g1 g2 g4
  rw [cA_len, cB_len] at g3
  have e := sg_join l
  have b := jn_bd (f := gS (sg l)) (m := 12) (sg l).length (fun i hi => by
    have k1 := g4 i hi
    have k2 := g5 i (by rw [cA_len]; exact hi)
    rw [cA_it] at k1
    rw [cB_it] at k2
    have := (ab_count (gS (sg l) i)).2.mpr (h2 _ (gS_mem hi))
    omega)
  rw [e] at b
  omega
theorem pr_long {l : List UInt8} (h : 52 < l.length) : prB l = false := by
  cases e : prB l with
  | false => rfl
  | true => have := pr_len e; omega
theorem sg_le : ∀ (l s : List UInt8), s ∈ sg l → s.length ≤ l.length
  | [], s, hs => by
    rw [sg_nil] at hs
    simp at hs
    subst hs
    simp
  | c :: l, s, hs => by
    by_cases h : c = 124
    · subst h
      rw [sg_bar] at hs
      rcases List.mem_cons.mp hs with q | q
      · subst q; simp
      · have := sg_le l s q
        rw [List.length_cons]
        omega
    · rw [sg_cons l h] at hs
      have hh : (sg l).headD [] ∈ sg l := by rw [sg_ht l]; simp
      have ht : ∀ y, y ∈ (sg l).tail → y ∈ sg l := fun y hy => by rw [sg_ht l]; exact List.mem_cons_of_mem _ hy
      rcases List.mem_cons.mp hs with q | q
      · subst q
        have := sg_le l _ hh
        rw [List.length_cons, List.length_cons]
        omega
      · have := sg_le l s (ht s q)
        rw [List.length_cons]
        omega
theorem sg_cnt : ∀ l : List UInt8, (sg l).length ≤ l.length + 1
  | [] => Nat.le_refl _
  | c :: l => by
    have := sg_cnt l
    by_cases h : c = 124
    · subst h; rw [sg_bar, List.length_cons, List.length_cons]; omega
    · rw [sg_cons l h, List.length_cons, List.length_tail, List.length_cons]; omega
theorem ints_nil (w : World) : Ints w none 0 [] := ⟨rfl, .inl rfl⟩
theorem prA_no {l : List UInt8} (h : prB l = false) : prA l = [] ∧ prC l = [] := by
  unfold prA prC
  rw [h]
  exact ⟨rfl, rfl⟩
theorem prA_yes {l : List UInt8} (h : prB l = true) : prA l = cA l ∧ prC l = cB l := by
  unfold prA prC
  rw [h]
  exact ⟨rfl, rfl⟩
/-- Rows of the call's own, apart, or none. -/
def OwnP (lo : Nat) (w : World) (a b : Option Addr) (n m : Nat) (A B : List Int) : Prop :=
  (A = [] ∧ B = []) ∨ ∃ g g', a = some ⟨g, 0, none⟩ ∧ b = some ⟨g', 0, none⟩ ∧ lo ≤ g ∧ lo ≤ g' ∧ g ≠ g' ∧ OwnI w g n (it A) ∧ OwnI w g' m (it B)
/-- What the answer says, of a text that is none. -/
theorem parts_no {l : List UInt8} (h : prB l = false) {n : Nat} {w w' : World} (b : Below n w w') : ∃ (a b : Option Addr) (n' m c c' : Nat), Ending.returned (.tuple #[.slice none 0 0, .slice none 0 0, .bool false]) = .returned (.tuple #[.slice a n' c, .slice b m c', .bool (prB l)]) ∧ n' ≤ c ∧ c ≤ maxLen ∧ m ≤ c' ∧ c' ≤ maxLen ∧ Ints w' a n' (prA l) ∧ Ints w' b m (prC l) ∧ Below n w w' ∧ OwnP n w' a b n' m (prA l) (prC l) := by
  obtain ⟨e1, e2⟩ := prA_no h
  rw [h, e1, e2]
  exact ⟨none, none, 0, 0, 0, 0, rfl, Nat.le_refl _, Nat.zero_le _, Nat.le_refl _, Nat.zero_le _, ints_nil _, ints_nil _, b, .inl ⟨rfl, rfl⟩⟩
theorem leaves_none {F : Fence} {n : Nat} {fn : Func} {tmps : Array Value} {R : Ending → World → Prop} {W : World} {v : Value} (hr : (results fn tmps).run Tryd.prog W = .ok v W) (hR : R (.returned v) W) :
    bodyPostM F n Tryd.prog fn R .ret { tmps := tmps, defers := [] } W := ⟨v, hr, hR⟩
theorem leaves_one {F : Fence} {n : Nat} {fn : Func} {tmps : Array Value} {R : Ending → World → Prop} {D : Nat} {W : World} {v : Value} (hk : W.heap[D]? = some (.deferred (some [])))
    (hr : (results fn tmps).run Tryd.prog (W.putObj D (.deferred none)) = .ok v (W.putObj D (.deferred none))) (hR : R (.returned v) (W.putObj D (.deferred none))) :
    bodyPostM F n Tryd.prog fn R .ret { tmps := tmps, defers := [{ target := .collected D, args := #[] }] } W := ⟨by simp, .inl ⟨D, _, rfl, run_takeDeferred hk, v, hr, hR⟩⟩
theorem own_same {w w' : World} {g n : Nat} {f : Nat → Int} (h : OwnI w g n f) (hb : w'.heap[g]? = w.heap[g]?) (hs : w.heap.size ≤ w'.heap.size) : OwnI w' g n f :=
  ⟨Nat.lt_of_lt_of_le h.1 hs, fun i hi => ⟨(World.cell?_of_block hb).trans (h.2 i hi).1, (World.frozen?_of_block hb).trans (h.2 i hi).2⟩⟩
theorem own_not {w : World} {g n D : Nat} {f : Nat → Int} {o : Option (List Deferred)} (h : OwnI w g n f) (hn : 1 ≤ n) (hk : w.heap[D]? = some (.deferred o)) : g ≠ D := by
  rintro rfl
  have := (h.2 0 (by omega)).1
  unfold World.cell? at this
  rw [hk] at this
  cases this
/-- Left behind the stores of the results. -/
theorem leaves_set {F : Fence} {N : Nat} {fn : Func} {tmps : Array Value} {R : Ending → World → Prop} {n D : Nat} {w1 X : World} {a b c : Value} (hk : w1.heap[D]? = some (.deferred (some []))) (hD : n + 8 ≤ D)
    (hX : ∀ k, n + 3 ≤ k → X.heap[k]? = w1.heap[k]?) (hb : Below n w1 X) (x1 : X.cell? ⟨n, 0, none⟩ = some a) (x2 : X.cell? ⟨n + 1, 0, none⟩ = some b) (x3 : X.cell? ⟨n + 2, 0, none⟩ = some c)
    (hr : ∀ Y : World, Y.cell? ⟨n, 0, none⟩ = some a → Y.cell? ⟨n + 1, 0, none⟩ = some b → Y.cell? ⟨n + 2, 0, none⟩ = some c → (results fn tmps).run Tryd.prog Y = .ok (.tuple #[a, b, c]) Y)
    (hsz : n ≤ w1.heap.size) (hR : ∀ Y : World, (∀ k, n + 3 ≤ k → k ≠ D → Y.heap[k]? = w1.heap[k]?) → Below n w1 Y → w1.heap.size ≤ Y.heap.size → R (.returned (.tuple #[a, b, c])) Y) :
    bodyPostM F N Tryd.prog fn R .ret { tmps := tmps, defers := [{ target := .collected D, args := #[] }] } X := by
  have far : ∀ k, k ≠ D → (X.putObj D (.deferred none)).heap[k]? = X.heap[k]? := fun k hk => World.putObj_heap_other (fun e => hk e)
  refine leaves_one ((hX D (by omega)).trans hk) (hr _ ((World.cell?_of_block (far _ (by show n ≠ D; omega))).trans x1) ((World.cell?_of_block (far _ (by show n + 1 ≠ D; omega))).trans x2) ((World.cell?_of_block (far _ (by show n + 2 ≠ D; omega))).trans x3)) (hR _ (fun k h1 h2 => (far k h2).trans (hX k h1)) ?_ ?_)
  · exact hb.grown (grownBy_putObj' X D _) (Nat.le_trans hsz hb.size) (fun k e => by cases e; omega)
  · exact Nat.le_trans hb.size (by simp [World.putObj])
theorem far3 {w : World} {n : Nat} (p q r : Addr) (u v x : Value) (hp : p.block < n + 3) (hq : q.block < n + 3) (hr : r.block < n + 3) : ∀ k, n + 3 ≤ k → (((w.setCell p u).setCell q v).setCell r x).heap[k]? = w.heap[k]? := fun k hk =>
  ((Below.heap_setCell _ _ _ _ (by omega)).trans (Below.heap_setCell _ _ _ _ (by omega))).trans (Below.heap_setCell _ _ _ _ (by omega))
theorem bel3 {w : World} {n : Nat} (p q r : Addr) (u v x : Value) (hp : n ≤ p.block) (hq : n ≤ q.block) (hr : n ≤ r.block) : Below n w (((w.setCell p u).setCell q v).setCell r x) := (((Below.refl n w).setCell hp _).setCell hq _).setCell hr _
theorem Res0.set {n : Nat} {W : World} (h : Res0 n W) : Res0 n (((W.setCell ⟨n, 0, none⟩ (.slice none 0 0)).setCell ⟨n + 1, 0, none⟩ (.slice none 0 0)).setCell ⟨n + 2, 0, none⟩ (.bool false)) := by
  obtain ⟨⟨h1, h2, h3⟩, h4, h5, h6⟩ := h
  refine ⟨⟨?_, ?_, ?_⟩, by simpa using h4, by simpa using h5, by simpa using h6⟩
  · rw [World.cell?_setCell_other _ _ _ _ (by simp), World.cell?_setCell_other _ _ _ _ (by simp)]
    exact World.cell?_setCell_same _ _ _ h1
  · rw [World.cell?_setCell_other _ _ _ _ (by simp)]
    exact World.cell?_setCell_same (W.setCell ⟨n, 0, none⟩ (.slice none 0 0)) _ _ (show (W.setCell ⟨n, 0, none⟩ (.slice none 0 0)).cell? ⟨n + 1, 0, none⟩ = _ by rw [World.cell?_setCell_other _ _ _ _ (by simp)]; exact h2)
  · exact World.cell?_setCell_same _ _ _ (show World.cell? _ ⟨n + 2, 0, none⟩ = _ by rw [World.cell?_setCell_other _ _ _ _ (by simp), World.cell?_setCell_other _ _ _ _ (by simp)]; exact h3)
theorem keeps_set3 {B n : Nat} (W : World) (u v x : Value) (h : n + 2 < B) : KeepsFrom B W (((W.setCell ⟨n, 0, none⟩ u).setCell ⟨n + 1, 0, none⟩ v).setCell ⟨n + 2, 0, none⟩ x) :=
  ((KeepsFrom.of_grownBy (grownBy_setCell' W n u) (fun j e => by cases e; omega)).trans (KeepsFrom.of_grownBy (grownBy_setCell' _ (n + 1) v) (fun j e => by cases e; omega))).trans (KeepsFrom.of_grownBy (grownBy_setCell' _ (n + 2) x) (fun j e => by cases e; omega))
end Go.Proofs.YtjiffbddgbigcaaDoor
