/- Slices of numbers. -/
import Derived.Test.YtjiffbddgbigcaaDoorB1
namespace Go.Proofs.YtjiffbddgbigcaaDoor
open Go.RowKit
set_option linter.unusedVariables false

/-- The k-th number. -/
def it (A : List Int) (k : Nat) : Int := A.getD k 0

def IntsAt (w : World) (b off : Nat) (A : List Int) : Prop := ∀ i, i < A.length → w.cell? ⟨b, off + i, none⟩ = some (.int .i64 (it A i))

/-- A slice of len numbers reads as A. -/
def Ints (w : World) (a : Option Addr) (len : Nat) (A : List Int) : Prop :=
  A.length = len ∧ (len = 0 ∨ ∃ b off : Nat, a = some ⟨b, off, none⟩ ∧ b < w.heap.size ∧ IntsAt w b off A)

theorem Ints.below {w w' : World} {a : Option Addr} {len : Nat} {A : List Int} (h : Ints w a len A) (b : Below w.heap.size w w') : Ints w' a len A := by
  obtain ⟨h1, h2⟩ := h
  refine ⟨h1, ?_⟩
  rcases h2 with h2 | ⟨bb, off, e, hlt, hc⟩
  · exact .inl h2
  · exact .inr ⟨bb, off, e, Nat.lt_of_lt_of_le hlt b.size, fun i hi => (b.cell (p := ⟨bb, _, none⟩) hlt).trans (hc i hi)⟩

theorem IntsAt.below {w w' : World} {b off : Nat} {A : List Int} (h : IntsAt w b off A) {B : Nat} (c : Below B w w') (hb : b < B) : IntsAt w' b off A := fun i hi =>
  (c.cell (p := ⟨b, _, none⟩) hb).trans (h i hi)

theorem it_take (A : List Int) (k i : Nat) (h : i < k) : it (A.take k) i = it A i := by
  unfold it; simp [List.getD_eq_getElem?_getD, h]
theorem it_drop (A : List Int) (k i : Nat) : it (A.drop k) i = it A (k + i) := by
  unfold it; simp [List.getD_eq_getElem?_getD, List.getElem?_drop]
theorem IntsAt.take {w : World} {b off : Nat} {A : List Int} (h : IntsAt w b off A) (k : Nat) : IntsAt w b off (A.take k) := by
  intro i hi
  rw [List.length_take] at hi
  rw [it_take A k i (by omega)]
  exact h i (by omega)
theorem IntsAt.drop {w : World} {b off : Nat} {A : List Int} (h : IntsAt w b off A) (k : Nat) : IntsAt w b (off + k) (A.drop k) := by
  intro i hi
  rw [List.length_drop] at hi
  rw [it_drop A k i]
  have := h (k + i) (by omega)
  rw [← Nat.add_assoc] at this
  exact this

theorem i64_of {n : Int} (h : (Lit.int .i64 n).wf = true) : -9223372036854775808 ≤ n ∧ n ≤ 9223372036854775807 := by
  simpa [Lit.wf, IntKind.min, IntKind.max, IntKind.bits, IntKind.signed] using h

/-- Numbers that came in. -/
theorem IsRow.ints {w : World} {a : Option Addr} {len cap : Nat} {zs : List Int} (h : IsRow .i64 w a len cap zs) : Ints w a len (zs.take len) ∧ ∀ i, i < len → -9223372036854775808 ≤ it (zs.take len) i ∧ it (zs.take len) i ≤ 9223372036854775807 := by
  rcases h with ⟨_, rfl, _, rfl⟩ | ⟨x, rfl, hl, hm, hz, hc, hw⟩
  · exact ⟨⟨rfl, .inl rfl⟩, fun i hi => by omega⟩
  · refine ⟨⟨by rw [List.length_take]; omega, ?_⟩, fun i hi => ?_⟩
    · by_cases h0 : len = 0
      · exact .inl h0
      · obtain ⟨b, off, spot⟩ := x
        have h1 := hc 0 (by omega)
        have hspot : spot = none := by simpa [Addr.add] using World.cell?_spot h1
        subst hspot
        refine .inr ⟨b, off, rfl, ?_, fun i hi => ?_⟩
        · have := World.block_lt_of_cell? w _ h1
          simpa [Addr.add] using this
        · rw [List.length_take] at hi
          rw [it_take zs len i (by omega), ← add_none b off i]
          exact hc i (by omega)
    · rw [it_take zs len i hi]
      apply i64_of
      apply hw
      unfold it
      rw [List.getD_eq_getElem?_getD, List.getElem?_eq_getElem (by omega)]
      simp

/-- A row of n numbers of the call's own, at the head of block g. -/
def OwnI (w : World) (g n : Nat) (f : Nat → Int) : Prop :=
  g < w.heap.size ∧ ∀ i, i < n → w.cell? ⟨g, i, none⟩ = some (.int .i64 (f i)) ∧ w.frozen? ⟨g, i, none⟩ = false

theorem OwnI.below {w w' : World} {g n : Nat} {f : Nat → Int} (h : OwnI w g n f) (b : Below w.heap.size w w') : OwnI w' g n f :=
  ⟨Nat.lt_of_lt_of_le h.1 b.size, fun i hi => by
    obtain ⟨h1, h2⟩ := h.2 i hi
    exact ⟨(b.cell (p := ⟨g, _, none⟩) h.1).trans h1, (b.frozen (p := ⟨g, _, none⟩) h.1).trans h2⟩⟩
theorem OwnI.alloc {w : World} {g n : Nat} {f : Nat → Int} (h : OwnI w g n f) (o : Obj) : OwnI (w.alloc o) g n f := h.below ((Below.refl _ _).alloc (Nat.le_refl _) o)
theorem OwnI.congr {w : World} {g n : Nat} {f f' : Nat → Int} (h : OwnI w g n f) (e : ∀ i, i < n → f i = f' i) : OwnI w g n f' :=
  ⟨h.1, fun i hi => by rw [← e i hi]; exact h.2 i hi⟩
theorem OwnI.far {w : World} {g n : Nat} {f : Nat → Int} (h : OwnI w g n f) {p : Addr} (hp : p.block ≠ g) (v : Value) : OwnI (w.setCell p v) g n f := by
  have ne : ∀ o, p ≠ (⟨g, o, none⟩ : Addr) := fun o e => hp (by rw [e])
  refine ⟨by simpa [World.setCell] using h.1, fun i hi => ?_⟩
  obtain ⟨h1, h2⟩ := h.2 i hi
  exact ⟨(World.cell?_setCell_other _ _ _ _ (ne _)).trans h1, by simpa using h2⟩
theorem OwnI.set {w : World} {g n : Nat} {f : Nat → Int} (h : OwnI w g n f) (k : Nat) (x : Int) :
    OwnI (w.setCell ⟨g, k, none⟩ (.int .i64 x)) g n (fun i => if i = k then x else f i) := by
  refine ⟨by simpa [World.setCell] using h.1, fun i hi => ?_⟩
  obtain ⟨h1, h2⟩ := h.2 i hi
  refine ⟨?_, by simpa using h2⟩
  dsimp only
  by_cases e : i = k
  · subst e; rw [if_pos rfl]; exact World.cell?_setCell_same _ _ _ h1
  · rw [if_neg e, World.cell?_setCell_other _ _ _ _ (by simp <;> omega)]; exact h1
theorem OwnI.ints {w : World} {g : Nat} {A : List Int} {f : Nat → Int} {n : Nat} (h : OwnI w g n f) (hl : A.length = n) (e : ∀ i, i < n → f i = it A i) : Ints w (some ⟨g, 0, none⟩) n A :=
  ⟨hl, .inr ⟨g, 0, rfl, h.1, fun i hi => by
    have := h.2 i (by omega)
    rw [e i (by omega)] at this
    simp only [Nat.zero_add]
    exact this.1⟩⟩
theorem it_map (n : Nat) (f : Nat → Int) (i : Nat) (h : i < n) : it ((List.range n).map f) i = f i := by
  unfold it; simp [h]
theorem OwnI.ints' {w : World} {g n : Nat} {f : Nat → Int} (h : OwnI w g n f) : Ints w (some ⟨g, 0, none⟩) n ((List.range n).map f) :=
  h.ints (by simp) (fun i hi => (it_map n f i hi).symm)

/-- The cells of a row of numbers. -/
def il (A : List Int) : List Value := A.map fun n => .int .i64 n
theorem il_len (A : List Int) : (il A).length = A.length := by simp [il]
theorem il_app (A B : List Int) : il (A ++ B) = il A ++ il B := by simp [il]
theorem il_one (A : List Int) : ∀ u ∈ il A, u.oneCell' = true := by
  intro u hu
  simp only [il, List.mem_map] at hu
  obtain ⟨p, _, rfl⟩ := hu
  rfl
theorem il_get (A : List Int) (i : Nat) (h : i < A.length) : (il A)[i]? = some (.int .i64 (it A i)) := by
  unfold il it
  rw [List.getElem?_map, List.getD_eq_getElem?_getD, List.getElem?_eq_getElem h]
  simp
theorem ints_news {w : World} {b off : Nat} {A : List Int} (h : IntsAt w b off A) : ∀ j u, (il A)[j]? = some u → w.cell? ((⟨b, off, none⟩ : Addr).add j) = some u := by
  intro j u hu
  have hj : j < A.length := by
    rw [← il_len]
    exact (List.getElem?_eq_some_iff.1 hu).1
  rw [add_none, h j hj, ← il_get A j hj]
  exact hu

theorem owni_lt {w : World} {base e size g n cap : Nat} {xs : List Value} (h : w.ownsRow base e size (.slice (some ⟨g, 0, none⟩) n cap) n xs) : g < w.heap.size := by
  rcases h.2 with ⟨h', _⟩ | ⟨g', cp, cur, h', _, hh, _⟩
  · simp at h'
  · simp only [Value.slice.injEq, Option.some.injEq, Addr.mk.injEq, and_true, true_and] at h'
    obtain ⟨rfl, _⟩ := h'
    rcases Nat.lt_or_ge g w.heap.size with k | k
    · exact k
    · rw [Array.getElem?_eq_none k] at hh; cases hh
theorem own_il {w : World} {base e g cap : Nat} {A : List Int} (h : w.ownsRow base e 1 (.slice (some ⟨g, 0, none⟩) A.length cap) A.length (il A)) : OwnI w g A.length (it A) :=
  ⟨owni_lt h, fun i hi => ⟨by rw [h.cellAt _ (by omega)]; exact il_get A i hi, h.frozenAt _⟩⟩
theorem own_imade {w : World} {base e g n : Nat} (h : w.ownsRow base e 1 (.slice (some ⟨g, 0, none⟩) n n) n (madeCells #[.int .i64 0] (n * 1)).toList) : OwnI w g n (fun _ => 0) :=
  ⟨owni_lt h, fun i hi => ⟨by rw [h.cellAt _ (by omega), toList_madeCells_one]; simp [hi], h.frozenAt _⟩⟩
theorem own_ints {w : World} {base e : Nat} {v : Value} {n : Nat} {A : List Int} (h : w.ownsRow base e 1 v n (il A)) (hn : A.length = n) :
    ∃ (a : Option Addr) (cap : Nat), v = .slice a n cap ∧ n ≤ cap ∧ cap ≤ maxLen ∧ Ints w a n A := by
  subst hn
  rcases h.2 with ⟨hv, h0⟩ | ⟨g, cap, cur, hv, _, _, h1, h2, _⟩
  · have : A = [] := List.eq_nil_of_length_eq_zero h0
    subst this
    exact ⟨none, 0, hv, Nat.le_refl _, by unfold maxLen; omega, ⟨rfl, .inl rfl⟩⟩
  · subst hv
    exact ⟨_, cap, rfl, h1, h2, (own_il h).ints rfl (fun _ _ => rfl)⟩
end Go.Proofs.YtjiffbddgbigcaaDoor
