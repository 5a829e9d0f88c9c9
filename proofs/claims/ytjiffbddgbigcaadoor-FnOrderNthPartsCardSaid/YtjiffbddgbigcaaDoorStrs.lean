/- Texts as values, rows of texts. -/
import Derived.Test.YtjiffbddgbigcaaDoorInts
import Derived.Test.YtjiffbddgbigcaaDoorDig
namespace Go.Proofs.YtjiffbddgbigcaaDoor
open Go.RowKit
set_option linter.unusedVariables false
set_option linter.unusedSimpArgs false

/-- A text of bytes. -/
def bs (l : List UInt8) : ByteArray := ⟨l.toArray⟩
theorem bs_app (l m : List UInt8) : bs l ++ bs m = bs (l ++ m) := ByteArray.mk_append_mk l m
theorem bs_size (l : List UInt8) : (bs l).size = l.length := by
  show l.toArray.size = _
  simp
theorem bs_data (l : List UInt8) : (bs l).data.toList = l := by
  show l.toArray.toList = l
  simp
theorem bs_of (s : ByteArray) : bs s.data.toList = s := by
  apply ByteArray.ext
  simp [bs]
theorem bs_inj {l m : List UInt8} (h : bs l = bs m) : l = m := by
  have := congrArg (fun s : ByteArray => s.data.toList) h
  simpa [bs_data] using this
theorem bs_list (l : List UInt8) : (bs l).toList = l := by
  rw [ByteArray.toList_eq, bs_data]
theorem bs_eq (l m : List UInt8) : ((bs l).toList == (bs m).toList) = decide (l = m) := by
  rw [bs_list, bs_list]
  by_cases h : l = m
  · subst h; simp
  · simp [h]
theorem run_bs_add (P : Program) (w : World) (l m : List UInt8) (h : l.length + m.length ≤ 1000000) : (Op.stringOp .add (bs l) (bs m)).run P w = .ok (.string (bs (l ++ m))) w := by
  rw [run_string_add_sum w _ _ (by rw [bs_size, bs_size]; omega), bs_app]

/-- A row of n texts of the call's own, at the head of block g. -/
def OwnS (w : World) (g n : Nat) (f : Nat → ByteArray) : Prop :=
  g < w.heap.size ∧ ∀ i, i < n → w.cell? ⟨g, i, none⟩ = some (.string (f i)) ∧ w.frozen? ⟨g, i, none⟩ = false
theorem OwnS.below {w w' : World} {g n : Nat} {f : Nat → ByteArray} (h : OwnS w g n f) (b : Below w.heap.size w w') : OwnS w' g n f :=
  ⟨Nat.lt_of_lt_of_le h.1 b.size, fun i hi => by
    obtain ⟨h1, h2⟩ := h.2 i hi
    exact ⟨(b.cell (p := ⟨g, _, none⟩) h.1).trans h1, (b.frozen (p := ⟨g, _, none⟩) h.1).trans h2⟩⟩
theorem OwnS.drew {w : World} {g n : Nat} {f : Nat → ByteArray} (h : OwnS w g n f) : OwnS w.drew g n f := h
theorem OwnS.congr {w : World} {g n : Nat} {f f' : Nat → ByteArray} (h : OwnS w g n f) (e : ∀ i, i < n → f i = f' i) : OwnS w g n f' :=
  ⟨h.1, fun i hi => by rw [← e i hi]; exact h.2 i hi⟩
theorem OwnS.set {w : World} {g n : Nat} {f : Nat → ByteArray} (h : OwnS w g n f) (k : Nat) (x : ByteArray) :
    OwnS (w.setCell ⟨g, k, none⟩ (.string x)) g n (fun i => if i = k then x else f i) := by
  refine ⟨by simpa [World.setCell] using h.1, fun i hi => ?_⟩
  obtain ⟨h1, h2⟩ := h.2 i hi
  refine ⟨?_, by simpa using h2⟩
  dsimp only
  by_cases e : i = k
  · subst e; rw [if_pos rfl]; exact World.cell?_setCell_same _ _ _ h1
  · rw [if_neg e, World.cell?_setCell_other _ _ _ _ (by simp <;> omega)]; exact h1
theorem owns_lt {w : World} {base e size g n cap : Nat} {xs : List Value} (h : w.ownsRow base e size (.slice (some ⟨g, 0, none⟩) n cap) n xs) : g < w.heap.size := owni_lt h
theorem own_smade {w : World} {base e g n : Nat} {z : ByteArray} (h : w.ownsRow base e 1 (.slice (some ⟨g, 0, none⟩) n n) n (madeCells #[.string z] (n * 1)).toList) : OwnS w g n (fun _ => z) :=
  ⟨owni_lt h, fun i hi => ⟨by rw [h.cellAt _ (by omega), toList_madeCells_one]; simp [hi], h.frozenAt _⟩⟩
theorem infoStr : (Tryd.prog.info? 9).map (fun i => (i.zero, i.size, i.bytes)) = some (some (.string ByteArray.empty), 1, 16) := by kernel_rfl
theorem bs_nil : ByteArray.empty = bs [] := rfl
end Go.Proofs.YtjiffbddgbigcaaDoor
