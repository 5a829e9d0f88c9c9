/- Worlds that change within a range of blocks; rows of windows in such a range; markWindowS, heldWindowS. -/
import Derived.Test.YteflaibcldknmaaWinS
import Derived.Test.YteflaibcldknmaaWithin
namespace Go.Proofs.Yteflaibcldknmaa
open Go.RowKit
set_option linter.unusedVariables false
set_option linter.unusedSimpArgs false

/-- A row of windows in a block of a range. -/
def RowP (w : World) (a : Option Addr) (n : Nat) (L : List (Int × Int)) (lo hi : Nat) : Prop :=
  L.length = n ∧ hi ≤ w.heap.size ∧ (n = 0 ∨ ∃ g : Nat, a = some ⟨g, 0, none⟩ ∧ lo ≤ g ∧ g < hi ∧ OwnF w g n (pr L))

theorem RowP.prs {w : World} {a : Option Addr} {n : Nat} {L : List (Int × Int)} {lo hi : Nat} (h : RowP w a n L lo hi) : Prs w a n L := by
  obtain ⟨h1, _, h2 | ⟨g, rfl, _, _, o⟩⟩ := h
  · exact ⟨h1, .inl h2⟩
  · exact o.prs h1 (fun _ _ => rfl)
theorem RowP.below {w w' : World} {a : Option Addr} {n : Nat} {L : List (Int × Int)} {lo hi : Nat} (h : RowP w a n L lo hi) (b : Below w.heap.size w w') : RowP w' a n L lo hi := by
  obtain ⟨h1, h0, h2 | ⟨g, rfl, h3, h4, o⟩⟩ := h
  · exact ⟨h1, Nat.le_trans h0 b.size, .inl h2⟩
  · exact ⟨h1, Nat.le_trans h0 b.size, .inr ⟨g, rfl, h3, h4, o.below b⟩⟩
theorem OwnF.within {w w' : World} {g n : Nat} {f : Nat → Int × Int} {lo hi : Nat} (h : OwnF w g n f) (x : Within lo hi w w') (hd : g < lo ∨ hi ≤ g) : OwnF w' g n f := by
  have hb := x.block g h.1 hd
  refine ⟨Nat.lt_of_lt_of_le h.1 x.size, fun i hi' => ?_⟩
  obtain ⟨q1, q2, q3, q4⟩ := h.2 i hi'
  exact ⟨(World.cell?_of_block hb).trans q1, (World.cell?_of_block hb).trans q2, (World.frozen?_of_block hb).trans q3, (World.frozen?_of_block hb).trans q4⟩
theorem RowP.within {w w' : World} {a : Option Addr} {n : Nat} {L : List (Int × Int)} {lo hi lo' hi' : Nat} (h : RowP w a n L lo hi) (x : Within lo' hi' w w') (hd : hi ≤ lo' ∨ hi' ≤ lo) : RowP w' a n L lo hi := by
  obtain ⟨h1, h0, h2 | ⟨g, rfl, h3, h4, o⟩⟩ := h
  · exact ⟨h1, Nat.le_trans h0 x.size, .inl h2⟩
  · exact ⟨h1, Nat.le_trans h0 x.size, .inr ⟨g, rfl, h3, h4, o.within x (by omega)⟩⟩
theorem RowP.of_new {w w' : World} {g n : Nat} {L : List (Int × Int)} (hl : L.length = n) (o : OwnF w' g n (pr L)) (hg : w.heap.size ≤ g) : RowP w' (some ⟨g, 0, none⟩) n L w.heap.size w'.heap.size :=
  ⟨hl, Nat.le_refl _, .inr ⟨g, rfl, hg, o.1, o⟩⟩

/-- What a marked row holds. -/
def mkL (k : Int) (n : Nat) : List (Int × Int) := (List.range n).map fun (i : Nat) => (k + 2 * (i : Int), k + 2 * (i : Int) + 1)
theorem mkL_len (k : Int) (n : Nat) : (mkL k n).length = n := by simp [mkL]
theorem mkL_pr (k : Int) (n i : Nat) (h : i < n) : pr (mkL k n) i = (k + 2 * (i : Int), k + 2 * (i : Int) + 1) := pr_map n (fun (i : Nat) => (k + 2 * (i : Int), k + 2 * (i : Int) + 1)) i h

def MarkPost (w : World) (a : Option Addr) (n : Nat) (lo hi : Nat) (k : Int) (e : Ending) (w' : World) : Prop := e = .returned (.int .i64 (k + 2 * (n : Int))) ∧ RowP w' a n (mkL k n) lo hi ∧ Within lo hi w w'


end Go.Proofs.Yteflaibcldknmaa
