/- l6Open: the reader over the bytes that came in. -/
import Derived.Test.YtjiffbddgbigcaaDoorRd
import Derived.OpenShut
namespace Go.Proofs.YtjiffbddgbigcaaDoor
open Go.RowKit
set_option linter.unusedVariables false

/-- A slice of integers that came in: nil, or a row of 'cap' cells. -/
def IsRow (k : IntKind) (w : World) (a : Option Addr) (len cap : Nat) (zs : List Int) : Prop :=
  (a = none ∧ len = 0 ∧ cap = 0 ∧ zs = []) ∨
  ∃ x, a = some x ∧ len ≤ cap ∧ cap ≤ maxLen ∧ zs.length = cap ∧ (∀ i, i < zs.length → w.cell? (x.add i) = some (.int k (zs.getD i 0))) ∧ ∀ n ∈ zs, (Lit.int k n).wf = true

theorem add_none (b off i : Nat) : (⟨b, off, none⟩ : Addr).add i = ⟨b, off + i, none⟩ := by
  unfold Addr.add; split <;> simp_all

theorem u8_bounds {n : Int} (h : (Lit.int .u8 n).wf = true) : 0 ≤ n ∧ n ≤ 255 := by
  simpa [Lit.wf, IntKind.min, IntKind.max, IntKind.bits, IntKind.signed] using h

/-- The bytes as the reader wants them. -/
def IsBytes (w : World) (a : Option Addr) (len : Nat) : Prop := len = 0 ∨ ∃ b off : Nat, a = some ⟨b, off, none⟩ ∧ b < w.heap.size ∧ ∀ i, i < len → ∃ z : Int, w.cell? ⟨b, off + i, none⟩ = some (.int .u8 z) ∧ 0 ≤ z ∧ z ≤ 255

theorem IsRow.bytes {w : World} {a : Option Addr} {len cap : Nat} {zs : List Int} (h : IsRow .u8 w a len cap zs) : IsBytes w a len := by
  rcases h with ⟨_, h, _⟩ | ⟨x, rfl, hl, hm, hz, hc, hw⟩
  · exact .inl h
  · by_cases h0 : len = 0
    · exact .inl h0
    · obtain ⟨b, off, spot⟩ := x
      have h1 := hc 0 (by omega)
      have hspot : spot = none := by simpa [Addr.add] using World.cell?_spot h1
      subst hspot
      refine .inr ⟨b, off, rfl, World.block_lt_of_cell? w _ h1, fun i hi => ⟨zs.getD i 0, by rw [← add_none b off i]; exact hc i (by omega), ?_⟩⟩
      have : zs.getD i 0 ∈ zs := by rw [List.getD_eq_getElem?_getD, List.getElem?_eq_getElem (by omega)]; simp
      exact u8_bounds (hw _ this)

theorem IsBytes.kept {w w' : World} {a : Option Addr} {len : Nat} (h : IsBytes w a len) (hb : Below w.heap.size w w') : IsBytes w' a len := by
  rcases h with h | ⟨b, off, e, hlt, hc⟩
  · exact .inl h
  · refine .inr ⟨b, off, e, Nat.lt_of_lt_of_le hlt hb.size, fun i hi => ?_⟩
    obtain ⟨z, hz, h0, h1⟩ := hc i hi
    exact ⟨z, by rw [hb.cell (p := ⟨b, off + i, none⟩) hlt]; exact hz, h0, h1⟩

def OpenPost (w : World) (e : Ending) (w' : World) : Prop := e = .returned (.pointer (some ⟨w.heap.size, 0, none⟩)) ∧ Rd w' w.heap.size 0 ∧ Below w.heap.size w w' ∧ w'.heap.size = w.heap.size + 1

theorem open_post (w : World) (a : Option Addr) (len cap : Nat) (hl : len ≤ 2000) (h : IsBytes w a len) : OpenPost w (.returned (.pointer (some ⟨w.heap.size, 0, none⟩))) (w.alloc (.cells #[.slice a len cap, .int .i64 0] 57)) := by
  refine ⟨rfl, ⟨a, len, cap, 0, by simp, by simp, by simp, Nat.le_refl _, hl, ?_⟩, (Below.refl _ _).alloc (Nat.le_refl _) _, by simp⟩
  rcases h with h | ⟨b, off, e, hlt, hc⟩
  · exact .inl h
  · refine .inr ⟨b, off, e, hlt, fun i hi => ?_⟩
    obtain ⟨z, hz, h0, h1⟩ := hc i hi
    exact ⟨z, by rw [((Below.refl w.heap.size w).alloc (Nat.le_refl _) _).cell (p := ⟨b, off + i, none⟩) hlt]; exact hz, h0, h1⟩

theorem l6Open_any (a : Option Addr) (len cap : Nat) (w : World) (hc : len ≤ cap) (hm : cap ≤ maxLen) (h : IsBytes w a len) :
    Calls Tryd.prog 26 #[.slice a len cap] w (OpenPost w) := by
  unfold maxLen at hm
  by_cases hl : len ≤ 2000
  · have hp := Lib.hid (open_post w a len cap hl h)
    go_enter Tryd.func26, Tryd.ntmps26
    go_wp2
    go_ret
    exact hp.out
  · rcases h with h | ⟨b, off, rfl, hlt, hi⟩
    · omega
    · have hp := Lib.hid (open_post w (some ⟨b, off, none⟩) 2000 cap (Nat.le_refl _) (.inr ⟨b, off, rfl, hlt, fun i hj => hi i (by omega)⟩))
      clear hi
      go_enter Tryd.func26, Tryd.ntmps26
      go_wp2
      go_ret
      exact hp.out
end Go.Proofs.YtjiffbddgbigcaaDoor
