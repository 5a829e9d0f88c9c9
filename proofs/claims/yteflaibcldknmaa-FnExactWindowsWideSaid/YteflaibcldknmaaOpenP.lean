/- Slices of pairs that came in. -/
import Derived.Test.YteflaibcldknmaaPairs
import Derived.Deep.SlicePairs
import Derived.ChangeSame
import Derived.OpenShut
import Derived.Lib.SmallJoins
namespace Go.Proofs.Yteflaibcldknmaa
open Go.RowKit Go.ChangeShapes Go.WideShapes Go.Deep
set_option linter.unusedVariables false

def IsPairs (w : World) (a : Option Addr) (len cap : Nat) (zs : List (Int × Int)) : Prop := Prs w a len zs ∧ len ≤ cap ∧ cap ≤ maxLen

theorem open_pairs {H : Type} {enc : TypeId × Value → H} {P : Program} {w : World} {base : Nat} {spare : Nat → Bool} {held : Bool} {t e ti : TypeId} {f0 f1 : Field} {a : Option Addr} {len cap : Nat} {d : DataW H} {p : List MemPlace}
    (ht : P.underlying t = some (.slice e)) (he : P.underlying e = some (.struct #[f0, f1])) (hi : P.underlying ti = some (.int .i64))
    (hs : P.cellsOf e = 2 ∧ f0.offset = 0 ∧ f1.offset = 1 ∧ P.cellsOf f0.type = 1 ∧ P.cellsOf f1.type = 1) (hf : f0.type = ti ∧ f1.type = ti)
    (h : DataW.Trod enc P w base spare held t (.slice a len cap) d p) : ∃ zs, IsPairs w a len cap zs := by
  obtain ⟨fuel, hf'⟩ := h
  rcases open_slice_pairs ht he hs.1 hs.2.1 hs.2.2.1 hs.2.2.2.1 hs.2.2.2.2 hf' with ⟨hcs, _⟩ | ⟨ad, l, c, m, n, V0, V1, D0, D1, P0, P1, hcs, _, hl, hm, hmm, _, hc⟩
  · simp [Value.cells] at hcs
    obtain ⟨rfl, rfl, rfl⟩ := hcs
    exact ⟨[], ⟨⟨rfl, .inl rfl⟩, Nat.le_refl _, by unfold maxLen; omega⟩⟩
  · simp [Value.cells] at hcs
    obtain ⟨rfl, rfl, rfl⟩ := hcs
    have hlm : len ≤ m := by rw [hmm]; split <;> omega
    have iv : ∀ i, i < m → ∃ x y : Int, V0 i = .int .i64 x ∧ V1 i = .int .i64 y := by
      intro i him
      obtain ⟨_, _, h0, h1⟩ := hc i him
      rw [hf.1] at h0
      rw [hf.2] at h1
      obtain ⟨x, ex, _⟩ := DataW.trod_int hi h0
      obtain ⟨y, ey, _⟩ := DataW.trod_int hi h1
      simp at ex ey
      exact ⟨x, y, ex, ey⟩
    let toI : Value → Int := fun v => match v with | .int _ n => n | _ => 0
    refine ⟨(List.range len).map fun i => (toI (V0 i), toI (V1 i)), ⟨⟨by simp, ?_⟩, hl, hm⟩⟩
    by_cases h0 : len = 0
    · exact .inl h0
    · obtain ⟨b, off, spot⟩ := ad
      have q := (hc 0 (by omega)).1
      have hspot : spot = none := by simpa [Addr.add] using World.cell?_spot q
      subst hspot
      refine .inr ⟨b, off, rfl, ?_, ?_⟩
      · have := World.block_lt_of_cell? w _ q
        simpa [Addr.add] using this
      · intro i hi'
        simp at hi'
        obtain ⟨q0, q1, _⟩ := hc i (by omega)
        obtain ⟨x, y, ex, ey⟩ := iv i (by omega)
        have e : pr ((List.range len).map fun i => (toI (V0 i), toI (V1 i))) i = (x, y) := by
          unfold pr; simp [hi', ex, ey, toI]
        rw [e]
        rw [ex] at q0
        rw [ey] at q1
        have a1 : ∀ k, (⟨b, off, none⟩ : Addr).add k = ⟨b, off + k, none⟩ := fun k => by unfold Addr.add; split <;> simp_all
        rw [a1] at q0 q1
        exact ⟨q0, by rw [Nat.add_assoc]; exact q1⟩
end Go.Proofs.Yteflaibcldknmaa
