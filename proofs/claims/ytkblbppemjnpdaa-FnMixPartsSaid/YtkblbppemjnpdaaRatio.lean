/- Contracts: WaterRatio of both packages, toFrac, eqFrac. -/
import Derived.Test.YtkblbppemjnpdaaFracOfS
import Derived.Test.YtkblbppemjnpdaaStep
import Derived.Test.YtkblbppemjnpdaaWaterB
namespace Go.Proofs.Ytkblbppemjnpdaa
open Go.RowKit
set_option linter.unusedVariables false

def wrOk (a h : Int) : Bool := wvB a h && foOk h a
def wrN (a h : Int) : Int := if wvB a h = true then foN h a else 0
def wrD (a h : Int) : Int := if wvB a h = true then foD h a else 0

theorem wr_no {a h : Int} (hv : wvB a h = false) : wrN a h = 0 ∧ wrD a h = 0 ∧ wrOk a h = false := by
  unfold wrN wrD wrOk; rw [hv]; simp
theorem wr_yes {a h : Int} (hv : wvB a h = true) : wrN a h = foN h a ∧ wrD a h = foD h a ∧ wrOk a h = foOk h a := by
  unfold wrN wrD wrOk; rw [hv]; simp

def FrPost (w : World) (n d : Int) (ok : Bool) (e : Ending) (w' : World) : Prop := e = .returned (.tuple #[.agg #[.int .i64 n, .int .i64 d], .bool ok]) ∧ Below w.heap.size w w'

theorem waterRatio_any (a h : Int) (w : World) : Calls Try.prog 29 #[.agg #[.int .i64 a, .int .i64 h]] w (FrPost w (wrN a h) (wrD a h) (wrOk a h)) := by
  go_enter Try.func29, Try.ntmps29
  go_wp2_with fail
  refine (waterValid_any _ _ _).mono ?_
  rintro e w1 ⟨rfl, b1⟩
  obtain ⟨hc1, hf1⟩ := blw b1
  have C1 := Below.step2 (Below.refl w.heap.size w) b1
  by_cases hv : wvB a h = true
  · have E := Lib.hid (wr_yes hv)
    rw [hv]; clear hv
    go_wp2_with fail
    refine (fracOf_any _ _ _).mono ?_
    rintro e w2 ⟨rfl, b2⟩
    have D2 := Below.step0 b1 b2
    have C2 := Lib.hid (Below.step0 C1 b2)
    obtain ⟨hc2, hf2⟩ := blw D2
    clear hc1 hf1 b1 b2 C1 D2
    go_wp2_with fail
    refine bodyPost_ret (v := .tuple #[.agg #[.int .i64 (foN h a), .int .i64 (foD h a)], .bool (foOk h a)]) (by simp [results, Try.results29, go_sem, hc2]) rfl ⟨by rw [E.out.1, E.out.2.1, E.out.2.2], ?_⟩
    exact (C2.out.setCell (by simp) _).setCell (by simp) _
  · have hv' : wvB a h = false := by simpa using hv
    have E := Lib.hid (wr_no hv')
    have C2 := Lib.hid C1
    rw [hv']; clear hv hv' b1 C1
    go_wp2_with fail
    refine bodyPost_ret (v := .tuple #[.agg #[.int .i64 0, .int .i64 0], .bool false]) (by simp [results, Try.results29, go_sem, hc1]) rfl ⟨by rw [E.out.1, E.out.2.1, E.out.2.2], ?_⟩
    exact (C2.out.setCell (by simp) _).setCell (by simp) _
theorem specWaterRatio_any (a h : Int) (w : World) : Calls Try.prog 28 #[.agg #[.int .i64 a, .int .i64 h]] w (FrPost w (wrN a h) (wrD a h) (wrOk a h)) := by
  go_enter Try.func28, Try.ntmps28
  go_wp2_with fail
  refine (specWaterValid_any _ _ _).mono ?_
  rintro e w1 ⟨rfl, b1⟩
  obtain ⟨hc1, hf1⟩ := blw b1
  have C1 := Below.step2 (Below.refl w.heap.size w) b1
  by_cases hv : wvB a h = true
  · have E := Lib.hid (wr_yes hv)
    rw [hv]; clear hv
    go_wp2_with fail
    refine (specFracOf_any _ _ _).mono ?_
    rintro e w2 ⟨rfl, b2⟩
    have D2 := Below.step0 b1 b2
    have C2 := Lib.hid (Below.step0 C1 b2)
    obtain ⟨hc2, hf2⟩ := blw D2
    clear hc1 hf1 b1 b2 C1 D2
    go_wp2_with fail
    refine bodyPost_ret (v := .tuple #[.agg #[.int .i64 (foN h a), .int .i64 (foD h a)], .bool (foOk h a)]) (by simp [results, Try.results28, go_sem, hc2]) rfl ⟨by rw [E.out.1, E.out.2.1, E.out.2.2], ?_⟩
    exact (C2.out.setCell (by simp) _).setCell (by simp) _
  · have hv' : wvB a h = false := by simpa using hv
    have E := Lib.hid (wr_no hv')
    have C2 := Lib.hid C1
    rw [hv']; clear hv hv' b1 C1
    go_wp2_with fail
    refine bodyPost_ret (v := .tuple #[.agg #[.int .i64 0, .int .i64 0], .bool false]) (by simp [results, Try.results28, go_sem, hc1]) rfl ⟨by rw [E.out.1, E.out.2.1, E.out.2.2], ?_⟩
    exact (C2.out.setCell (by simp) _).setCell (by simp) _

def eq2B (a b c d : Int) : Bool := decide (a = c ∧ b = d)
theorem eq2B_self (a b : Int) : eq2B a b a b = true := by unfold eq2B; simp

theorem eqFrac_any (a b c d : Int) (w : World) : Calls Try.prog 30 #[.agg #[.int .i64 a, .int .i64 b], .agg #[.int .i64 c, .int .i64 d]] w fun e w' => e = .returned (.bool (eq2B a b c d)) ∧ Below w.heap.size w w' := by
  by_cases h1 : a = c
  · subst h1
    have t1 : (a != a) = false := by simp
    by_cases h2 : b = d
    · subst h2
      have t2 : (b != b) = false := by simp
      have e : eq2B a b a b = true := by unfold eq2B; simp
      rw [e]; clear e
      go_enter Try.func30, Try.ntmps30
      go_wp2_with fail
      go_ret
      exact ⟨rfl, ((Below.refl _ _).alloc (Nat.le_refl _) _).alloc (by simp) _⟩
    · have t2 : (b != d) = true := by simpa using h2
      have e : eq2B a b a d = false := by unfold eq2B; simp [h2]
      rw [e]; clear e h2
      go_enter Try.func30, Try.ntmps30
      go_wp2_with fail
      go_ret
      exact ⟨rfl, ((Below.refl _ _).alloc (Nat.le_refl _) _).alloc (by simp) _⟩
  · have t1 : (a != c) = true := by simpa using h1
    have e : eq2B a b c d = false := by unfold eq2B; simp [h1]
    rw [e]; clear e h1
    go_enter Try.func30, Try.ntmps30
    go_wp2_with fail
    go_ret
    exact ⟨rfl, ((Below.refl _ _).alloc (Nat.le_refl _) _).alloc (by simp) _⟩

theorem toFrac_any (a h : Int) (w : World) :
    Calls Try.prog 32 #[.agg #[.int .i64 a, .int .i64 h]] w fun e w' => e = .returned (.agg #[.int .i64 a, .int .i64 h]) ∧ Below w.heap.size w w' := by
  go_enter Try.func32, Try.ntmps32
  go_wp2_with fail
  refine bodyPost_ret (v := .agg #[.int .i64 a, .int .i64 h]) (by simp [results, Try.results32, go_sem]) rfl ⟨rfl, ?_⟩
  exact (((Below.refl _ _).alloc (Nat.le_refl _) _).alloc (by simp) _).alloc (by simp; omega) _
end Go.Proofs.Ytkblbppemjnpdaa
