/- Contracts: FracMul, FracAdd, FracLess, l2Two. -/
import Derived.Test.YtkblbppemjnpdaaDelta
namespace Go.Proofs.Ytkblbppemjnpdaa
open Go.RowKit
set_option linter.unusedVariables false

def fmOk (a b c d : Int) : Bool := fvB a b && fvB c d && foOk (a * c) (b * d)
def fmN (a b c d : Int) : Int := if (fvB a b && fvB c d) = true then foN (a * c) (b * d) else 0
def fmD (a b c d : Int) : Int := if (fvB a b && fvB c d) = true then foD (a * c) (b * d) else 0
theorem fmN_yes {a b c d : Int} (h1 : fvB a b = true) (h2 : fvB c d = true) : fmN a b c d = foN (a * c) (b * d) ∧ fmD a b c d = foD (a * c) (b * d) ∧ fmOk a b c d = foOk (a * c) (b * d) := by
  unfold fmN fmD fmOk; rw [h1, h2]; simp
theorem fmN_no1 {a b c d : Int} (h1 : fvB a b = false) : fmN a b c d = 0 ∧ fmD a b c d = 0 ∧ fmOk a b c d = false := by
  unfold fmN fmD fmOk; rw [h1]; simp
theorem fmN_no2 {a b c d : Int} (h1 : fvB c d = false) : fmN a b c d = 0 ∧ fmD a b c d = 0 ∧ fmOk a b c d = false := by
  unfold fmN fmD fmOk; rw [h1]; simp
def faOk (a b c d : Int) : Bool := fvB a b && fvB c d && foOk (a * d + c * b) (b * d)
def faN (a b c d : Int) : Int := if (fvB a b && fvB c d) = true then foN (a * d + c * b) (b * d) else 0
def faD (a b c d : Int) : Int := if (fvB a b && fvB c d) = true then foD (a * d + c * b) (b * d) else 0
theorem faN_yes {a b c d : Int} (h1 : fvB a b = true) (h2 : fvB c d = true) : faN a b c d = foN (a * d + c * b) (b * d) ∧ faD a b c d = foD (a * d + c * b) (b * d) ∧ faOk a b c d = foOk (a * d + c * b) (b * d) := by
  unfold faN faD faOk; rw [h1, h2]; simp
theorem faN_no1 {a b c d : Int} (h1 : fvB a b = false) : faN a b c d = 0 ∧ faD a b c d = 0 ∧ faOk a b c d = false := by
  unfold faN faD faOk; rw [h1]; simp
theorem faN_no2 {a b c d : Int} (h1 : fvB c d = false) : faN a b c d = 0 ∧ faD a b c d = 0 ∧ faOk a b c d = false := by
  unfold faN faD faOk; rw [h1]; simp
theorem fracMul_any (a b c d : Int) (w : World) : Calls Try.prog 52 #[.agg #[.int .i64 a, .int .i64 b], .agg #[.int .i64 c, .int .i64 d]] w (FrPost w (fmN a b c d) (fmD a b c d) (fmOk a b c d)) := by
  go_enter Try.func52, Try.ntmps52
  go_wp2_with fail
  refine (fracValid_any _ _ _).mono ?_
  rintro e w1 ⟨rfl, b1⟩
  obtain ⟨hc1, hf1⟩ := blw b1
  have C1 := Below.step3 (Below.refl w.heap.size w) b1
  by_cases hv : fvB a b = true
  · have V1 := Lib.hid hv
    rw [hv]; clear hv
    go_wp2_with fail
    refine (fracValid_any _ _ _).mono ?_
    rintro e w2 ⟨rfl, b2⟩
    have D2 := Below.step0 b1 b2
    have C2 := Below.step0 C1 b2
    obtain ⟨hc2, hf2⟩ := blw D2
    clear hc1 hf1 b1 b2 C1
    by_cases hv : fvB c d = true
    · have V2 := Lib.hid hv
      rw [hv]; clear hv
      have E := Lib.hid (fmN_yes V1.out V2.out)
      obtain ⟨x1, x2, x3, x4, x5⟩ := fv_bd V1.out
      obtain ⟨y1, y2, y3, y4, y5⟩ := fv_bd V2.out
      clear x5 y5
      obtain ⟨m0, m1⟩ := mul_bd a c 1000000000 1000000000 (by omega) (by omega) (by omega) (by omega) (by omega)
      obtain ⟨m2, m3⟩ := mul_bd b d 1000000000 1000000000 (by omega) (by omega) (by omega) (by omega) (by omega)
      go_wp2_with fail
      refine (fracOf_any _ _ _).mono ?_
      rintro e w9 ⟨rfl, b9⟩
      have D9 := Below.step0 D2 b9
      have C9 := Lib.hid (Below.step0 C2 b9)
      obtain ⟨hc9, hf9⟩ := blw D9
      clear hc2 hf2 b9 C2 D2 D9
      go_wp2_with fail
      refine bodyPost_ret (v := .tuple #[.agg #[.int .i64 (foN (a * c) (b * d)), .int .i64 (foD (a * c) (b * d))], .bool (foOk (a * c) (b * d))]) (by simp [results, Try.results52, go_sem, hc9]) rfl ⟨by rw [E.out.1, E.out.2.1, E.out.2.2], ?_⟩
      exact (C9.out.setCell (by simp <;> omega) _).setCell (by simp <;> omega) _
    · have hv' : fvB c d = false := by simpa using hv
      rw [hv']; clear hv D2
      have E := Lib.hid (fmN_no2 (a := a) (b := b) hv')
      have G := Lib.hid C2
      clear C2
      go_wp2_with fail
      refine bodyPost_ret (v := .tuple #[.agg #[.int .i64 0, .int .i64 0], .bool false]) (by simp [results, Try.results52, go_sem, hc2]) rfl ⟨by rw [E.out.1, E.out.2.1, E.out.2.2], ?_⟩
      exact (G.out.setCell (by simp <;> omega) _).setCell (by simp <;> omega) _
  · have hv' : fvB a b = false := by simpa using hv
    rw [hv']; clear hv b1
    have E := Lib.hid (fmN_no1 (c := c) (d := d) hv')
    have G := Lib.hid C1
    clear C1
    go_wp2_with fail
    refine bodyPost_ret (v := .tuple #[.agg #[.int .i64 0, .int .i64 0], .bool false]) (by simp [results, Try.results52, go_sem, hc1]) rfl ⟨by rw [E.out.1, E.out.2.1, E.out.2.2], ?_⟩
    exact (G.out.setCell (by simp <;> omega) _).setCell (by simp <;> omega) _

theorem fracAdd_any (a b c d : Int) (w : World) : Calls Try.prog 39 #[.agg #[.int .i64 a, .int .i64 b], .agg #[.int .i64 c, .int .i64 d]] w (FrPost w (faN a b c d) (faD a b c d) (faOk a b c d)) := by
  go_enter Try.func39, Try.ntmps39
  go_wp2_with fail
  refine (fracValid_any _ _ _).mono ?_
  rintro e w1 ⟨rfl, b1⟩
  obtain ⟨hc1, hf1⟩ := blw b1
  have C1 := Below.step3 (Below.refl w.heap.size w) b1
  by_cases hv : fvB a b = true
  · have V1 := Lib.hid hv
    rw [hv]; clear hv
    go_wp2_with fail
    refine (fracValid_any _ _ _).mono ?_
    rintro e w2 ⟨rfl, b2⟩
    have D2 := Below.step0 b1 b2
    have C2 := Below.step0 C1 b2
    obtain ⟨hc2, hf2⟩ := blw D2
    clear hc1 hf1 b1 b2 C1
    by_cases hv : fvB c d = true
    · have V2 := Lib.hid hv
      rw [hv]; clear hv
      have E := Lib.hid (faN_yes V1.out V2.out)
      obtain ⟨x1, x2, x3, x4, x5⟩ := fv_bd V1.out
      obtain ⟨y1, y2, y3, y4, y5⟩ := fv_bd V2.out
      clear x5 y5
      obtain ⟨m0, m1⟩ := mul_bd a d 1000000000 1000000000 (by omega) (by omega) (by omega) (by omega) (by omega)
      obtain ⟨m2, m3⟩ := mul_bd c b 1000000000 1000000000 (by omega) (by omega) (by omega) (by omega) (by omega)
      obtain ⟨m4, m5⟩ := mul_bd b d 1000000000 1000000000 (by omega) (by omega) (by omega) (by omega) (by omega)
      go_wp2_with fail
      refine (fracOf_any _ _ _).mono ?_
      rintro e w9 ⟨rfl, b9⟩
      have D9 := Below.step0 D2 b9
      have C9 := Lib.hid (Below.step0 C2 b9)
      obtain ⟨hc9, hf9⟩ := blw D9
      clear hc2 hf2 b9 C2 D2 D9
      go_wp2_with fail
      refine bodyPost_ret (v := .tuple #[.agg #[.int .i64 (foN (a * d + c * b) (b * d)), .int .i64 (foD (a * d + c * b) (b * d))], .bool (foOk (a * d + c * b) (b * d))]) (by simp [results, Try.results39, go_sem, hc9]) rfl ⟨by rw [E.out.1, E.out.2.1, E.out.2.2], ?_⟩
      exact (C9.out.setCell (by simp <;> omega) _).setCell (by simp <;> omega) _
    · have hv' : fvB c d = false := by simpa using hv
      rw [hv']; clear hv D2
      have E := Lib.hid (faN_no2 (a := a) (b := b) hv')
      have G := Lib.hid C2
      clear C2
      go_wp2_with fail
      refine bodyPost_ret (v := .tuple #[.agg #[.int .i64 0, .int .i64 0], .bool false]) (by simp [results, Try.results39, go_sem, hc2]) rfl ⟨by rw [E.out.1, E.out.2.1, E.out.2.2], ?_⟩
      exact (G.out.setCell (by simp <;> omega) _).setCell (by simp <;> omega) _
  · have hv' : fvB a b = false := by simpa using hv
    rw [hv']; clear hv b1
    have E := Lib.hid (faN_no1 (c := c) (d := d) hv')
    have G := Lib.hid C1
    clear C1
    go_wp2_with fail
    refine bodyPost_ret (v := .tuple #[.agg #[.int .i64 0, .int .i64 0], .bool false]) (by simp [results, Try.results39, go_sem, hc1]) rfl ⟨by rw [E.out.1, E.out.2.1, E.out.2.2], ?_⟩
    exact (G.out.setCell (by simp <;> omega) _).setCell (by simp <;> omega) _

theorem l2Two_any (a b c d : Int) (w : World) : Calls Try.prog 50 #[.agg #[.int .i64 a, .int .i64 b], .agg #[.int .i64 c, .int .i64 d]] w fun e w' => e = .returned (.bool (fvB a b && fvB c d)) ∧ Below w.heap.size w w' := by
  go_enter Try.func50, Try.ntmps50
  go_wp2_with fail
  refine (specFracValid_any _ _ _).mono ?_
  rintro e w1 ⟨rfl, b1⟩
  obtain ⟨hc1, hf1⟩ := blw b1
  have C1 := Below.step2 (Below.refl w.heap.size w) b1
  by_cases hv : fvB a b = true
  · have V1 := Lib.hid hv
    rw [hv]; clear hv
    go_wp2_with fail
    refine (specFracValid_any _ _ _).mono ?_
    rintro e w2 ⟨rfl, b2⟩
    have C2 := Lib.hid (Below.step0 C1 b2)
    clear hc1 hf1 b1 b2 C1
    go_wp2_with fail
    go_ret
    exact ⟨by rw [V1.out]; simp, C2.out⟩
  · have hv' : fvB a b = false := by simpa using hv
    have G := Lib.hid C1
    have V1 := Lib.hid hv'
    rw [hv']; clear hv hv' b1 C1
    go_wp2_with fail
    go_ret
    exact ⟨by rw [V1.out]; simp, G.out⟩

theorem specFracMul_any (a b c d : Int) (w : World) : Calls Try.prog 51 #[.agg #[.int .i64 a, .int .i64 b], .agg #[.int .i64 c, .int .i64 d]] w (FrPost w (fmN a b c d) (fmD a b c d) (fmOk a b c d)) := by
  go_enter Try.func51, Try.ntmps51
  go_wp2_with fail
  refine (l2Two_any _ _ _ _ _).mono ?_
  rintro e w1 ⟨rfl, D1⟩
  obtain ⟨hc1, hf1⟩ := blw D1
  have C1 := Below.step3 (Below.refl w.heap.size w) D1
  by_cases hv : fvB a b = true
  · have V1 := Lib.hid hv
    by_cases hv2 : fvB c d = true
    · have V2 := Lib.hid hv2
      rw [hv, hv2]; clear hv hv2
      have E := Lib.hid (fmN_yes V1.out V2.out)
      obtain ⟨x1, x2, x3, x4, x5⟩ := fv_bd V1.out
      obtain ⟨y1, y2, y3, y4, y5⟩ := fv_bd V2.out
      clear x5 y5
      obtain ⟨m0, m1⟩ := mul_bd a c 1000000000 1000000000 (by omega) (by omega) (by omega) (by omega) (by omega)
      obtain ⟨m2, m3⟩ := mul_bd b d 1000000000 1000000000 (by omega) (by omega) (by omega) (by omega) (by omega)
      go_wp2_with fail
      refine (specFracOf_any _ _ _).mono ?_
      rintro e w9 ⟨rfl, b9⟩
      have D9 := Below.step0 D1 b9
      have C9 := Lib.hid (Below.step0 C1 b9)
      obtain ⟨hc9, hf9⟩ := blw D9
      clear hc1 hf1 b9 C1 D1 D9
      go_wp2_with fail
      refine bodyPost_ret (v := .tuple #[.agg #[.int .i64 (foN (a * c) (b * d)), .int .i64 (foD (a * c) (b * d))], .bool (foOk (a * c) (b * d))]) (by simp [results, Try.results51, go_sem, hc9]) rfl ⟨by rw [E.out.1, E.out.2.1, E.out.2.2], ?_⟩
      exact (C9.out.setCell (by simp <;> omega) _).setCell (by simp <;> omega) _
    · have hv2' : fvB c d = false := by simpa using hv2
      rw [hv, hv2']; clear hv hv2 D1
      have E := Lib.hid (fmN_no2 (a := a) (b := b) hv2')
      have G := Lib.hid C1
      clear C1
      go_wp2_with fail
      refine bodyPost_ret (v := .tuple #[.agg #[.int .i64 0, .int .i64 0], .bool false]) (by simp [results, Try.results51, go_sem, hc1]) rfl ⟨by rw [E.out.1, E.out.2.1, E.out.2.2], ?_⟩
      exact (G.out.setCell (by simp <;> omega) _).setCell (by simp <;> omega) _
  · have hv' : fvB a b = false := by simpa using hv
    rw [hv']; clear hv D1
    have E := Lib.hid (fmN_no1 (c := c) (d := d) hv')
    have G := Lib.hid C1
    clear C1
    go_wp2_with fail
    refine bodyPost_ret (v := .tuple #[.agg #[.int .i64 0, .int .i64 0], .bool false]) (by simp [results, Try.results51, go_sem, hc1]) rfl ⟨by rw [E.out.1, E.out.2.1, E.out.2.2], ?_⟩
    exact (G.out.setCell (by simp <;> omega) _).setCell (by simp <;> omega) _

def flB (a b c d : Int) : Bool := fvB a b && fvB c d && decide (a * d < c * b)

theorem fracLess_any (a b c d : Int) (w : World) : Calls Try.prog 38 #[.agg #[.int .i64 a, .int .i64 b], .agg #[.int .i64 c, .int .i64 d]] w fun e w' => e = .returned (.bool (flB a b c d)) ∧ Below w.heap.size w w' := by
  unfold flB
  go_enter Try.func38, Try.ntmps38
  go_wp2_with fail
  refine (fracValid_any _ _ _).mono ?_
  rintro e w1 ⟨rfl, b1⟩
  obtain ⟨hc1, hf1⟩ := blw b1
  have C1 := Below.step2 (Below.refl w.heap.size w) b1
  by_cases hv : fvB a b = true
  · have V1 := Lib.hid hv
    rw [hv]; clear hv
    go_wp2_with fail
    refine (fracValid_any _ _ _).mono ?_
    rintro e w2 ⟨rfl, b2⟩
    have D2 := Below.step0 b1 b2
    have C2 := Lib.hid (Below.step0 C1 b2)
    obtain ⟨hc2, hf2⟩ := blw D2
    clear hc1 hf1 b1 b2 C1 D2
    by_cases hv : fvB c d = true
    · have V2 := Lib.hid hv
      rw [hv]; clear hv
      obtain ⟨x1, x2, x3, x4, x5⟩ := fv_bd V1.out
      obtain ⟨y1, y2, y3, y4, y5⟩ := fv_bd V2.out
      clear x5 y5
      obtain ⟨m0, m1⟩ := mul_bd a d 1000000000 1000000000 (by omega) (by omega) (by omega) (by omega) (by omega)
      obtain ⟨m2, m3⟩ := mul_bd c b 1000000000 1000000000 (by omega) (by omega) (by omega) (by omega) (by omega)
      go_wp2_with fail
      go_ret
      exact ⟨by rw [V1.out, V2.out]; simp, C2.out⟩
    · have hv' : fvB c d = false := by simpa using hv
      have V2 := Lib.hid hv'
      rw [hv']; clear hv hv'
      go_wp2_with fail
      go_ret
      exact ⟨by rw [V2.out]; simp, C2.out⟩
  · have hv' : fvB a b = false := by simpa using hv
    have G := Lib.hid C1
    have V1 := Lib.hid hv'
    rw [hv']; clear hv hv' b1 C1
    go_wp2_with fail
    go_ret
    exact ⟨by rw [V1.out]; simp, G.out⟩

theorem specFracLess_any (a b c d : Int) (w : World) : Calls Try.prog 53 #[.agg #[.int .i64 a, .int .i64 b], .agg #[.int .i64 c, .int .i64 d]] w fun e w' => e = .returned (.bool (flB a b c d)) ∧ Below w.heap.size w w' := by
  unfold flB
  go_enter Try.func53, Try.ntmps53
  go_wp2_with fail
  refine (l2Two_any _ _ _ _ _).mono ?_
  rintro e w1 ⟨rfl, b1⟩
  obtain ⟨hc1, hf1⟩ := blw b1
  have C1 := Lib.hid (Below.step2 (Below.refl w.heap.size w) b1)
  clear b1
  by_cases hv : (fvB a b && fvB c d) = true
  · obtain ⟨V1, V2⟩ : fvB a b = true ∧ fvB c d = true := by simpa using hv
    have V := Lib.hid hv
    rw [hv]; clear hv
    obtain ⟨x1, x2, x3, x4, x5⟩ := fv_bd V1
    obtain ⟨y1, y2, y3, y4, y5⟩ := fv_bd V2
    clear x5 y5 V1 V2
    obtain ⟨m0, m1⟩ := mul_bd a d 1000000000 1000000000 (by omega) (by omega) (by omega) (by omega) (by omega)
    obtain ⟨m2, m3⟩ := mul_bd c b 1000000000 1000000000 (by omega) (by omega) (by omega) (by omega) (by omega)
    go_wp2_with fail
    go_ret
    exact ⟨by rw [V.out]; simp, C1.out⟩
  · have hv' : (fvB a b && fvB c d) = false := by simpa using hv
    have V := Lib.hid hv'
    rw [hv']; clear hv hv'
    go_wp2_with fail
    go_ret
    exact ⟨by rw [V.out]; simp, C1.out⟩
end Go.Proofs.Ytkblbppemjnpdaa
