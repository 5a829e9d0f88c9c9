/- Contracts: WaterDelta of both packages. -/
import Derived.Test.YtkblbppemjnpdaaRatio
import Derived.Deep.RegionHeld3
namespace Go.Proofs.Ytkblbppemjnpdaa
open Go.RowKit
set_option linter.unusedVariables false

def wdOk (a h n d : Int) : Bool := wvB a h && fvB n d && decide (1 ≤ n) && foOk (1000 * (h * d - a * n)) (a * n)
def wdN (a h n d : Int) : Int := if wdOk a h n d = true then redN (1000 * (h * d - a * n)) (a * n) else 0
def wdD (a h n d : Int) : Int := if wdOk a h n d = true then redD (1000 * (h * d - a * n)) (a * n) else 0

theorem wd_yes {a h n d : Int} (h1 : wvB a h = true) (h2 : fvB n d = true) (h3 : 1 ≤ n) : wdN a h n d = foN (1000 * (h * d - a * n)) (a * n) ∧ wdD a h n d = foD (1000 * (h * d - a * n)) (a * n) ∧ wdOk a h n d = foOk (1000 * (h * d - a * n)) (a * n) := by
  have e : wdOk a h n d = foOk (1000 * (h * d - a * n)) (a * n) := by unfold wdOk; rw [h1, h2]; simp [h3]
  unfold wdN wdD foN foD; rw [e]; exact ⟨rfl, rfl, rfl⟩
theorem wd_no {a h n d : Int} (hv : wdOk a h n d = false) : wdN a h n d = 0 ∧ wdD a h n d = 0 ∧ wdOk a h n d = false := by
  unfold wdN wdD; rw [hv]; simp
theorem wd_np {a h n d : Int} (hv : ¬ 1 ≤ n) : wdOk a h n d = false := by
  have : decide (1 ≤ n) = false := by simpa using hv
  unfold wdOk; rw [this]; simp

theorem wv_bd {a h : Int} (hv : wvB a h = true) : 1 ≤ a ∧ a ≤ 1000 ∧ 0 ≤ h ∧ h ≤ a := by unfold wvB at hv; simpa using hv
theorem fv_bd {n d : Int} (hv : fvB n d = true) : 1 ≤ d ∧ d ≤ 1000000000 ∧ -1000000000 ≤ n ∧ n ≤ 1000000000 ∧ Int.gcd n d = 1 := by unfold fvB at hv; simpa using hv

theorem mul_bd (a b A B : Int) (h1 : -A ≤ a) (h2 : a ≤ A) (h3 : -B ≤ b) (h4 : b ≤ B) (hA : 0 ≤ A) : -(A * B) ≤ a * b ∧ a * b ≤ A * B := by
  have k : (a * b).natAbs ≤ A.natAbs * B.natAbs := by rw [Int.natAbs_mul]; exact Nat.mul_le_mul (by omega) (by omega)
  rw [← Int.natAbs_mul] at k
  have : 0 ≤ A * B := Int.mul_nonneg hA (by omega)
  omega

theorem wr_facts {a h : Int} (hv : wvB a h = true) : wrOk a h = true ∧ ∃ g : Int, 1 ≤ g ∧ h = wrN a h * g ∧ a = wrD a h * g ∧ 0 ≤ wrN a h ∧ wrN a h ≤ wrD a h ∧ 1 ≤ wrD a h ∧ wrD a h ≤ 1000 ∧ Int.gcd (wrN a h) (wrD a h) = 1 ∧ wrN a h = redN h a ∧ wrD a h = redD h a := by
  obtain ⟨h1, h2, h3, h4⟩ := wv_bd hv
  have ha : a ≠ 0 := by omega
  obtain ⟨g, x, y, hg, hg0, ex, ey, ex2, ey2, hc, hy⟩ := red_parts h a ha
  have hn : ¬ a < 0 := by omega
  have e1 : redN h a = x := by unfold redN; rw [if_neg hn, hg, ex2]
  have e2 : redD h a = y := by unfold redD; rw [if_neg hn, hg, ey2]
  have hy1 : 1 ≤ y := by
    rcases Int.lt_or_lt_of_ne hy with k | k
    · have := Int.mul_neg_of_neg_of_pos k hg0; omega
    · omega
  have hx0 : 0 ≤ x := by
    rcases Int.lt_or_le x 0 with k | k
    · have := Int.mul_neg_of_neg_of_pos k hg0; omega
    · exact k
  have hxy : x ≤ y := by
    rcases Int.lt_or_le y x with k | k
    · have := Int.mul_lt_mul_of_pos_right k hg0; omega
    · exact k
  have hya : y ≤ a := by
    rw [ey]; have := Int.mul_le_mul_of_nonneg_left (show 1 ≤ g by omega) (show 0 ≤ y by omega); omega
  have hb : bigB h a = true := by unfold bigB; simp; omega
  have hf : fvB (redN h a) (redD h a) = true := by rw [e1, e2]; unfold fvB; simp; exact ⟨by omega, by omega, by omega, by omega, hc⟩
  have hok : foOk h a = true := by unfold foOk; rw [hb, hf]; rfl
  obtain ⟨w1, w2, w3⟩ := wr_yes hv
  have n1 : wrN a h = x := by rw [w1]; unfold foN; rw [if_pos hok, e1]
  have n2 : wrD a h = y := by rw [w2]; unfold foD; rw [if_pos hok, e2]
  refine ⟨by rw [w3, hok], g, by omega, ?_⟩
  rw [n1, n2]
  exact ⟨ex, ey, hx0, hxy, hy1, by omega, hc, e1.symm, e2.symm⟩

/-- The reference's numbers are the program's over a common factor. -/
theorem wd_spec {a h n d : Int} (hv : wvB a h = true) (hf : fvB n d = true) (hn : 1 ≤ n) :
    foOk (1000 * (wrN a h * d - n * wrD a h)) (wrD a h * n) = wdOk a h n d ∧ foN (1000 * (wrN a h * d - n * wrD a h)) (wrD a h * n) = wdN a h n d ∧ foD (1000 * (wrN a h * d - n * wrD a h)) (wrD a h * n) = wdD a h n d := by
  obtain ⟨e1, e2, e3⟩ := wd_yes (a := a) (h := h) hv hf hn
  rw [e1, e2, e3]
  obtain ⟨_, g, hg, ex, ey, k1, k2, k3, k4, _⟩ := wr_facts hv
  obtain ⟨y1, y2, y3, y4⟩ := wv_bd hv
  obtain ⟨x1, x2, x3, x4, _⟩ := fv_bd hf
  generalize wrN a h = p at *
  generalize wrD a h = q at *
  obtain ⟨m1, m2⟩ := mul_bd a n 1000 1000000000 (by omega) (by omega) (by omega) (by omega) (by omega)
  obtain ⟨m3, m4⟩ := mul_bd h d 1000 1000000000 (by omega) (by omega) (by omega) (by omega) (by omega)
  obtain ⟨m5, m6⟩ := mul_bd p d 1000 1000000000 (by omega) (by omega) (by omega) (by omega) (by omega)
  obtain ⟨m7, m8⟩ := mul_bd q n 1000 1000000000 (by omega) (by omega) (by omega) (by omega) (by omega)
  have z1 : 0 < a * n := Int.mul_pos (by omega) (by omega)
  have z2 : 0 < q * n := Int.mul_pos (by omega) (by omega)
  have c1 : 1000 * (h * d - a * n) = 1000 * (p * d - n * q) * g := by
    rw [ex, ey, Int.mul_assoc 1000, Int.sub_mul]
    congr 2
    · rw [Int.mul_assoc, Int.mul_comm g d, ← Int.mul_assoc]
    · rw [Int.mul_comm n q, Int.mul_assoc, Int.mul_comm g n, ← Int.mul_assoc]
  have c2 : a * n = q * n * g := by rw [ey, Int.mul_assoc, Int.mul_comm g n, ← Int.mul_assoc]
  rw [Int.mul_comm n q] at *
  have big1 : bigB (1000 * (h * d - a * n)) (a * n) = true := by unfold bigB; simp; omega
  have big2 : bigB (1000 * (p * d - q * n)) (q * n) = true := by unfold bigB; simp; omega
  have hs := fo_scale (a := 1000 * (p * d - q * n)) (b := q * n) (c := g) (by omega) (by omega) (by rw [← c1, ← c2, big1, big2])
  rw [← c1, ← c2] at hs
  exact ⟨hs.1.symm, hs.2.1.symm, hs.2.2.symm⟩

theorem waterDelta_any (a h n d : Int) (w : World) : Calls Try.prog 33 #[.agg #[.int .i64 a, .int .i64 h], .agg #[.int .i64 n, .int .i64 d]] w (FrPost w (wdN a h n d) (wdD a h n d) (wdOk a h n d)) := by
  go_enter Try.func33, Try.ntmps33
  go_wp2_with fail
  refine (waterValid_any _ _ _).mono ?_
  rintro e w1 ⟨rfl, b1⟩
  obtain ⟨hc1, hf1⟩ := blw b1
  have C1 := Below.step3 (Below.refl w.heap.size w) b1
  by_cases hv : wvB a h = true
  · have V := Lib.hid hv
    rw [hv]; clear hv
    go_wp2_with fail
    refine (fracValid_any _ _ _).mono ?_
    rintro e w2 ⟨rfl, b2⟩
    have D2 := Below.step0 b1 b2
    have C2 := Below.step0 C1 b2
    obtain ⟨hc2, hf2⟩ := blw D2
    clear hc1 hf1 b1 b2 C1
    by_cases hv : fvB n d = true
    · have F := Lib.hid hv
      rw [hv]; clear hv
      by_cases hn : n ≤ 0
      · have E := Lib.hid (wd_no (a := a) (h := h) (n := n) (d := d) (wd_np (by omega)))
        have t1 : decide (n ≤ 0) = true := by simpa using hn
        have G := Lib.hid C2
        clear D2 C2
        go_wp2_with fail
        refine bodyPost_ret (v := .tuple #[.agg #[.int .i64 0, .int .i64 0], .bool false]) (by simp [results, Try.results33, go_sem, hc2]) rfl ⟨by rw [E.out.1, E.out.2.1, E.out.2.2], ?_⟩
        exact (G.out.setCell (by simp <;> omega) _).setCell (by simp <;> omega) _
      · have t1 : decide (n ≤ 0) = false := by simpa using hn
        have E := Lib.hid (wd_yes V.out F.out (by omega))
        have W := wv_bd V.out
        have X := fv_bd F.out
        obtain ⟨x1, x2, x3, x4, _⟩ := X
        obtain ⟨y1, y2, y3, y4⟩ := W
        obtain ⟨m1, m2⟩ := mul_bd a n 1000 1000000000 (by omega) (by omega) (by omega) (by omega) (by omega)
        obtain ⟨m3, m4⟩ := mul_bd h d 1000 1000000000 (by omega) (by omega) (by omega) (by omega) (by omega)
        go_wp2_with fail
        refine (fracOf_any _ _ _).mono ?_
        rintro e w3 ⟨rfl, b3⟩
        have D3 := Below.step0 D2 b3
        have C3 := Lib.hid (Below.step0 C2 b3)
        obtain ⟨hc3, hf3⟩ := blw D3
        clear hc2 hf2 b3 C2 D2 D3
        go_wp2_with fail
        refine bodyPost_ret (v := .tuple #[.agg #[.int .i64 (foN (1000 * (h * d - a * n)) (a * n)), .int .i64 (foD (1000 * (h * d - a * n)) (a * n))], .bool (foOk (1000 * (h * d - a * n)) (a * n))]) (by simp [results, Try.results33, go_sem, hc3]) rfl ⟨by rw [E.out.1, E.out.2.1, E.out.2.2], ?_⟩
        exact (C3.out.setCell (by simp <;> omega) _).setCell (by simp <;> omega) _
    · have hv' : fvB n d = false := by simpa using hv
      have E := Lib.hid (wd_no (a := a) (h := h) (n := n) (d := d) (by unfold wdOk; rw [hv']; simp))
      have G := Lib.hid C2
      rw [hv']; clear hv hv' D2 C2
      go_wp2_with fail
      refine bodyPost_ret (v := .tuple #[.agg #[.int .i64 0, .int .i64 0], .bool false]) (by simp [results, Try.results33, go_sem, hc2]) rfl ⟨by rw [E.out.1, E.out.2.1, E.out.2.2], ?_⟩
      exact (G.out.setCell (by simp <;> omega) _).setCell (by simp <;> omega) _
  · have hv' : wvB a h = false := by simpa using hv
    have E := Lib.hid (wd_no (a := a) (h := h) (n := n) (d := d) (by unfold wdOk; rw [hv']; simp))
    have G := Lib.hid C1
    rw [hv']; clear hv hv' b1 C1
    go_wp2_with fail
    refine bodyPost_ret (v := .tuple #[.agg #[.int .i64 0, .int .i64 0], .bool false]) (by simp [results, Try.results33, go_sem, hc1]) rfl ⟨by rw [E.out.1, E.out.2.1, E.out.2.2], ?_⟩
    exact (G.out.setCell (by simp <;> omega) _).setCell (by simp <;> omega) _

theorem specWaterDelta_any (a h n d : Int) (w : World) : Calls Try.prog 31 #[.agg #[.int .i64 a, .int .i64 h], .agg #[.int .i64 n, .int .i64 d]] w (FrPost w (wdN a h n d) (wdD a h n d) (wdOk a h n d)) := by
  go_enter Try.func31, Try.ntmps31
  go_wp2_with fail
  refine (specWaterRatio_any _ _ _).mono ?_
  rintro e w1 ⟨rfl, b1⟩
  obtain ⟨hc1, hf1⟩ := blw b1
  have C1 := Below.step3 (Below.refl w.heap.size w) b1
  obtain ⟨z1, z2, z3⟩ := Below.lt3 b1
  by_cases hv : wvB a h = true
  · have V := Lib.hid hv
    rw [(wr_facts hv).1]; clear hv
    go_wp2_with fail
    refine (specFracValid_any _ _ _).mono ?_
    rintro e w2 ⟨rfl, b2⟩
    have D2 := Below.step1 b1 b2
    have C2 := Below.step1 C1 b2
    obtain ⟨hc2, hf2⟩ := blw D2
    obtain ⟨he2, hg2⟩ := blw b2
    clear hc1 hf1 b1 C1
    by_cases hv : fvB n d = true
    · have F := Lib.hid hv
      rw [hv]; clear hv
      by_cases hn : n < 1
      · have E := Lib.hid (wd_no (a := a) (h := h) (n := n) (d := d) (wd_np (by omega)))
        have t1 : decide (n < 1) = true := by simpa using hn
        have G := Lib.hid C2
        clear D2 C2 b2
        go_wp2_with fail
        refine bodyPost_ret (v := .tuple #[.agg #[.int .i64 0, .int .i64 0], .bool false]) (by simp [results, Try.results31, go_sem, hc2]) rfl ⟨by rw [E.out.1, E.out.2.1, E.out.2.2], ?_⟩
        exact ((G.out).setCell (by simp <;> omega) _).setCell (by simp <;> omega) _
      · have t1 : decide (n < 1) = false := by simpa using hn
        have E := Lib.hid (wd_spec V.out F.out (by omega))
        obtain ⟨y1, y2, y3, y4⟩ := wv_bd V.out
        obtain ⟨x1, x2, x3, x4, _⟩ := fv_bd F.out
        obtain ⟨_, g, hg, ex, ey, k1, k2, k3, k4, k5, k6, k7⟩ := wr_facts V.out
        clear ex ey k5 k6 k7
        obtain ⟨m5, m6⟩ := mul_bd (wrN a h) d 1000 1000000000 (by omega) (by omega) (by omega) (by omega) (by omega)
        obtain ⟨m7, m8⟩ := mul_bd (wrD a h) n 1000 1000000000 (by omega) (by omega) (by omega) (by omega) (by omega)
        have m9 : -(1000 * 1000000000) ≤ n * wrD a h ∧ n * wrD a h ≤ 1000 * 1000000000 := by rw [Int.mul_comm n]; exact ⟨m7, m8⟩
        obtain ⟨m10, m11⟩ := m9
        go_wp2_with fail
        refine (specFracOf_any _ _ _).mono ?_
        rintro e w3 ⟨rfl, b3⟩
        have D3 := Below.step0 D2 b3
        have C3 := Lib.hid (Below.step0 C2 b3)
        obtain ⟨hc3, hf3⟩ := blw D3
        clear hc2 hf2 he2 hg2 b3 C2 D2 D3 b2
        go_wp2_with fail
        refine bodyPost_ret (v := .tuple #[.agg #[.int .i64 (foN (1000 * (wrN a h * d - n * wrD a h)) (wrD a h * n)), .int .i64 (foD (1000 * (wrN a h * d - n * wrD a h)) (wrD a h * n))], .bool (foOk (1000 * (wrN a h * d - n * wrD a h)) (wrD a h * n))]) (by simp [results, Try.results31, go_sem, hc3]) rfl ⟨by rw [E.out.1, E.out.2.1, E.out.2.2], ?_⟩
        exact (C3.out.setCell (by simp <;> omega) _).setCell (by simp <;> omega) _
    · have hv' : fvB n d = false := by simpa using hv
      have E := Lib.hid (wd_no (a := a) (h := h) (n := n) (d := d) (by unfold wdOk; rw [hv']; simp))
      have G := Lib.hid C2
      rw [hv']; clear hv hv' D2 C2 b2
      go_wp2_with fail
      refine bodyPost_ret (v := .tuple #[.agg #[.int .i64 0, .int .i64 0], .bool false]) (by simp [results, Try.results31, go_sem, hc2]) rfl ⟨by rw [E.out.1, E.out.2.1, E.out.2.2], ?_⟩
      exact ((G.out).setCell (by simp <;> omega) _).setCell (by simp <;> omega) _
  · have hv' : wvB a h = false := by simpa using hv
    have E := Lib.hid (wd_no (a := a) (h := h) (n := n) (d := d) (by unfold wdOk; rw [hv']; simp))
    have G := Lib.hid C1
    rw [(wr_no hv').2.2]; clear hv hv' b1 C1
    go_wp2_with fail
    refine bodyPost_ret (v := .tuple #[.agg #[.int .i64 0, .int .i64 0], .bool false]) (by simp [results, Try.results31, go_sem, hc1, z3]) rfl ⟨by rw [E.out.1, E.out.2.1, E.out.2.2], ?_⟩
    exact ((G.out.setCell (by simp <;> omega) _).setCell (by simp <;> omega) _).alloc (by simp [World.setCell]; omega) _
end Go.Proofs.Ytkblbppemjnpdaa
