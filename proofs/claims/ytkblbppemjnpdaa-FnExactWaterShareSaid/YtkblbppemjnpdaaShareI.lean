/- Contracts: WaterShare of the program. -/
import Derived.Test.YtkblbppemjnpdaaShareP
import Derived.Test.YtkblbppemjnpdaaReg
namespace Go.Proofs.Ytkblbppemjnpdaa
open Go.RowKit
set_option linter.unusedVariables false

theorem sh_go {a1 h1 a2 h2 n d : Int} (h : shGo a1 h1 a2 h2 n d = false) : shOk a1 h1 a2 h2 n d = false := by unfold shOk; rw [h]; rfl
theorem sh_fo {a1 h1 a2 h2 n d : Int} (h : foOk ((n * a2 - h2 * d) * a1) (d * (h1 * a2 - h2 * a1)) = false) : shOk a1 h1 a2 h2 n d = false := by
  unfold shOk shA shB; rw [h]; simp
theorem sh_out {a1 h1 a2 h2 n d : Int} (h : shIn (foN ((n * a2 - h2 * d) * a1) (d * (h1 * a2 - h2 * a1))) (foD ((n * a2 - h2 * d) * a1) (d * (h1 * a2 - h2 * a1))) = false) : shOk a1 h1 a2 h2 n d = false := by
  unfold shOk shA shB; rw [h]; simp
theorem sh_mk {a1 h1 a2 h2 n d : Int} (h1' : wvB a1 h1 = true) (h2' : wvB a2 h2 = true) (h3 : fvB n d = true) (h4 : foOk ((n * a2 - h2 * d) * a1) (d * (h1 * a2 - h2 * a1)) = true) (h5 : shIn (foN ((n * a2 - h2 * d) * a1) (d * (h1 * a2 - h2 * a1))) (foD ((n * a2 - h2 * d) * a1) (d * (h1 * a2 - h2 * a1))) = true) : shOk a1 h1 a2 h2 n d = true := by
  unfold shOk shGo shA shB; rw [h1', h2', h3, h4, h5]; rfl

set_option maxHeartbeats 800000 in
theorem waterShare_any (a1 h1 a2 h2 n d : Int) (w : World) : Calls Try.prog 41 #[.agg #[.int .i64 a1, .int .i64 h1], .agg #[.int .i64 a2, .int .i64 h2], .agg #[.int .i64 n, .int .i64 d]] w (FrPost w (shN a1 h1 a2 h2 n d) (shD a1 h1 a2 h2 n d) (shOk a1 h1 a2 h2 n d)) := by
  go_enter Try.func41, Try.ntmps41
  go_wp2_with fail
  refine (waterValid_any _ _ _).mono ?_
  rintro e w1 ⟨rfl, b1⟩
  obtain ⟨hc1, hf1⟩ := blw b1
  have C1 := Below.step4 (Below.refl w.heap.size w) b1
  by_cases hv : wvB a1 h1 = true
  · have V1 := Lib.hid hv
    rw [hv]; clear hv
    go_wp2_with fail
    refine (waterValid_any _ _ _).mono ?_
    rintro e w2 ⟨rfl, b2⟩
    have D2 := Below.step0 b1 b2
    have C2 := Below.step0 C1 b2
    obtain ⟨hc2, hf2⟩ := blw D2
    clear hc1 hf1 b1 b2 C1
    by_cases hv : wvB a2 h2 = true
    · have V2 := Lib.hid hv
      rw [hv]; clear hv
      go_wp2_with fail
      refine (fracValid_any _ _ _).mono ?_
      rintro e w3 ⟨rfl, b3⟩
      have D3 := Below.step0 D2 b3
      have C3 := Below.step0 C2 b3
      obtain ⟨hc3, hf3⟩ := blw D3
      clear hc2 hf2 b3 D2 C2
      by_cases hv : fvB n d = true
      · have V3 := Lib.hid hv
        rw [hv]; clear hv
        obtain ⟨u1, u2, u3, u4⟩ := wv_bd V1.out
        obtain ⟨v1, v2, v3, v4⟩ := wv_bd V2.out
        obtain ⟨x1, x2, x3, x4, x5⟩ := fv_bd V3.out
        clear x5
        obtain ⟨⟨m1, m2⟩, ⟨m3, m4⟩, ⟨m5, m6⟩, ⟨m7, m8⟩, ⟨m9, m10⟩, ⟨m11, m12⟩⟩ := sh_bd (a1 := a1) (h1 := h1) (a2 := a2) (h2 := h2) (n := n) (d := d) (by omega) (by omega) (by omega) (by omega) (by omega) (by omega) (by omega) (by omega) (by omega) (by omega) (by omega) (by omega)
        go_wp2_with fail
        refine (fracOf_any _ _ _).mono ?_
        rintro e w4 ⟨rfl, b4⟩
        have D4 := Below.step0 D3 b4
        have C4 := Below.step0 C3 b4
        obtain ⟨hc4, hf4⟩ := blw D4
        obtain ⟨z1, z2, z3, z4⟩ := Below.lt4 D4
        clear hc3 hf3 b4 D3 C3 D4 m1 m2 m3 m4 m5 m6 m7 m8 m9 m10 m11 m12
        have G := Lib.hid C4
        clear C4
        by_cases hk : foOk ((n * a2 - h2 * d) * a1) (d * (h1 * a2 - h2 * a1)) = true
        · have K := Lib.hid hk
          rw [hk]; clear hk
          by_cases hs : foN ((n * a2 - h2 * d) * a1) (d * (h1 * a2 - h2 * a1)) < 0
          · have t0 : decide (foN ((n * a2 - h2 * d) * a1) (d * (h1 * a2 - h2 * a1)) < 0) = true := by simpa using hs
            have E := Lib.hid (sh_no (sh_out (show shIn (foN ((n * a2 - h2 * d) * a1) (d * (h1 * a2 - h2 * a1))) (foD ((n * a2 - h2 * d) * a1) (d * (h1 * a2 - h2 * a1))) = false by unfold shIn; simp; omega)))
            go_wp2_with fail
            refine bodyPost_ret (v := .tuple #[.agg #[.int .i64 0, .int .i64 0], .bool false]) (by simp [results, Try.results41, go_sem, hc4, z4]) rfl ⟨by rw [E.out.1, E.out.2.1, E.out.2.2], ?_⟩
            exact (((G.out).setCell (by simp <;> omega) _).setCell (by simp <;> omega) _).alloc (by simp [World.setCell]; omega) _
          · have t0 : decide (foN ((n * a2 - h2 * d) * a1) (d * (h1 * a2 - h2 * a1)) < 0) = false := by simpa using hs
            by_cases hs2 : foD ((n * a2 - h2 * d) * a1) (d * (h1 * a2 - h2 * a1)) < foN ((n * a2 - h2 * d) * a1) (d * (h1 * a2 - h2 * a1))
            · have t1 : decide (foD ((n * a2 - h2 * d) * a1) (d * (h1 * a2 - h2 * a1)) < foN ((n * a2 - h2 * d) * a1) (d * (h1 * a2 - h2 * a1))) = true := by simpa using hs2
              have E := Lib.hid (sh_no (sh_out (show shIn (foN ((n * a2 - h2 * d) * a1) (d * (h1 * a2 - h2 * a1))) (foD ((n * a2 - h2 * d) * a1) (d * (h1 * a2 - h2 * a1))) = false by unfold shIn; simp; omega)))
              go_wp2_with fail
              refine bodyPost_ret (v := .tuple #[.agg #[.int .i64 0, .int .i64 0], .bool false]) (by simp [results, Try.results41, go_sem, hc4, z4]) rfl ⟨by rw [E.out.1, E.out.2.1, E.out.2.2], ?_⟩
              exact (((G.out).setCell (by simp <;> omega) _).setCell (by simp <;> omega) _).alloc (by simp [World.setCell]; omega) _
            · have t1 : decide (foD ((n * a2 - h2 * d) * a1) (d * (h1 * a2 - h2 * a1)) < foN ((n * a2 - h2 * d) * a1) (d * (h1 * a2 - h2 * a1))) = false := by simpa using hs2
              have E := Lib.hid (sh_yes (sh_mk V1.out V2.out V3.out K.out (show shIn (foN ((n * a2 - h2 * d) * a1) (d * (h1 * a2 - h2 * a1))) (foD ((n * a2 - h2 * d) * a1) (d * (h1 * a2 - h2 * a1))) = true by unfold shIn; simp; omega)))
              go_wp2_with fail
              refine bodyPost_ret (v := .tuple #[.agg #[.int .i64 (foN ((n * a2 - h2 * d) * a1) (d * (h1 * a2 - h2 * a1))), .int .i64 (foD ((n * a2 - h2 * d) * a1) (d * (h1 * a2 - h2 * a1)))], .bool true]) (by simp [results, Try.results41, go_sem, hc4, z4]) rfl ⟨by rw [E.out.1, E.out.2.1, E.out.2.2]; rfl, ?_⟩
              exact ((G.out.setCell (by simp <;> omega) _).setCell (by simp <;> omega) _).alloc (by simp [World.setCell]; omega) _
        · have hk' : foOk ((n * a2 - h2 * d) * a1) (d * (h1 * a2 - h2 * a1)) = false := by simpa using hk
          have E := Lib.hid (sh_no (sh_fo hk'))
          rw [hk']; clear hk hk'
          go_wp2_with fail
          refine bodyPost_ret (v := .tuple #[.agg #[.int .i64 0, .int .i64 0], .bool false]) (by simp [results, Try.results41, go_sem, hc4, z4]) rfl ⟨by rw [E.out.1, E.out.2.1, E.out.2.2], ?_⟩
          exact (((G.out).setCell (by simp <;> omega) _).setCell (by simp <;> omega) _).alloc (by simp [World.setCell]; omega) _
      · have hv' : fvB n d = false := by simpa using hv
        have E := Lib.hid (sh_no (a1 := a1) (h1 := h1) (a2 := a2) (h2 := h2) (sh_go (by unfold shGo; rw [hv']; simp)))
        have G := Lib.hid C3
        rw [hv']; clear hv hv' D3 C3
        go_wp2_with fail
        refine bodyPost_ret (v := .tuple #[.agg #[.int .i64 0, .int .i64 0], .bool false]) (by simp [results, Try.results41, go_sem, hc3]) rfl ⟨by rw [E.out.1, E.out.2.1, E.out.2.2], ?_⟩
        exact ((G.out).setCell (by simp <;> omega) _).setCell (by simp <;> omega) _
    · have hv' : wvB a2 h2 = false := by simpa using hv
      have E := Lib.hid (sh_no (a1 := a1) (h1 := h1) (n := n) (d := d) (sh_go (by unfold shGo; rw [hv']; simp)))
      have G := Lib.hid C2
      rw [hv']; clear hv hv' D2 C2
      go_wp2_with fail
      refine bodyPost_ret (v := .tuple #[.agg #[.int .i64 0, .int .i64 0], .bool false]) (by simp [results, Try.results41, go_sem, hc2]) rfl ⟨by rw [E.out.1, E.out.2.1, E.out.2.2], ?_⟩
      exact ((G.out).setCell (by simp <;> omega) _).setCell (by simp <;> omega) _
  · have hv' : wvB a1 h1 = false := by simpa using hv
    have E := Lib.hid (sh_no (a2 := a2) (h2 := h2) (n := n) (d := d) (sh_go (by unfold shGo; rw [hv']; simp)))
    have G := Lib.hid C1
    rw [hv']; clear hv hv' b1 C1
    go_wp2_with fail
    refine bodyPost_ret (v := .tuple #[.agg #[.int .i64 0, .int .i64 0], .bool false]) (by simp [results, Try.results41, go_sem, hc1]) rfl ⟨by rw [E.out.1, E.out.2.1, E.out.2.2], ?_⟩
    exact ((G.out).setCell (by simp <;> omega) _).setCell (by simp <;> omega) _
end Go.Proofs.Ytkblbppemjnpdaa
