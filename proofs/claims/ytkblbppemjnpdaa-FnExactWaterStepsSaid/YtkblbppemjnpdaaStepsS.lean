/- Contracts: WaterSteps of the reference. -/
import Derived.Test.YtkblbppemjnpdaaSteps
namespace Go.Proofs.Ytkblbppemjnpdaa
open Go.RowKit
set_option linter.unusedVariables false

set_option maxHeartbeats 800000 in
theorem specWaterSteps_any (a b c d n : Int) (w : World) : Calls Try.prog 35 #[.agg #[.int .i64 a, .int .i64 b], .agg #[.int .i64 c, .int .i64 d], .int .i64 n] w (FrPost w (wsN a b c d n) (wsD a b c d n) (wsOk a b c d n)) := by
  go_enter Try.func35, Try.ntmps35
  go_wp2_with fail
  refine (l2Two_any _ _ _ _ _).mono ?_
  rintro e w1 ⟨rfl, b1⟩
  obtain ⟨hc1, hf1⟩ := blw b1
  obtain ⟨z1, z2, z3⟩ := Below.lt3 b1
  have C1 := Below.step3 (Below.refl w.heap.size w) b1
  by_cases hv : (fvB a b && fvB c d) = true
  · have V := Lib.hid hv
    rw [hv]; clear hv
    go_wp2_with fail
    refine (l6In_any _ _ _ _).mono ?_
    rintro e w2 ⟨rfl, rfl⟩
    by_cases hn : inB n 0 10 = true
    · have G := Lib.hid (show wsGo a b c d n = true by unfold wsGo; rw [V.out, hn]; rfl)
      obtain ⟨n0, n10⟩ : 0 ≤ n ∧ n ≤ 10 := by unfold inB at hn; simpa using hn
      rw [hn]; clear hn
      have R0 : StpRel w w1.heap.size (w.heap.size + 1) (w.heap.size + 1 + 1) a b c d (w1.alloc (.cells #[.int .i64 a, .int .i64 b] 43)) := by
        refine ⟨by simp, by simp, by simp, by simp, ?_, ?_, ?_, ?_, ?_, ?_, Below.al C1⟩
        all_goals simp [go_sem, hc1, hf1, z2, z3]
      clear b1 C1
      go_wp2_with fail
      go_loopw [9, 10, 11] (fun i _ _ wr => ∃ (k : Nat) (p q : Int), i = .int .i64 k ∧ (k : Int) ≤ n ∧ Hid (stp c d k (a, b) = some (p, q)) ∧ StpRel w w1.heap.size (w.heap.size + 1) (w.heap.size + 1 + 1) p q c d wr) (fun i _ _ _ => (n - intOf i).toNat)
      case atStart => exact ⟨0, a, b, rfl, n0, rfl, R0⟩
      case round =>
        obtain ⟨k, p, q, rfl, hk, hs, R⟩ := hrel
        obtain ⟨o0, o1, x0, x1, f0, f1, r0, r1, y0, y1, bl⟩ := R
        have R := Lib.hid (StpRel.mk o0 o1 x0 x1 f0 f1 r0 r1 y0 y1 bl)
        clear bl hc1 hf1 R0
        by_cases hlt : (k : Int) < n
        · go_wp2_with fail
          refine (specFracMul_any _ _ _ _ _).mono ?_
          rintro e w2 ⟨rfl, b2⟩
          have R2 := R.out.below b2
          obtain ⟨l1, l2, l3⟩ := R2.lt
          obtain ⟨o0', o1', x0', x1', f0', f1', r0', r1', y0', y1', bl'⟩ := R2
          have R2 := Lib.hid (StpRel.mk o0' o1' x0' x1' f0' f1' r0' r1' y0' y1' bl')
          clear o0 o1 x0 x1 f0 f1 r0 r1 y0 y1 b2 bl' R
          by_cases ho : fmOk p q c d = true
          · have S := Lib.hid (stp_ok hs.out ho)
            rw [ho]; clear ho
            go_wp2_with fail
            go_roundw
            case rel => exact ⟨k + 1, _, _, by go_num, by omega, S, (R2.out.set (by omega) (by omega) (by omega) _ _).alloc _⟩
            case measure => simp [intOf]; omega
          · have ho' : fmOk p q c d = false := by simpa using ho
            have E := Lib.hid (ws_fail hlt G.out hs.out ho')
            rw [ho']; clear ho ho'
            go_wp2_with fail
            refine bodyPost_ret (v := .tuple #[.agg #[.int .i64 0, .int .i64 0], .bool false]) (by simp [results, Try.results35, go_sem, r0', r1', l3]) rfl ⟨by rw [E.out.1, E.out.2.1, E.out.2.2], ?_⟩
            exact ((R2.out.bl.setCell (by simp <;> omega) _).setCell (by simp <;> omega) _).alloc (by have := R2.out.bl.size; simp [World.setCell]; omega) _
        · obtain rfl : n = (k : Int) := by omega
          have E := Lib.hid (ws_end G.out hs.out)
          go_wp2_with fail
          refine bodyPost_ret (v := .tuple #[.agg #[.int .i64 p, .int .i64 q], .bool true]) (by simp [results, Try.results35, go_sem, r0, r1]) rfl ⟨by rw [E.out.1, E.out.2.1, E.out.2.2], ?_⟩
          exact (R.out.bl.setCell (by simp <;> omega) _).setCell (by simp <;> omega) _
    · have hn' : inB n 0 10 = false := by simpa using hn
      have E := Lib.hid (ws_no (a := a) (b := b) (c := c) (d := d) (n := n) (by unfold wsGo; rw [hn']; simp))
      have G := Lib.hid C1
      rw [hn']; clear hn hn' b1 C1
      go_wp2_with fail
      refine bodyPost_ret (v := .tuple #[.agg #[.int .i64 0, .int .i64 0], .bool false]) (by simp [results, Try.results35, go_sem, hc1]) rfl ⟨by rw [E.out.1, E.out.2.1, E.out.2.2], ?_⟩
      exact (G.out.setCell (by simp <;> omega) _).setCell (by simp <;> omega) _
  · have hv' : (fvB a b && fvB c d) = false := by simpa using hv
    have E := Lib.hid (ws_no (a := a) (b := b) (c := c) (d := d) (n := n) (by unfold wsGo; rw [hv']; simp))
    have G := Lib.hid C1
    rw [hv']; clear hv hv' b1 C1
    go_wp2_with fail
    refine bodyPost_ret (v := .tuple #[.agg #[.int .i64 0, .int .i64 0], .bool false]) (by simp [results, Try.results35, go_sem, hc1]) rfl ⟨by rw [E.out.1, E.out.2.1, E.out.2.2], ?_⟩
    exact (G.out.setCell (by simp <;> omega) _).setCell (by simp <;> omega) _
end Go.Proofs.Ytkblbppemjnpdaa
