/- Contracts: WaterMix of the reference. -/
import Derived.Test.YtkblbppemjnpdaaMixI
import Derived.StillTailTactics
import Derived.RegionTactic
namespace Go.Proofs.Ytkblbppemjnpdaa
open Go.RowKit
set_option linter.unusedVariables false

set_option maxHeartbeats 800000 in
theorem specWaterMix_in (b off len cap : Nat) (L : List (Int × Int)) (w : World) (hL : L.length = len) (h1 : 1 ≤ len) (h6 : len ≤ 6) (hb : b < w.heap.size) (hc : PrsAt w b off L) :
    Calls Try.prog 22 #[.slice (some ⟨b, off, none⟩) len cap] w (FrPost w (mxA L) (mxH L) (mxOk L)) := by
  have HL := Lib.hid hL
  have HC := Lib.hid hc
  clear hL hc
  have I := Lib.hid (show inB (len : Int) 1 6 = true by unfold inB; simp; omega)
  have R0 : MxRel w (w.heap.size + 1) w.heap.size 0 0 ((w.alloc (.cells #[.int .i64 0, .int .i64 0] 25)).alloc (.cells #[.int .i64 0, .int .i64 0] 25)) := by
    refine ⟨?_, ?_, ?_, ?_, ?_, ?_, ?_, ?_, Below.al (Below.al (Below.refl _ _))⟩
    all_goals simp [go_sem]
  have R0 := Lib.hid R0
  go_enter Try.func22, Try.ntmps22
  go_wp2_with fail
  refine (l6In_any _ _ _ _).mono ?_
  rintro e w1 ⟨rfl, rfl⟩
  rw [I.out]
  go_wp2_with fail
  go_loopw [5] (fun i wr => ∃ (k : Nat), i = .int .i64 k ∧ k ≤ len ∧ Hid (mxAll L k) ∧ MxRel w (w.heap.size + 1) w.heap.size (psA L k) (psH L k) wr) (fun i _ => len - (intOf i).toNat)
  case atStart => exact ⟨0, rfl, Nat.zero_le _, (fun i hi => absurd hi (by omega)), R0.out⟩
  case round =>
    obtain ⟨k, rfl, hk, ha, R⟩ := hrel
    obtain ⟨o0, o1, x0, x1, r0, r1, y0, y1, bl⟩ := R
    by_cases hlt : k < len
    · obtain ⟨c0, c1⟩ := HC.out k (by rw [HL.out]; exact hlt)
      have e0 := (bl.cell (p := ⟨b, off + k * 2, none⟩) hb).trans c0
      have e1 := (bl.cell (p := ⟨b, off + k * 2 + 1, none⟩) hb).trans c1
      clear c0 c1
      have R := Lib.hid (MxRel.mk o0 o1 x0 x1 r0 r1 y0 y1 bl)
      clear bl
      go_wp2_with fail
      refine (specWaterValid_any _ _ _).mono ?_
      rintro e w2 ⟨rfl, b2⟩
      have e0 := (b2.cell (World.block_lt_of_cell? _ _ e0)).trans e0
      have e1 := (b2.cell (World.block_lt_of_cell? _ _ e1)).trans e1
      have R2 := R.out.below b2
      obtain ⟨l1, l2⟩ := R2.lt
      obtain ⟨o0', o1', x0', x1', r0', r1', y0', y1', bl'⟩ := R2
      have R2 := Lib.hid (MxRel.mk o0' o1' x0' x1' r0' r1' y0' y1' bl')
      clear o0 o1 x0 x1 r0 r1 y0 y1 R bl'
      by_cases hv : wvB (pr L k).1 (pr L k).2 = true
      · have A := Lib.hid (mx_step ha.out hv)
        obtain ⟨q1, q2, q3, q4⟩ := ps_bd ha.out
        obtain ⟨q5, q6, q7, q8⟩ := wv_bd' hv
        rw [hv]; clear hv
        have nk : (k : Int) < (len : Int) := by omega
        go_wp2_with fail
        go_still_tail 17, (by kernel_rfl)
        change wpList _ _ _ _ _ w2.drew
        go_wp2_with fail
        go_roundw
        case rel => exact ⟨k + 1, by go_num, by omega, A, (R2.out.set (by omega) (by omega) _ _).drew⟩
        case measure => simp [intOf]; omega
      · have hv' : wvB (pr L k).1 (pr L k).2 = false := by simpa using hv
        have E := Lib.hid (mx_no (mx_bad (by rw [HL.out]; exact hlt) hv'))
        rw [hv']; clear hv hv'
        go_wp2_with fail
        refine bodyPost_ret (v := .tuple #[.agg #[.int .i64 0, .int .i64 0], .bool false]) (by simp [results, Try.results22, go_sem, r0', r1']) rfl ⟨by rw [E.out.1, E.out.2.1, E.out.2.2], ?_⟩
        exact (R2.out.bl.setCell (by simp) _).setCell (by simp) _
    · obtain rfl : k = len := by omega
      obtain ⟨q1, q2, q3, q4⟩ := ps_bd ha.out
      have R := Lib.hid (MxRel.mk o0 o1 x0 x1 r0 r1 y0 y1 bl)
      clear bl
      go_wp2_with fail
      refine (specWaterValid_any _ _ _).mono ?_
      rintro e w2 ⟨rfl, b2⟩
      have R2 := R.out.below b2
      obtain ⟨l1, l2⟩ := R2.lt
      obtain ⟨o0', o1', x0', x1', r0', r1', y0', y1', bl'⟩ := R2
      have R2 := Lib.hid (MxRel.mk o0' o1' x0' x1' r0' r1' y0' y1' bl')
      clear o0 o1 x0 x1 r0 r1 y0 y1 R b2 bl'
      have M : Hid (mxOk L = wvB (psA L k) (psH L k) ∧ (mxOk L = true → mxA L = psA L k ∧ mxH L = psH L k)) := by
        have h := mx_sum (L := L) (by rw [HL.out]; exact h1) (by rw [HL.out]; exact h6) (by rw [HL.out]; exact ha.out)
        rw [HL.out] at h
        refine ⟨h, fun ho => ?_⟩
        obtain ⟨e1, e2, _⟩ := mx_yes ho
        rw [HL.out] at e1 e2
        exact ⟨e1, e2⟩
      by_cases hv : wvB (psA L k) (psH L k) = true
      · have E := Lib.hid (And.intro (M.out.2 (M.out.1.trans hv)) (M.out.1.trans hv))
        rw [hv]; clear hv
        go_wp2_with fail
        refine bodyPost_ret (v := .tuple #[.agg #[.int .i64 (psA L k), .int .i64 (psH L k)], .bool true]) (by simp [results, Try.results22, go_sem, r0', r1']) rfl ⟨by rw [E.out.1.1, E.out.1.2, E.out.2], ?_⟩
        exact (R2.out.bl.setCell (by simp) _).setCell (by simp) _
      · have hv' : wvB (psA L k) (psH L k) = false := by simpa using hv
        have E := Lib.hid (mx_no (M.out.1.trans hv'))
        rw [hv']; clear hv hv'
        go_wp2_with fail
        refine bodyPost_ret (v := .tuple #[.agg #[.int .i64 0, .int .i64 0], .bool false]) (by simp [results, Try.results22, go_sem, r0', r1']) rfl ⟨by rw [E.out.1, E.out.2.1, E.out.2.2], ?_⟩
        exact (R2.out.bl.setCell (by simp) _).setCell (by simp) _


theorem specWaterMix_any (a : Option Addr) (len cap : Nat) (L : List (Int × Int)) (w : World) (hlc : len ≤ cap) (hm : cap ≤ maxLen) (h : Prs w a len L) :
    Calls Try.prog 22 #[.slice a len cap] w (FrPost w (mxA L) (mxH L) (mxOk L)) := by
  obtain ⟨hL, h2⟩ := h
  by_cases hin : 1 ≤ len ∧ len ≤ 6
  · rcases h2 with h2 | ⟨b, off, rfl, hb, hc⟩
    · omega
    · exact specWaterMix_in b off len cap L w hL hin.1 hin.2 hb hc
  · have E := Lib.hid (mx_no (mx_len (L := L) (by rw [hL]; exact hin)))
    unfold maxLen at hm
    clear h2 hL
    have I := Lib.hid (show inB (len : Int) 1 6 = false by unfold inB; simp; omega)
    go_enter Try.func22, Try.ntmps22
    go_wp2_with fail
    refine (l6In_any _ _ _ _).mono ?_
    rintro e w1 ⟨rfl, rfl⟩
    rw [I.out]
    go_wp2_with fail
    refine bodyPost_ret (v := .tuple #[.agg #[.int .i64 0, .int .i64 0], .bool false]) (by simp [results, Try.results22, go_sem]) rfl ⟨by rw [E.out.1, E.out.2.1, E.out.2.2], ?_⟩
    exact Below.al (Below.al (Below.refl _ _))
end Go.Proofs.Ytkblbppemjnpdaa
