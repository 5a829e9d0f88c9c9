/- Contracts: WaterMix of the program. -/
import Derived.Test.YtkblbppemjnpdaaPairs
import Derived.Test.YtkblbppemjnpdaaRatio
namespace Go.Proofs.Ytkblbppemjnpdaa
open Go.RowKit
set_option linter.unusedVariables false

/-- The first k waters are valid. -/
def mxAll (L : List (Int × Int)) (k : Nat) : Prop := ∀ i, i < k → wvB (pr L i).1 (pr L i).2 = true
instance (L : List (Int × Int)) (k : Nat) : Decidable (mxAll L k) := inferInstanceAs (Decidable (∀ i, i < k → wvB (pr L i).1 (pr L i).2 = true))
def mxOk (L : List (Int × Int)) : Bool := decide (1 ≤ L.length ∧ L.length ≤ 6 ∧ mxAll L L.length) && wvB (psA L L.length) (psH L L.length)
def mxA (L : List (Int × Int)) : Int := if mxOk L = true then psA L L.length else 0
def mxH (L : List (Int × Int)) : Int := if mxOk L = true then psH L L.length else 0

theorem mx_no {L : List (Int × Int)} (h : mxOk L = false) : mxA L = 0 ∧ mxH L = 0 ∧ mxOk L = false := by
  unfold mxA mxH; rw [h]; simp
theorem mx_yes {L : List (Int × Int)} (h : mxOk L = true) : mxA L = psA L L.length ∧ mxH L = psH L L.length ∧ mxOk L = true := by
  unfold mxA mxH; rw [h]; simp
theorem mx_len {L : List (Int × Int)} (h : ¬ (1 ≤ L.length ∧ L.length ≤ 6)) : mxOk L = false := by
  unfold mxOk; simp only [Bool.and_eq_false_iff, decide_eq_false_iff_not]; exact .inl fun k => h ⟨k.1, k.2.1⟩
theorem mx_bad {L : List (Int × Int)} {k : Nat} (hk : k < L.length) (h : wvB (pr L k).1 (pr L k).2 = false) : mxOk L = false := by
  unfold mxOk; simp only [Bool.and_eq_false_iff, decide_eq_false_iff_not]
  exact .inl fun q => by have := q.2.2 k hk; rw [h] at this; cases this
theorem mx_sum {L : List (Int × Int)} (h1 : 1 ≤ L.length) (h2 : L.length ≤ 6) (h3 : mxAll L L.length) : mxOk L = wvB (psA L L.length) (psH L L.length) := by
  unfold mxOk; rw [decide_eq_true ⟨h1, h2, h3⟩]; simp
theorem mx_step {L : List (Int × Int)} {k : Nat} (h : mxAll L k) (hv : wvB (pr L k).1 (pr L k).2 = true) : mxAll L (k + 1) := by
  intro i hi
  by_cases e : i = k
  · subst e; exact hv
  · exact h i (by omega)
theorem wv_bd' {a h : Int} (hv : wvB a h = true) : 1 ≤ a ∧ a ≤ 1000 ∧ 0 ≤ h ∧ h ≤ a := by unfold wvB at hv; simpa using hv
theorem ps_bd {L : List (Int × Int)} {k : Nat} (h : mxAll L k) : 0 ≤ psA L k ∧ psA L k ≤ 1000 * k ∧ 0 ≤ psH L k ∧ psH L k ≤ 1000 * k := by
  induction k with
  | zero => simp [psA, psH]
  | succ k ih =>
    obtain ⟨i1, i2, i3, i4⟩ := ih (fun i hi => h i (by omega))
    obtain ⟨b1, b2, b3, b4⟩ := wv_bd' (h k (by omega))
    show 0 ≤ psA L k + (pr L k).1 ∧ psA L k + (pr L k).1 ≤ _ ∧ 0 ≤ psH L k + (pr L k).2 ∧ psH L k + (pr L k).2 ≤ _
    omega

set_option maxHeartbeats 800000 in
theorem waterMix_in (b off len cap : Nat) (L : List (Int × Int)) (w : World) (hL : L.length = len) (h1 : 1 ≤ len) (h6 : len ≤ 6) (hb : b < w.heap.size) (hc : PrsAt w b off L) :
    Calls Try.prog 24 #[.slice (some ⟨b, off, none⟩) len cap] w (FrPost w (mxA L) (mxH L) (mxOk L)) := by
  have HL := Lib.hid hL
  have HC := Lib.hid hc
  clear hL hc
  have t1 : decide ((len : Int) < 1) = false := by simp; omega
  have t2 : decide (6 < (len : Int)) = false := by simp; omega
  have R0 : MxRel w (w.heap.size + 1) w.heap.size 0 0 ((w.alloc (.cells #[.int .i64 0, .int .i64 0] 25)).alloc (.cells #[.int .i64 0, .int .i64 0] 25)) := by
    refine ⟨?_, ?_, ?_, ?_, ?_, ?_, ?_, ?_, Below.al (Below.al (Below.refl _ _))⟩
    all_goals simp [go_sem]
  have R0 := Lib.hid R0
  go_enter Try.func24, Try.ntmps24
  go_wp2_with fail
  go_loopw [18, 6] (fun i _ wr => ∃ (k : Nat), i = .int .i64 k ∧ k ≤ len ∧ Hid (mxAll L k) ∧ MxRel w (w.heap.size + 1) w.heap.size (psA L k) (psH L k) wr) (fun i _ _ => len - (intOf i).toNat)
  case atStart => exact ⟨0, rfl, Nat.zero_le _, (fun i hi => absurd hi (by omega)), R0.out⟩
  case round =>
    obtain ⟨k, rfl, hk, ha, R⟩ := hrel
    obtain ⟨o0, o1, x0, x1, r0, r1, y0, y1, bl⟩ := R
    by_cases hlt : k < len
    · obtain ⟨c0, c1⟩ := HC.out k (by rw [HL.out]; exact hlt)
      have e0 := (bl.cell (p := ⟨b, off + k * 2, none⟩) hb).trans c0
      have e1 := (bl.cell (p := ⟨b, off + k * 2 + 1, none⟩) hb).trans c1
      clear c0 c1
      have R := Lib.hid (MxRel.mk o0 o1 x0 x1 r0 r1 y0 y1 bl)
      clear bl
      go_wp2_with fail
      refine (waterValid_any _ _ _).mono ?_
      rintro e w2 ⟨rfl, b2⟩
      obtain ⟨hc2, hf2⟩ := blw b2
      have z2 := Below.lt1 b2
      have R2 := (R.out.alloc (.cells #[.int .i64 (pr L k).1, .int .i64 (pr L k).2] 25)).below b2
      obtain ⟨l1, l2⟩ := R2.lt
      obtain ⟨o0', o1', x0', x1', r0', r1', y0', y1', bl'⟩ := R2
      have R2 := Lib.hid (MxRel.mk o0' o1' x0' x1' r0' r1' y0' y1' bl')
      clear o0 o1 x0 x1 r0 r1 y0 y1 R b2 bl' e0 e1
      by_cases hv : wvB (pr L k).1 (pr L k).2 = true
      · have A := Lib.hid (mx_step ha.out hv)
        obtain ⟨q1, q2, q3, q4⟩ := ps_bd ha.out
        obtain ⟨q5, q6, q7, q8⟩ := wv_bd' hv
        rw [hv]; clear hv
        go_wp2_with fail
        go_roundw
        case rel => exact ⟨k + 1, by go_num, by omega, A, R2.out.set (by omega) (by omega) _ _⟩
        case measure => simp [intOf]; omega
      · have hv' : wvB (pr L k).1 (pr L k).2 = false := by simpa using hv
        have E := Lib.hid (mx_no (mx_bad (by rw [HL.out]; exact hlt) hv'))
        rw [hv']; clear hv hv'
        go_wp2_with fail
        refine bodyPost_ret (v := .tuple #[.agg #[.int .i64 0, .int .i64 0], .bool false]) (by simp [results, Try.results24, go_sem, r0', r1']) rfl ⟨by rw [E.out.1, E.out.2.1, E.out.2.2], ?_⟩
        exact (R2.out.bl.setCell (by simp) _).setCell (by simp) _
    · obtain rfl : k = len := by omega
      obtain ⟨q1, q2, q3, q4⟩ := ps_bd ha.out
      have R := Lib.hid (MxRel.mk o0 o1 x0 x1 r0 r1 y0 y1 bl)
      clear bl
      go_wp2_with fail
      refine (waterValid_any _ _ _).mono ?_
      rintro e w2 ⟨rfl, b2⟩
      have R2 := R.out.below b2
      obtain ⟨l1, l2⟩ := R2.lt
      obtain ⟨o0', o1', x0', x1', r0', r1', y0', y1', bl'⟩ := R2
      have R2 := Lib.hid (MxRel.mk o0' o1' x0' x1' r0' r1' y0' y1' bl')
      clear o0 o1 x0 x1 r0 r1 y0 y1 R b2 bl'
      have M : Hid (mxOk L = wvB (psA L k) (psH L k) ∧ (mxOk L = true → mxA L = psA L k ∧ mxH L = psH L k)) := by
        have h := mx_sum (L := L) (by rw [HL.out]; exact h1) (by rw [HL.out]; exact h6) (by rw [HL.out]; exact ha.out)
        rw [HL.out] at h
        refine ⟨h, fun ho => ?_⟩
        obtain ⟨e1, e2, _⟩ := mx_yes ho
        rw [HL.out] at e1 e2
        exact ⟨e1, e2⟩
      by_cases hv : wvB (psA L k) (psH L k) = true
      · have E := Lib.hid (And.intro (M.out.2 (M.out.1.trans hv)) (M.out.1.trans hv))
        rw [hv]; clear hv
        go_wp2_with fail
        refine bodyPost_ret (v := .tuple #[.agg #[.int .i64 (psA L k), .int .i64 (psH L k)], .bool true]) (by simp [results, Try.results24, go_sem, r0', r1']) rfl ⟨by rw [E.out.1.1, E.out.1.2, E.out.2], ?_⟩
        exact (R2.out.bl.setCell (by simp) _).setCell (by simp) _
      · have hv' : wvB (psA L k) (psH L k) = false := by simpa using hv
        have E := Lib.hid (mx_no (M.out.1.trans hv'))
        rw [hv']; clear hv hv'
        go_wp2_with fail
        refine bodyPost_ret (v := .tuple #[.agg #[.int .i64 0, .int .i64 0], .bool false]) (by simp [results, Try.results24, go_sem, r0', r1']) rfl ⟨by rw [E.out.1, E.out.2.1, E.out.2.2], ?_⟩
        exact (R2.out.bl.setCell (by simp) _).setCell (by simp) _

theorem waterMix_any (a : Option Addr) (len cap : Nat) (L : List (Int × Int)) (w : World) (hlc : len ≤ cap) (hm : cap ≤ maxLen) (h : Prs w a len L) :
    Calls Try.prog 24 #[.slice a len cap] w (FrPost w (mxA L) (mxH L) (mxOk L)) := by
  obtain ⟨hL, h2⟩ := h
  by_cases hin : 1 ≤ len ∧ len ≤ 6
  · rcases h2 with h2 | ⟨b, off, rfl, hb, hc⟩
    · omega
    · exact waterMix_in b off len cap L w hL hin.1 hin.2 hb hc
  · have E := Lib.hid (mx_no (mx_len (L := L) (by rw [hL]; exact hin)))
    unfold maxLen at hm
    clear h2 hL
    by_cases h0 : len < 1
    · have t1 : decide ((len : Int) < 1) = true := by simp; omega
      go_enter Try.func24, Try.ntmps24
      go_wp2_with fail
      refine bodyPost_ret (v := .tuple #[.agg #[.int .i64 0, .int .i64 0], .bool false]) (by simp [results, Try.results24, go_sem]) rfl ⟨by rw [E.out.1, E.out.2.1, E.out.2.2], ?_⟩
      exact (Below.refl _ _).alloc (Nat.le_refl _) _
    · have t1 : decide ((len : Int) < 1) = false := by simp; omega
      have t2 : decide (6 < (len : Int)) = true := by simp; omega
      go_enter Try.func24, Try.ntmps24
      go_wp2_with fail
      refine bodyPost_ret (v := .tuple #[.agg #[.int .i64 0, .int .i64 0], .bool false]) (by simp [results, Try.results24, go_sem]) rfl ⟨by rw [E.out.1, E.out.2.1, E.out.2.2], ?_⟩
      exact (Below.refl _ _).alloc (Nat.le_refl _) _
end Go.Proofs.Ytkblbppemjnpdaa
