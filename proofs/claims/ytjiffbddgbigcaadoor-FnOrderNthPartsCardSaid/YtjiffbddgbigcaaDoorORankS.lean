/- spec.OrderRank. -/
import Derived.Test.YtjiffbddgbigcaaDoorRankS
import Derived.Test.YtjiffbddgbigcaaDoorOrdQ
import Derived.Test.YtjiffbddgbigcaaDoorNthS
import Derived.Test.YtjiffbddgbigcaaDoorSplit
import Derived.Laws.DeepStrings4
namespace Go.Proofs.YtjiffbddgbigcaaDoor
open Go.RowKit
set_option linter.unusedVariables false
set_option linter.unusedSimpArgs false

theorem cut_mid (W : World) (l : List UInt8) (i j n : Nat) (s t : Int) (P : List UInt8) (hs : s = (i : Int)) (ht : t = (j : Int)) (hj : j = i + n) (hjl : j ≤ l.length) (hP : (l.drop i).take n = P) : (Instr.slice 9 (.string (bs l)) (some (.int .i64 s)) (some (.int .i64 t)) none).run Tryd.prog W = .ok (.string (bs P)) W := by
  subst hs ht hP
  rw [run_slice_string_if W _ _ _ _ _ _ Tryd.underlying9, if_pos ⟨by omega, by rw [bs_size]; omega⟩, if_pos ⟨by omega, by omega⟩, bs_extract]
  have e : ((j : Int)).toNat - ((i : Int)).toNat = n := by omega
  rw [e]
  rfl
set_option maxHeartbeats 3200000 in
theorem specRank_any (l : List UInt8) (hl : l.length ≤ 1048576) (w : World) :
    Calls Tryd.prog 19 #[.string (bs l)] w fun e w' => e = .returned (.int .i64 (rkV l)) ∧ Below w.heap.size w w' := by
  by_cases hp : prB l = false
  · rw [rkV_no hp]
    go_enter Tryd.func19, Tryd.ntmps19
    go_wp2_with fail
    refine (specParts_any l hl _).mono ?_
    rintro e w1 ⟨a, b, n, m, c, c', rfl, h1, h2, h3, h4, I1, I2, b1⟩
    rw [hp]
    have B1 := Lib.hid b1
    clear I1 I2 b1
    go_wp2_with fail
    go_ret
    exact ⟨rfl, B1.out⟩
  have hp' : prB l = true := by simpa using hp
  have HP := Lib.hid hp'
  have hl2 : l.length ≤ 52 := pr_len hp'
  obtain ⟨eA, eC⟩ := prA_yes hp'
  go_enter Tryd.func19, Tryd.ntmps19
  go_wp2_with fail
  refine (specParts_any l hl _).mono ?_
  rintro e w1 ⟨a, b, n, m, c, c', rfl, h1, h2, h3, h4, I1, I2, b1⟩
  rw [hp']
  rw [eA] at I1
  rw [eC] at I2
  have OK := Lib.hid (pr_yes hp').1
  obtain ⟨g1, g2, g3, g4, g5⟩ := ok_true OK.out
  have nA : (cA l).length = n := I1.1
  have nB : (cB l).length = m := I2.1
  obtain rfl : m = n := by omega
  have hn1 : 1 ≤ m := by omega
  have hn4 : m ≤ 4 := by omega
  have HN := Lib.hid nA
  have HS := Lib.hid (show (sg l).length = m by rw [← nA, cA_len])
  obtain ⟨ba, oa, rfl, hba, hcA⟩ : ∃ bb off, a = some ⟨bb, off, none⟩ ∧ bb < w1.heap.size ∧ IntsAt w1 bb off (cA l) := by
    rcases I1.2 with q | ⟨bb, off, q1, q2, q3⟩
    · omega
    · exact ⟨bb, off, q1, q2, q3⟩
  obtain ⟨bb, ob, rfl, hbb, hcB⟩ : ∃ bb off, b = some ⟨bb, off, none⟩ ∧ bb < w1.heap.size ∧ IntsAt w1 bb off (cB l) := by
    rcases I2.2 with q | ⟨bb, off, q1, q2, q3⟩
    · omega
    · exact ⟨bb, off, q1, q2, q3⟩
  have x1 : c ≤ 9223372036854775807 := h2
  have x2 : c' ≤ 9223372036854775807 := h4
  have HCA := Lib.hid hcA
  have HCB := Lib.hid hcB
  have B1 := Lib.hid b1
  have J1 := Lib.hid I1
  have J2 := Lib.hid I2
  clear hp hp' eA eC I1 I2 b1 g1 g2 g3 g4 g5 nA nB hcA hcB
  have RV := Lib.hid (rkV_yes2 HP.out)
  go_wp2_with fail
  go_loopw [6, 7, 8] (fun vr vf vi wr => ∃ (k : Nat), vr = .int .i64 ((hs (cA l) (cB l) (dR l) k : Nat) : Int) ∧ vf = .int .i64 ((off9 l k : Nat) : Int) ∧ vi = .int .i64 k ∧ k ≤ m ∧ ∃ d, wr = w1.drewN d) (fun _ _ vi _ => (m - intOf vi).toNat)
  case atStart => exact ⟨0, rfl, rfl, rfl, Nat.zero_le _, 0, rfl⟩
  case round =>
    obtain ⟨k, rfl, rfl, rfl, hk, d, hwr⟩ := hrel
    have HW := Lib.hid hwr
    by_cases hlt : k < m
    · obtain ⟨α, β, τ, δ, ν, hα, hβ, ha6, hb6, r1, r2, r3, r4, r5, r6, ht9, hd9, hν, hν9, hs, hs9⟩ := rank_step2 HP.out (k := k) (by rw [HN.out]; exact hlt)
      obtain ⟨p1, p2⟩ := sg_part (l := l) (k := k) (by rw [HS.out]; exact hlt)
      have p3 := off9_succ l k
      have u0 : wr.cell? ⟨ba, oa + k, none⟩ = some (.int .i64 α) := by rw [hwr, cell_drewN, ← hα]; exact HCA.out k (by rw [HN.out]; exact hlt)
      have u1 : wr.cell? ⟨bb, ob + k, none⟩ = some (.int .i64 β) := by rw [hwr, cell_drewN, ← hβ]; exact HCB.out k (by have := J2.out.1; omega)
      rw [hν]
      obtain ⟨P, hP⟩ : ∃ P, gS (sg l) k = P := ⟨_, rfl⟩
      obtain ⟨f, hf⟩ : ∃ f, off9 l k = f := ⟨_, rfl⟩
      rw [hP] at r1 r2 r3 r4 r5 p1 p2 p3
      rw [hf] at p1 p2 p3 ⊢
      rw [r4] at p1 p2 p3
      have R1 := Lib.hid r1
      have R2 := Lib.hid r2
      have R3 := Lib.hid r3
      have R5 := Lib.hid r5
      have S9 := Lib.hid hs
      have F9 := Lib.hid p3
      have Q4 := Lib.hid (show ((pd (cA l) (cB l) (k + 1) (m - (k + 1)) : Nat) : Int) = (τ : Int) by rw [← HN.out, ← r6]; rfl)
      have m9 : δ * τ ≤ 728933458176 := by omega
      obtain ⟨μ, hμ⟩ : ∃ μ, δ * τ = μ := ⟨_, rfl⟩
      rw [hμ] at hs9 m9
      have M9 := Lib.hid hμ
      have CM := fun W => cut_mid W l f (f + (α + β)) (α + β) (f : Int) ((f : Int) + (α : Int) + (β : Int)) P rfl (by omega) rfl (by omega) p1
      have a2 : (δ : Int) * (τ : Int) = (μ : Int) := by rw [← hμ]; rfl
      have a3 : IntKind.i64.wrap ((δ : Int) * (τ : Int)) = (μ : Int) := by rw [a2, IntWalk.i64_in _ (by omega)]
      have a4 : IntKind.i64.wrap ((ν : Int) + (μ : Int)) = ((ν + μ : Nat) : Int) := by rw [IntWalk.i64_in _ (by omega)]; omega
      have a5 : IntKind.i64.wrap ((f : Int) + (α : Int)) = (f : Int) + (α : Int) := IntWalk.i64_in _ (by omega)
      have a6 : IntKind.i64.wrap ((f : Int) + (α : Int) + (β : Int)) = (f : Int) + (α : Int) + (β : Int) := IntWalk.i64_in _ (by omega)
      have a7 : IntKind.i64.wrap ((f : Int) + (α : Int) + (β : Int) + 1) = (f : Int) + (α : Int) + (β : Int) + 1 := IntWalk.i64_in _ (by omega)
      have a8 : IntKind.i64.wrap ((k : Int) + 1) = ((k + 1 : Nat) : Int) := by rw [IntWalk.i64_in _ (by omega)]; omega
      have i1 : (k : Int) < (m : Int) := by omega
      have i2 : (0 : Int) ≤ (k : Int) := by omega
      have i3 : (k : Int) + 1 ≤ (m : Int) := by omega
      clear hα hβ r1 r2 r3 r4 r5 r6 hν hs hP hf hwr hμ p1 p3
      go_wp2_with fail
      go_quiet (fail)
      go_wp2_with fail
      obtain ⟨wq, hwq⟩ : ∃ wq, wr.drewN nq = wq := ⟨_, rfl⟩
      have v0 : wq.cell? ⟨ba, oa + k, none⟩ = some (.int .i64 α) := by rw [← hwq, cell_drewN]; exact u0
      have v1 : wq.cell? ⟨bb, ob + k, none⟩ = some (.int .i64 β) := by rw [← hwq, cell_drewN]; exact u1
      have HW2 := Lib.hid (show wq = w1.drewN (d + nq) by rw [← hwq, HW.out, World.drewN_drewN])
      rw [hwq]
      clear u0 u1 hwq CM HW
      go_quiet (first | (go_at_call 42; exact Calls.quiet_of_same (l24Rank_any P α β δ R1.out R2.out R3.out ha6 hb6 R5.out _)) | (go_at_call 34; exact Calls.quiet_of (l24Count_i _ _ _ _ _ _ (cA l) (cB l) _ h1 h2 h3 h4 (by rw [HW2.out]; exact ints_drewN (ints_drewN J1.out _) _) (by rw [HW2.out]; exact ints_drewN (ints_drewN J2.out _) _) _ (k + 1) (by first | rfl | exact a8 | simp) hlt OK.out τ Q4.out)))
      go_wp2_with fail
      obtain ⟨wp, hwp⟩ : ∃ wp, wq.drewN nq = wp := ⟨_, rfl⟩
      have v2 : wp.cell? ⟨ba, oa + k, none⟩ = some (.int .i64 α) := by rw [← hwp, cell_drewN]; exact v0
      have v3 : wp.cell? ⟨bb, ob + k, none⟩ = some (.int .i64 β) := by rw [← hwp, cell_drewN]; exact v1
      have HW3 := Lib.hid (show ∃ e, wp = w1.drewN e from ⟨_, by rw [← hwp, HW2.out, World.drewN_drewN]⟩)
      rw [hwp]
      clear v0 v1 hwp HW2
      go_quiet (fail)
      go_wp2_with fail
      go_roundw
      case rel =>
        obtain ⟨e, he⟩ := HW3.out
        exact ⟨k + 1, by first | (rw [S9.out, M9.out]; done) | (rw [S9.out, M9.out]; rfl), by first | (rw [F9.out]; done) | (rw [F9.out]; rfl) | (rw [F9.out]; congr 1; omega), by go_num, by omega, e + nq, by rw [he, World.drewN_drewN]⟩
      case measure => simp [intOf]; omega
    · obtain rfl : k = m := by omega
      have i1 : ¬ (k : Int) < (k : Int) := by omega
      have E := Lib.hid (show ((hs (cA l) (cB l) (dR l) k : Nat) : Int) = rkV l by rw [RV.out, HN.out])
      clear hwr
      go_wp2_with fail
      go_ret
      exact ⟨by rw [← E.out]; rfl, by rw [HW.out]; exact below_drewN B1.out d⟩
end Go.Proofs.YtjiffbddgbigcaaDoor
