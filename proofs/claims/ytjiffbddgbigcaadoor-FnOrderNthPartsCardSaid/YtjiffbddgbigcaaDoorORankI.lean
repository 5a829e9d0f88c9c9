/- impl.OrderRank. -/
import Derived.Test.YtjiffbddgbigcaaDoorRankI
import Derived.Test.YtjiffbddgbigcaaDoorGenS
import Derived.Test.YtjiffbddgbigcaaDoorOrdP
import Derived.Test.YtjiffbddgbigcaaDoorNthI
namespace Go.Proofs.YtjiffbddgbigcaaDoor
open Go.RowKit
set_option linter.unusedVariables false
set_option linter.unusedSimpArgs false

set_option maxHeartbeats 3200000 in
theorem implRank_any (l : List UInt8) (hl : l.length ≤ 1048576) (w : World) :
    Calls Tryd.prog 14 #[.string (bs l)] w fun e w' => e = .returned (.int .i64 (rkV l)) ∧ Below w.heap.size w w' := by
  by_cases hp : prB l = false
  · rw [rkV_no hp]
    go_enter Tryd.func14, Tryd.ntmps14
    go_wp2_with fail
    refine (implParts_any l hl _).mono ?_
    rintro e w1 ⟨a, b, n, m, c, c', rfl, h1, h2, h3, h4, I1, I2, b1⟩
    rw [hp]
    have B1 := Lib.hid b1
    clear I1 I2 b1
    go_wp2_with fail
    go_ret
    exact ⟨rfl, B1.out⟩
  have hp' : prB l = true := by simpa using hp
  have HP := Lib.hid hp'
  have hl2 : l.length ≤ 52 := pr_len hp'
  obtain ⟨eA, eC⟩ := prA_yes hp'
  go_enter Tryd.func14, Tryd.ntmps14
  go_wp2_with fail
  refine (implParts_any l hl _).mono ?_
  rintro e w1 ⟨a, b, n, m, c, c', rfl, h1, h2, h3, h4, I1, I2, b1⟩
  rw [hp']
  rw [eA] at I1
  rw [eC] at I2
  have OK := Lib.hid (pr_yes hp').1
  obtain ⟨g1, g2, g3, g4, g5⟩ := ok_true OK.out
  have nA : (cA l).length = n := I1.1
  have nB : (cB l).length = m := I2.1
  obtain rfl : m = n := by omega
  have hn1 : 1 ≤ m := by omega
  have hn4 : m ≤ 4 := by omega
  have HN := Lib.hid nA
  have HS := Lib.hid (show (sg l).length = m by rw [← nA, cA_len])
  obtain ⟨ba, oa, rfl, hba, hcA⟩ : ∃ bb off, a = some ⟨bb, off, none⟩ ∧ bb < w1.heap.size ∧ IntsAt w1 bb off (cA l) := by
    rcases I1.2 with q | ⟨bb, off, q1, q2, q3⟩
    · omega
    · exact ⟨bb, off, q1, q2, q3⟩
  obtain ⟨bb, ob, rfl, hbb, hcB⟩ : ∃ bb off, b = some ⟨bb, off, none⟩ ∧ bb < w1.heap.size ∧ IntsAt w1 bb off (cB l) := by
    rcases I2.2 with q | ⟨bb, off, q1, q2, q3⟩
    · omega
    · exact ⟨bb, off, q1, q2, q3⟩
  have x1 : c ≤ 9223372036854775807 := h2
  have x2 : c' ≤ 9223372036854775807 := h4
  have HCA := Lib.hid hcA
  have HCB := Lib.hid hcB
  have B1 := Lib.hid b1
  have J1 := Lib.hid I1
  have J2 := Lib.hid I2
  clear hp hp' eA eC I1 I2 b1 g1 g2 g3 g4 g5 nA nB hcA hcB
  go_wp2_with fail
  refine (split_any l (by omega) _).mono ?_
  rintro e w2 ⟨g, rfl, O1, hg, b2⟩
  rw [HS.out] at O1 ⊢
  have RO := Lib.hid O1
  have B2 := Lib.hid b2
  have B3 := Lib.hid (Below.step0 B1.out b2)
  have RV := Lib.hid (rkV_yes HP.out)
  clear O1 b2 B1
  go_wp2_with fail
  go_loopw [6, 20] (fun vr vi wr => ∃ (k : Nat), vr = .int .i64 ((hn (cA l) (cB l) (dR l) k : Nat) : Int) ∧ vi = .int .i64 k ∧ k ≤ m ∧ ∃ d, wr = w2.drewN d) (fun _ vi _ => (m - intOf vi).toNat)
  case atStart => exact ⟨0, rfl, rfl, Nat.zero_le _, 0, rfl⟩
  case round =>
    obtain ⟨k, rfl, rfl, hk, d, hwr⟩ := hrel
    have HW := Lib.hid hwr
    by_cases hlt : k < m
    · obtain ⟨α, β, τ, δ, ν, hα, hβ, ha6, hb6, r1, r2, r3, r4, r5, r6, ht9, hd9, hν, hν9, hs, hs9⟩ := rank_step HP.out (k := k) (by rw [HN.out]; exact hlt)
      have u0 : wr.cell? ⟨ba, oa + k, none⟩ = some (.int .i64 α) := by rw [hwr, cell_drewN, ← hα]; exact (B2.out.cell (p := ⟨ba, oa + k, none⟩) hba).trans (HCA.out k (by rw [HN.out]; exact hlt))
      have u1 : wr.cell? ⟨bb, ob + k, none⟩ = some (.int .i64 β) := by rw [hwr, cell_drewN, ← hβ]; exact (B2.out.cell (p := ⟨bb, ob + k, none⟩) hbb).trans (HCB.out k (by have := J2.out.1; omega))
      have u2 : wr.cell? ⟨g, k, none⟩ = some (.string (bs (gS (sg l) k))) := by rw [hwr, cell_drewN]; exact (RO.out.2 k hlt).1
      rw [hν]
      obtain ⟨P, hP⟩ : ∃ P, gS (sg l) k = P := ⟨_, rfl⟩
      rw [hP] at r1 r2 r3 r4 r5 u2
      have R1 := Lib.hid r1
      have R2 := Lib.hid r2
      have R3 := Lib.hid r3
      have R5 := Lib.hid r5
      have R6 := Lib.hid r6
      have S9 := Lib.hid hs
      have m9 : ν * τ ≤ 728933458176 := by omega
      obtain ⟨μ, hμ⟩ : ∃ μ, ν * τ = μ := ⟨_, rfl⟩
      rw [hμ] at hs9 m9
      have M9 := Lib.hid hμ
      have a1 : IntKind.i64.wrap ((α : Int) + (β : Int)) = (α : Int) + (β : Int) := IntWalk.i64_in _ (by omega)
      have a2 : (ν : Int) * (τ : Int) = (μ : Int) := by rw [← hμ]; rfl
      have a3 : IntKind.i64.wrap ((ν : Int) * (τ : Int)) = (μ : Int) := by rw [a2, IntWalk.i64_in _ (by omega)]
      have a4 : IntKind.i64.wrap ((μ : Int) + (δ : Int)) = ((μ + δ : Nat) : Int) := by rw [IntWalk.i64_in _ (by omega)]; omega
      have i1 : (k : Int) < (m : Int) := by omega
      have i2 : (0 : Int) ≤ (k : Int) := by omega
      have i3 : (k : Int) + 1 ≤ (m : Int) := by omega
      clear hα hβ r1 r2 r3 r4 r5 r6 hν hs hP hwr hμ
      go_wp2_with fail
      go_quiet (first | (go_at_call 30; exact Calls.quiet_of_same (choose_c _ _ α β (by first | rfl | exact a1) rfl (by omega) τ R6.out _)) | (go_at_call 37; exact Calls.quiet_of_same (partRank_any P α β δ R1.out R2.out R3.out ha6 hb6 R5.out _)))
      go_wp2_with fail
      go_roundw
      case rel => exact ⟨k + 1, by first | (rw [S9.out, M9.out]; done) | (rw [S9.out, M9.out]; rfl), by go_num, by omega, d + nq, by rw [HW.out, World.drewN_drewN]⟩
      case measure => simp [intOf]; omega
    · obtain rfl : k = m := by omega
      have i1 : ¬ (k : Int) < (k : Int) := by omega
      have E := Lib.hid (show ((hn (cA l) (cB l) (dR l) k : Nat) : Int) = rkV l by rw [RV.out, HN.out])
      clear hwr
      go_wp2_with fail
      go_ret
      exact ⟨by rw [← E.out]; rfl, by rw [HW.out]; exact below_drewN B3.out d⟩
end Go.Proofs.YtjiffbddgbigcaaDoor
