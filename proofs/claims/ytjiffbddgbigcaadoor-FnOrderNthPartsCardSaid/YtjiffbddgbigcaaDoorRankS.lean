/- The rank of a part: l24Rank. -/
import Derived.Test.YtjiffbddgbigcaaDoorRkP
import Derived.Test.YtjiffbddgbigcaaDoorTxtS
import Derived.Test.YtjiffbddgbigcaaDoorIdxAt
namespace Go.Proofs.YtjiffbddgbigcaaDoor
open Go.RowKit
set_option linter.unusedVariables false
set_option linter.unusedSimpArgs false

theorem l24Choose_m (s t : Int) (a b v : Nat) (hs : s = (a : Int)) (ht : t = (b : Int)) (hab : a + b ≤ 12) (hv : ch a b = v) (w : World) : Calls Tryd.prog 47 #[.int .i64 s, .int .i64 t] w fun e w' => e = .returned (.int .i64 (v : Int)) ∧ w' = w := by
  subst hv; exact l24Choose_n s t a b hs ht hab w
set_option maxHeartbeats 1600000 in
theorem l24Rank_any (s : List UInt8) (a b R : Nat) (hs : ab s = true) (ha : s.count 97 = a) (hb : s.count 98 = b) (ha6 : a ≤ 6) (hb6 : b ≤ 6) (hR : rk s a b = R) (w : World) :
    Calls Tryd.prog 42 #[.string (bs s), .int .i64 a, .int .i64 b] w fun e w' => e = .returned (.int .i64 (R : Int)) ∧ w' = w := by
  have hlen : s.length ≤ 12 := by have := (ab_count s).2.mpr hs; omega
  have jb : ((bs s).size : Int) = (s.length : Int) := by rw [bs_size]
  have hRb : R ≤ 924 := by
    have h1 := (rk_good s a b hs ha hb).1
    have h2 := ch_bd a (by omega) b (by omega)
    omega
  have S0 := Lib.hid (show RkI s R 0 a b 0 by subst ha hb hR; exact RkI.start hs)
  clear hs ha hb hR
  go_enter Tryd.func42, Tryd.ntmps42
  go_wp2_with fail
  go_loop [1, 2, 7, 8] (fun va vb n i => ∃ k α β ρ : Nat, i = .int .i64 k ∧ va = .int .i64 α ∧ vb = .int .i64 β ∧ n = .int .i64 ρ ∧ α ≤ 6 ∧ β ≤ 6 ∧ ρ ≤ R ∧ Hid (RkI s R k α β ρ) ∧ k ≤ s.length) (fun _ _ _ i => (s.length - intOf i).toNat)
  case atStart => exact ⟨0, a, b, 0, rfl, rfl, rfl, rfl, ha6, hb6, Nat.zero_le _, S0.out, Nat.zero_le _⟩
  case round =>
    obtain ⟨k, α, β, ρ, rfl, rfl, rfl, rfl, hα, hβ, hρ, SI, hk⟩ := hrel
    by_cases hlt : k < s.length
    · have i1 : (k : Int) < ((bs s).size : Int) := by rw [jb]; omega
      have i2 : (k : Int) + 1 ≤ (s.length : Int) := by omega
      have IX := fun V => idx_at V s k hlt
      have w9 : IntKind.i64.wrap ((k : Int) + 1) = (k : Int) + 1 := IntWalk.i64_in _ (by omega)
      rcases SI.out.letter hlt with hc | hc
      · rw [hc] at IX
        have IX' : ∀ V : World, (Instr.index 9 (.string (bs s)) (.int .i64 (k : Int))).run Tryd.prog V = .ok (.int .u8 97) V := IX
        obtain ⟨α', rfl, S1⟩ := SI.out.a hlt hc
        have HS := Lib.hid S1
        have w1 : IntKind.i64.wrap (((α' + 1 : Nat) : Int) - 1) = (α' : Int) := by rw [IntWalk.i64_in _ (by omega)]; omega
        clear IX SI S1 hc S0 jb
        go_wp2_with fail
        go_round
        case rel => exact ⟨k + 1, α', β, ρ, by go_num, by first | rfl | rw [w1] | (congr 1; omega), rfl, rfl, by omega, hβ, hρ, HS.out, by omega⟩
        case measure => simp [intOf]; omega
      · rw [hc] at IX
        have IX' : ∀ V : World, (Instr.index 9 (.string (bs s)) (.int .i64 (k : Int))).run Tryd.prog V = .ok (.int .u8 98) V := IX
        obtain ⟨β', rfl, S1⟩ := SI.out.b hlt hc
        have w1 : IntKind.i64.wrap (((β' + 1 : Nat) : Int) - 1) = (β' : Int) := by rw [IntWalk.i64_in _ (by omega)]; omega
        by_cases hz : 0 < α
        · rw [if_pos hz] at S1
          obtain ⟨α', rfl⟩ : ∃ α', α = α' + 1 := ⟨α - 1, by omega⟩
          rw [Nat.add_sub_cancel] at S1
          obtain ⟨τ, hτ⟩ : ∃ τ, ch α' (β' + 1) = τ := ⟨_, rfl⟩
          rw [hτ] at S1
          have hτ9 : ρ + τ ≤ R := by obtain ⟨_, _, _, _, h5⟩ := S1; omega
          have HT := Lib.hid hτ
          have HS := Lib.hid S1
          have i3 : (0 : Int) < ((α' + 1 : Nat) : Int) := by omega
          have w2 : IntKind.i64.wrap (((α' + 1 : Nat) : Int) - 1) = (α' : Int) := by rw [IntWalk.i64_in _ (by omega)]; omega
          have w4 : IntKind.i64.wrap ((ρ : Int) + (τ : Int)) = ((ρ + τ : Nat) : Int) := by rw [IntWalk.i64_in _ (by omega)]; omega
          clear IX SI S1 hc S0 jb hτ
          go_wp2_with fail
          refine (l24Choose_m _ _ α' (β' + 1) τ (by first | rfl | exact w2 | omega) rfl (by omega) HT.out _).mono ?_
          rintro e _ ⟨rfl, rfl⟩
          go_wp2_with fail
          go_round
          case rel => exact ⟨k + 1, α' + 1, β', ρ + τ, by go_num, rfl, by first | rfl | rw [w1] | (congr 1; omega), by first | rfl | rw [w4] | (congr 1; omega), hα, by omega, by omega, HS.out, by omega⟩
          case measure => simp [intOf]; omega
        · rw [if_neg hz] at S1
          have HS := Lib.hid S1
          have i3 : ¬ (0 : Int) < (α : Int) := by omega
          clear IX SI S1 hc S0 jb
          go_wp2_with fail
          go_round
          case rel => exact ⟨k + 1, α, β', ρ, by go_num, rfl, by first | rfl | rw [w1] | (congr 1; omega), rfl, hα, by omega, hρ, HS.out, by omega⟩
          case measure => simp [intOf]; omega
    · obtain rfl : k = s.length := by omega
      have E := Lib.hid SI.out.done
      have i1 : ¬ ((s.length : Nat) : Int) < ((bs s).size : Int) := by rw [jb]; omega
      clear SI S0
      go_wp2_with fail
      go_ret
      exact ⟨by first | (rw [E.out]; rfl) | rfl | rw [E.out], rfl⟩
end Go.Proofs.YtjiffbddgbigcaaDoor
