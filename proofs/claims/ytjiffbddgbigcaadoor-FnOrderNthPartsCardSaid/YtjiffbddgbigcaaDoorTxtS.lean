/- The text of a part: l24Text. -/
import Derived.Test.YtjiffbddgbigcaaDoorStrs
import Derived.Test.YtjiffbddgbigcaaDoorChoC
namespace Go.Proofs.YtjiffbddgbigcaaDoor
open Go.RowKit
set_option linter.unusedVariables false
set_option linter.unusedSimpArgs false

theorem l24Choose_n (s t : Int) (a b : Nat) (hs : s = (a : Int)) (ht : t = (b : Int)) (hab : a + b ≤ 12) (w : World) : Calls Tryd.prog 47 #[.int .i64 s, .int .i64 t] w fun e w' => e = .returned (.int .i64 ((ch a b : Nat) : Int)) ∧ w' = w := by
  subst hs ht; exact l24Choose_any a b hab w
set_option maxHeartbeats 800000 in
theorem l24Text_any (a b n : Nat) (ha : a ≤ 6) (hb : b ≤ 6) (hn : n < ch a b) (w : World) :
    Calls Tryd.prog 35 #[.int .i64 a, .int .i64 b, .int .i64 n] w fun e w' => e = .returned (.string (bs (txt (a + b) a b n))) ∧ w' = w := by
  have HN0 := Lib.hid hn
  clear hn
  go_enter Tryd.func35, Tryd.ntmps35
  go_wp2_with fail
  go_loop [0, 1, 2, 7] (fun va vb vn o => ∃ (p : List UInt8) (a' b' n' : Nat), va = .int .i64 a' ∧ vb = .int .i64 b' ∧ vn = .int .i64 n' ∧ o = .string (bs p) ∧ a' ≤ a ∧ b' ≤ b ∧ p.length + (a' + b') = a + b ∧ Hid (n' < ch a' b') ∧ Hid (p ++ txt (a' + b') a' b' n' = txt (a + b) a b n)) (fun va vb _ _ => (intOf va).toNat + (intOf vb).toNat)
  case atStart => exact ⟨[], a, b, n, rfl, rfl, rfl, rfl, Nat.le_refl _, Nat.le_refl _, by simp, HN0.out, rfl⟩
  case round =>
    obtain ⟨p, a', b', n', rfl, rfl, rfl, rfl, h1, h2, hp, HN, HT⟩ := hrel
    have hch : ch a' b' ≤ 924 := ch_bd a' (by omega) b' (by omega)
    have n9 : n' < 924 := Nat.lt_of_lt_of_le HN.out hch
    have a0 : IntKind.i64.wrap ((a' : Int) + (b' : Int)) = (a' : Int) + (b' : Int) := IntWalk.i64_in _ (by omega)
    have A1 := run_bs_add Tryd.prog w p [97] (by simp; omega)
    have A2 := run_bs_add Tryd.prog w p [98] (by simp; omega)
    have e1 : bs [97] = ⟨#[97]⟩ := rfl
    have e2 : bs [98] = ⟨#[98]⟩ := rfl
    rw [e1] at A1
    rw [e2] at A2
    clear e1 e2 hch
    by_cases hz : a' + b' = 0
    · have i1 : ¬ (0 : Int) < (a' : Int) + (b' : Int) := by omega
      have E := Lib.hid (show p = txt (a + b) a b n by have := HT.out; rw [hz, txt_zero, List.append_nil] at this; exact this)
      clear HN HT A1 A2 hz
      go_wp2_with fail
      go_ret
      exact ⟨by rw [E.out]; rfl, rfl⟩
    · have i1 : (0 : Int) < (a' : Int) + (b' : Int) := by omega
      obtain ⟨m, hm⟩ : ∃ m, m + 1 = a' + b' := ⟨a' + b' - 1, by omega⟩
      have a3 : IntKind.i64.wrap ((b' : Int) - 1) = (b' : Int) - 1 := IntWalk.i64_in _ (by omega)
      rcases txt_cases hm HN.out with ⟨c, e, f1, f2, f3⟩ | ⟨c, e, f0, f1, f2, f3⟩
      · have T := Lib.hid (show (p ++ [97]) ++ txt (c + b') c b' n' = txt (a + b) a b n by rw [← HT.out, ← hm, f3, f2]; simp)
        have F1 := Lib.hid f1
        have i2 : (0 : Int) < (a' : Int) := by omega
        have i3 : (n' : Int) < ((ch c b' : Nat) : Int) := by omega
        have a1 : IntKind.i64.wrap ((a' : Int) - 1) = (a' : Int) - 1 := IntWalk.i64_in _ (by omega)
        have HE := Lib.hid e
        clear f1 f2 f3 HT HN A2 e
        go_wp2_with fail
        refine (l24Choose_n _ _ c b' (by have := HE.out; omega) rfl (by have := HE.out; omega) _).mono ?_
        rintro e _ ⟨rfl, rfl⟩
        go_wp2_with fail
        go_round
        case rel => exact ⟨p ++ [97], c, b', n', by have := HE.out; congr 1; omega, rfl, rfl, rfl, by have := HE.out; omega, h2, by have := HE.out; simp; omega, F1.out, T.out⟩
        case measure => have := HE.out; simp [intOf]; omega
      · obtain ⟨k, hk⟩ : ∃ k, n' - (if 0 < a' then ch (a' - 1) b' else 0) = k := ⟨_, rfl⟩
        rw [hk] at f1 f3
        have T := Lib.hid (show (p ++ [98]) ++ txt (a' + c) a' c k = txt (a + b) a b n by rw [← HT.out, ← hm, f3, f2]; simp)
        have F1 := Lib.hid f1
        have HE := Lib.hid e
        clear f1 f2 f3 HT HN A1 e
        by_cases hq : 0 < a'
        · rw [if_pos hq] at f0 hk
          have i2 : (0 : Int) < (a' : Int) := by omega
          obtain ⟨d, hd⟩ : ∃ d, a' - 1 = d := ⟨_, rfl⟩
          rw [hd] at f0 hk
          have i3 : ¬ (n' : Int) < ((ch d b' : Nat) : Int) := by omega
          have a1 : IntKind.i64.wrap ((a' : Int) - 1) = (a' : Int) - 1 := IntWalk.i64_in _ (by omega)
          have a2 : IntKind.i64.wrap ((n' : Int) - ((ch d b' : Nat) : Int)) = (k : Int) := by rw [IntWalk.i64_in _ (by omega)]; omega
          have HD := Lib.hid hd
          clear hk f0 hd
          go_wp2_with fail
          refine (l24Choose_n _ _ d b' (by have := HD.out; omega) rfl (by have := HD.out; omega) _).mono ?_
          rintro e _ ⟨rfl, rfl⟩
          go_wp2_with fail
          go_round
          case rel => exact ⟨p ++ [98], a', c, k, rfl, by have := HE.out; congr 1; omega, by first | rfl | rw [a2] | (congr 1; omega), rfl, h1, by have := HE.out; omega, by have := HE.out; simp; omega, F1.out, T.out⟩
          case measure => have := HE.out; simp [intOf]; omega
        · rw [if_neg hq, Nat.sub_zero] at hk
          subst hk
          have i2 : ¬ (0 : Int) < (a' : Int) := by omega
          have i3 : ¬ (n' : Int) < 0 := by omega
          have a2 : IntKind.i64.wrap ((n' : Int) - 0) = (n' : Int) := by rw [IntWalk.i64_in _ (by omega)]; omega
          clear f0
          go_wp2_with fail
          go_round
          case rel => exact ⟨p ++ [98], a', c, n', rfl, by have := HE.out; congr 1; omega, by first | rfl | rw [a2] | (congr 1; omega), rfl, h1, by have := HE.out; omega, by have := HE.out; simp; omega, F1.out, T.out⟩
          case measure => have := HE.out; simp [intOf]; omega
end Go.Proofs.YtjiffbddgbigcaaDoor
