/- Contracts over slices of waters. -/
import Derived.Test.YtkblbppemjnpdaaPairs
import Derived.Test.YtkblbppemjnpdaaWaterB
import Derived.StillTailTactics
namespace Go.Proofs.Ytkblbppemjnpdaa
open Go.RowKit
set_option linter.unusedVariables false

def eqPB (a b c d : Int) : Bool := decide (a = c ∧ b = d)
theorem eqPB_self (a b : Int) : eqPB a b a b = true := by unfold eqPB; simp

/-- A new slice of pairs. -/
def NewPrs (w : World) (len : Nat) (L : List (Int × Int)) (e : Ending) (w' : World) : Prop :=
  ∃ g : Nat, e = .returned (.slice (some ⟨g, 0, none⟩) len len) ∧ L.length = len ∧ OwnF w' g len (pr L) ∧ w.heap.size ≤ g ∧ Below w.heap.size w w'

theorem infoWater : (Try.prog.info? 25).map (fun i => (i.zero, i.size, i.bytes)) = some (some (.agg #[.int .i64 0, .int .i64 0]), 2, 16) := by kernel_rfl

theorem eqWater_any (a b c d : Int) (w : World) : Calls Try.prog 25 #[.agg #[.int .i64 a, .int .i64 b], .agg #[.int .i64 c, .int .i64 d]] w fun e w' => e = .returned (.bool (eqPB a b c d)) ∧ Below w.heap.size w w' := by
  by_cases h1 : a = c
  · subst h1
    have t1 : (a != a) = false := by simp
    by_cases h2 : b = d
    · subst h2
      have t2 : (b != b) = false := by simp
      have e : eqPB a b a b = true := by unfold eqPB; simp
      rw [e]; clear e
      go_enter Try.func25, Try.ntmps25
      go_wp2_with fail
      go_ret
      exact ⟨rfl, ((Below.refl _ _).alloc (Nat.le_refl _) _).alloc (by simp) _⟩
    · have t2 : (b != d) = true := by simpa using h2
      have e : eqPB a b a d = false := by unfold eqPB; simp [h2]
      rw [e]; clear e h2
      go_enter Try.func25, Try.ntmps25
      go_wp2_with fail
      go_ret
      exact ⟨rfl, ((Below.refl _ _).alloc (Nat.le_refl _) _).alloc (by simp) _⟩
  · have t1 : (a != c) = true := by simpa using h1
    have e : eqPB a b c d = false := by unfold eqPB; simp [h1]
    rw [e]; clear e h1
    go_enter Try.func25, Try.ntmps25
    go_wp2_with fail
    go_ret
    exact ⟨rfl, ((Below.refl _ _).alloc (Nat.le_refl _) _).alloc (by simp) _⟩

theorem szWaterS_any (a : Option Addr) (len cap : Nat) (left : Int) (w : World) (hlc : len ≤ cap) (hm : cap ≤ maxLen) (h0 : 0 ≤ left) (h1 : left ≤ 1048576) :
    Calls Try.prog 21 #[.slice a len cap, .int .i64 left] w fun e w' => e = .returned (.int .i64 (if left < len then -1 else left - len)) ∧ w = w' := by
  unfold maxLen at hm
  by_cases h : left < len
  · rw [if_pos h]
    go_enter Try.func21, Try.ntmps21
    go_wp2_with fail
    go_ret
    exact ⟨rfl, rfl⟩
  · rw [if_neg h]
    go_enter Try.func21, Try.ntmps21
    go_wp2_with fail
    go_ret
    exact ⟨rfl, rfl⟩

set_option maxHeartbeats 800000 in
theorem toWaterS_any (a : Option Addr) (len cap : Nat) (L : List (Int × Int)) (w : World) (hlc : len ≤ cap) (hm : cap ≤ maxLen) (h20 : len ≤ 1048576) (h : Prs w a len L) :
    Calls Try.prog 23 #[.slice a len cap] w (NewPrs w len L) := by
  obtain ⟨i0, hi, hz0, hz1, hz2⟩ := info_parts infoWater
  obtain ⟨hL, h2⟩ := h
  have hm' := hm
  unfold maxLen at hm'
  have HL := Lib.hid hL
  clear hL
  have main : ∀ b off : Nat, a = some ⟨b, off, none⟩ ∧ b < w.heap.size ∧ PrsAt w b off L ∨ len = 0 → Calls Try.prog 23 #[.slice a len cap] w (NewPrs w len L) := by
    intro b off hp
    have HP := Lib.hid hp
    clear hp
    go_enter Try.func23, Try.ntmps23
    go_wp2_with (refine wpList_make_full _ rfl _ _ 35 rfl w.heap.size 25 i0 (.agg #[.int .i64 0, .int .i64 0]) 2 Try.underlying35 hi hz0 hz1 .i64 .i64 _ _ len rfl rfl rfl rfl (by rw [hz2]; omega) (by unfold maxLen; omega) (Nat.le_refl _) ?_; intro w1 hown hgrow)
    have O0 := own_made hown (own_lt hown)
    have B0 := (Below.refl w.heap.size w).grown hgrow (Nat.le_refl _) (by simp)
    clear hown hgrow
    go_wp2_with fail
    go_loopw [4] (fun i wr => ∃ k : Nat, i = .int .i64 k ∧ k ≤ len ∧ OwnF wr w.heap.size len (fun j => if j < k then pr L j else (0, 0)) ∧ Below w.heap.size w wr) (fun i _ => len - (intOf i).toNat)
    case atStart => exact ⟨0, rfl, Nat.zero_le _, O0.congr (fun i _ => by simp), B0⟩
    case round =>
      obtain ⟨k, rfl, hk, O, B⟩ := hrel
      by_cases hlt : k < len
      · rcases HP.out with ⟨rfl, hb, hc⟩ | h0
        · obtain ⟨c0, c1⟩ := hc k (by rw [HL.out]; exact hlt)
          have e0 := (B.cell (p := ⟨b, off + k * 2, none⟩) hb).trans c0
          have e1 := (B.cell (p := ⟨b, off + k * 2 + 1, none⟩) hb).trans c1
          clear c0 c1 hc O0 B0
          have HO := Lib.hid O
          have HB := Lib.hid B
          clear O B
          go_wp2_with fail
          refine (toWater_any _ _ _).mono ?_
          rintro e w2 ⟨rfl, b2⟩
          have O2 := HO.out.below b2
          have B2 := Below.step0 HB.out b2
          obtain ⟨q1, q2, q3, q4⟩ := O2.2 k hlt
          have HO2 := Lib.hid O2
          have HB2 := Lib.hid B2
          clear O2 B2 b2 HO HB e0 e1
          go_wp2_with fail
          go_roundw
          case rel =>
            refine ⟨k + 1, by go_num, by omega, (HO2.out.set k (pr L k)).congr (fun j hj => ?_), (HB2.out.setCell (Nat.le_refl _) _).setCell (Nat.le_refl _) _⟩
            by_cases e : j = k
            · subst e; rw [if_pos rfl, if_pos (by omega)]
            · rw [if_neg e]
              by_cases e2 : j < k
              · rw [if_pos e2, if_pos (by omega)]
              · rw [if_neg e2, if_neg (by omega)]
          case measure => simp [intOf]; omega
        · omega
      · have HO := Lib.hid O
        have HB := Lib.hid B
        clear O B O0 B0
        go_wp2_with fail
        go_ret
        exact ⟨w.heap.size, rfl, HL.out, HO.out.congr (fun j hj => by rw [if_pos (by omega)]), Nat.le_refl _, HB.out⟩
  rcases h2 with h2 | ⟨b, off, e, hb, hc⟩
  · exact main 0 0 (.inr h2)
  · exact main b off (.inl ⟨e, hb, hc⟩)

set_option maxHeartbeats 800000 in
theorem eqWaterS_same (a a' : Option Addr) (len cap cap' : Nat) (L : List (Int × Int)) (w : World) (hlc : len ≤ cap) (hm : cap ≤ maxLen) (h : Prs w a len L) (h' : Prs w a' len L) :
    Calls Try.prog 26 #[.slice a len cap, .slice a' len cap'] w fun e w' => e = .returned (.bool true) ∧ Below w.heap.size w w' := by
  obtain ⟨hL, h2⟩ := h
  obtain ⟨_, h3⟩ := h'
  have hm' : cap ≤ 9223372036854775807 := hm
  have HL := Lib.hid hL
  clear hL
  have t0 : ((len : Int) != (len : Int)) = false := by simp
  have main : ∀ b off b' off' : Nat, (a = some ⟨b, off, none⟩ ∧ a' = some ⟨b', off', none⟩ ∧ b < w.heap.size ∧ b' < w.heap.size ∧ PrsAt w b off L ∧ PrsAt w b' off' L) ∨ len = 0 → Calls Try.prog 26 #[.slice a len cap, .slice a' len cap'] w fun e w' => e = .returned (.bool true) ∧ Below w.heap.size w w' := by
    intro b off b' off' hp
    have HP := Lib.hid hp
    clear hp
    go_enter Try.func26, Try.ntmps26
    go_wp2_with fail
    go_loopw [5] (fun i wr => ∃ k : Nat, i = .int .i64 k ∧ k ≤ len ∧ Below w.heap.size w wr) (fun i _ => len - (intOf i).toNat)
    case atStart => exact ⟨0, rfl, Nat.zero_le _, Below.refl _ _⟩
    case round =>
      obtain ⟨k, rfl, hk, B⟩ := hrel
      by_cases hlt : k < len
      · rcases HP.out with ⟨rfl, rfl, hb, hb', hc, hc'⟩ | h0
        · obtain ⟨c0, c1⟩ := hc k (by rw [HL.out]; exact hlt)
          obtain ⟨d0, d1⟩ := hc' k (by rw [HL.out]; exact hlt)
          have e0 := (B.cell (p := ⟨b, off + k * 2, none⟩) hb).trans c0
          have e1 := (B.cell (p := ⟨b, off + k * 2 + 1, none⟩) hb).trans c1
          have g0 := (B.cell (p := ⟨b', off' + k * 2, none⟩) hb').trans d0
          have g1 := (B.cell (p := ⟨b', off' + k * 2 + 1, none⟩) hb').trans d1
          have nk : (k : Int) < (len : Int) := by omega
          have n0 : (0 : Int) ≤ (k : Int) := by omega
          clear c0 c1 d0 d1 hc hc'
          have HB := Lib.hid B
          clear B
          go_wp2_with fail
          go_still_tail 8, (by kernel_rfl)
          change wpList _ _ _ _ _ wr.drew
          go_wp2_with fail
          refine (eqWater_any _ _ _ _ _).mono ?_
          rintro e w2 ⟨rfl, b2⟩
          rw [eqPB_self]
          have B2 := Lib.hid (Below.step0 HB.out (Below.und b2))
          clear b2 HB e0 e1 g0 g1
          go_wp2_with fail
          go_roundw
          case rel => exact ⟨k + 1, by go_num, by omega, B2.out⟩
          case measure => simp [intOf]; omega
        · omega
      · have HB := Lib.hid B
        clear B
        go_wp2_with fail
        go_ret
        exact ⟨rfl, HB.out⟩
  rcases h2 with h2 | ⟨b, off, e, hb, hc⟩
  · exact main 0 0 0 0 (.inr h2)
  · rcases h3 with h3 | ⟨b', off', e', hb', hc'⟩
    · exact main 0 0 0 0 (.inr h3)
    · exact main b off b' off' (.inl ⟨e, e', hb, hb', hc, hc'⟩)
end Go.Proofs.Ytkblbppemjnpdaa
