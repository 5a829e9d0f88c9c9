/- slices.Concat at numbers. -/
import Derived.Test.YtjiffbddgbigcaaDoorIntC
import Derived.Lib.AppendZerosOnto
namespace Go.Proofs.YtjiffbddgbigcaaDoor
open Go.RowKit
set_option linter.unusedVariables false
set_option linter.unusedSimpArgs false

set_option maxRecDepth 100000 in
theorem growI_nil (n : Nat) (w : World) (h1 : 1 ≤ n) (hn : n ≤ 3000000) :
    Calls Tryd.prog 57 #[.slice none 0 0, .int .i64 n] w fun e w' => ∃ c : Nat, e = .returned (.slice (some ⟨w.heap.size, 0, none⟩) 0 c) ∧ w'.ownsRow w.heap.size 3 1 (.slice (some ⟨w.heap.size, 0, none⟩) 0 c) 0 [] ∧ n ≤ c ∧ Below w.heap.size w w' := by
  obtain ⟨i0, hi, hz0, hz1, hz2⟩ := info_parts infoInt
  have hold : (Builtin.firstCells i0.size 0 (.slice none 0 0)).run Tryd.prog w.drew = .ok ([] : List Value).toArray w.drew := run_firstCells_none w.drew i0.size 0 0 0
  have hr := fun ty => Lib.run_append_grow_zeros (P := Tryd.prog) w 23 3 ty 3 i0 (.int .i64 0) .i64 .i64 Tryd.underlying23 Tryd.underlying3 hi hz0 none 0 0 [] hold n (by omega) (by rw [hz1]; omega) (by omega) (by omega) (by rw [hz2]; omega) (growslice_fits (by omega) (by rw [hz2]; omega))
  simp only [Nat.zero_add] at hr
  have hG := grownCap_ge w n 0 3
  have hGm := grownCap_le_maxLen w n 0 3 (by unfold maxLen; omega)
  generalize grownCap w n 0 3 = c at *
  have hcm : c ≤ 9223372036854775807 := hGm
  have hown : (w.alloc (.cells (Builtin.zeroCells #[.int .i64 0] n ++ Builtin.zeroCells #[.int .i64 0] (c - n)) 3)).drew.ownsRow w.heap.size 3 1 (.slice (some ⟨w.heap.size, 0, none⟩) 0 c) 0 [] :=
    (World.ownsRow_made (base := w.heap.size) (e := 3) (size := 1) w (Builtin.zeroCells #[.int .i64 0] n ++ Builtin.zeroCells #[.int .i64 0] (c - n)) c (Nat.le_refl _) hGm (by simp [Builtin.zeroCells]; omega)).drew
  have HO := Lib.hid hown
  clear hold hown
  go_enter Tryd.func57, Tryd.ntmps57
  go_wp2_with (at_builtin; refine Lib.wpList_append_run _ rfl _ _ _ _ rfl _ _ rfl rfl _ _ (hr _) ?_)
  all_goals
    go_ret
    exact ⟨c, rfl, HO.out, hG, ((Below.refl _ _).alloc (Nat.le_refl _) _).drew⟩

theorem growI_any (n : Nat) (w : World) (hn : n ≤ 3000000) :
    Calls Tryd.prog 57 #[.slice none 0 0, .int .i64 n] w fun e w' => ∃ v : Value, e = .returned v ∧ w'.ownsRow w.heap.size 3 1 v 0 [] ∧ Below w.heap.size w w' := by
  by_cases h1 : 1 ≤ n
  · refine (growI_nil n w h1 hn).mono ?_
    rintro e w' ⟨c, rfl, o, _, b⟩
    exact ⟨_, rfl, o, b⟩
  · obtain rfl : n = 0 := by omega
    have P := Lib.hid (show ∃ v : Value, Ending.returned (.slice none 0 0) = .returned v ∧ w.ownsRow w.heap.size 3 1 v 0 [] ∧ Below w.heap.size w w from ⟨_, rfl, World.ownsRow_nil _ _ _ _, Below.refl _ _⟩)
    go_enter Tryd.func57, Tryd.ntmps57
    go_wp2_with fail
    go_ret
    exact P.out

/-- A new slice. -/
def OwnInts (w : World) (n : Nat) (L : List Int) (e : Ending) (w' : World) : Prop :=
  ∃ v, e = .returned v ∧ L.length = n ∧ w'.ownsRow w.heap.size 3 1 v n (il L) ∧ Below w.heap.size w w'

theorem OwnInts_src {w : World} {a : Option Addr} {n : Nat} {L : List Int} (h : Ints w a n L) (ha : a ≠ none) : ∃ ad, a = some ad ∧ ∀ j u, (il L)[j]? = some u → w.cell? (ad.add j) = some u := by
  obtain ⟨h1, h2⟩ := h
  cases a with
  | none => exact absurd rfl ha
  | some ad =>
    refine ⟨ad, rfl, ?_⟩
    rcases h2 with h2 | ⟨b, off, e, _, hc⟩
    · have : L = [] := List.eq_nil_of_length_eq_zero (by omega)
      subst this
      intro j u hu
      simp [il] at hu
    · injection e with e
      subst e
      exact ints_news hc

set_option maxHeartbeats 1600000 in
theorem concatI2 (gs : Nat) (a b : Option Addr) (la ca lb cb : Nat) (L M : List Int) (w : World) (h0 : w.cell? ⟨gs, 0, none⟩ = some (.slice a la ca)) (h1 : w.cell? ⟨gs, 1, none⟩ = some (.slice b lb cb))
    (hL : Ints w a la L) (hM : Ints w b lb M) (ha : a ≠ none) (hb : b ≠ none) (hlim : la + lb ≤ 3000000) :
    Calls Tryd.prog 49 #[.slice (some ⟨gs, 0, none⟩) 2 2] w (OwnInts w (la + lb) (L ++ M)) := by
  obtain ⟨i0, hi, hz0, hz1, hz2⟩ := info_parts infoInt
  have hgl := World.block_lt_of_cell? w _ h0
  have H0 := Lib.hid h0
  have H1 := Lib.hid h1
  have HLM : (L ++ M).length = la + lb := by rw [List.length_append, hL.1, hM.1]
  have HLM := Lib.hid HLM
  go_enter Tryd.func49, Tryd.ntmps49
  go_wp2_with fail
  go_loop [3, 5, 11] (fun s _ i => ∃ k : Nat, k ≤ 2 ∧ i = .int .i64 k ∧ s = .int .i64 ((if k = 0 then 0 else if k = 1 then la else la + lb : Nat) : Int)) (fun _ _ i => 2 - (intOf i).toNat)
  case atStart => exact ⟨0, by omega, rfl, rfl⟩
  case round =>
    obtain ⟨k, hk, rfl, rfl⟩ := hrel
    rcases (show k = 0 ∨ k = 1 ∨ k = 2 by omega) with e0 | e1 | e2
    · subst e0
      rw [if_pos rfl]
      go_wp2_with fail
      go_round
      case rel => exact ⟨1, by omega, rfl, by simp⟩
      case measure => simp [intOf]
    · subst e1
      rw [if_neg (by omega), if_pos rfl]
      go_wp2_with fail
      go_round
      case rel => exact ⟨2, by omega, rfl, by simp⟩
      case measure => simp [intOf]
    · subst e2
      rw [if_neg (by omega), if_neg (by omega)]
      go_wp2_with fail
      refine (growI_any (la + lb) _ hlim).mono ?_
      rintro e w1 ⟨v1, rfl, o1, b1⟩
      have HO := Lib.hid o1
      have HB := Lib.hid b1
      clear o1 b1
      go_wp2_with fail
      go_loopw [6, 8, 27] (fun v _ i wr => ∃ k : Nat, k ≤ 2 ∧ i = .int .i64 k ∧ wr.ownsRow w.heap.size 3 1 v (if k = 0 then 0 else if k = 1 then la else la + lb) (il (if k = 0 then [] else if k = 1 then L else L ++ M)) ∧ Below w.heap.size w wr) (fun _ _ i _ => 2 - (intOf i).toNat)
      case atStart => exact ⟨0, by omega, rfl, HO.out, HB.out⟩
      case round =>
        obtain ⟨k, hk, rfl, ro, rb⟩ := hrel
        clear h0 h1
        have h0 := H0.out
        have h1 := H1.out
        rcases (show k = 0 ∨ k = 1 ∨ k = 2 by omega) with e0 | e1 | e2
        · subst e0
          obtain ⟨ad, rfl, hn⟩ := OwnInts_src (hL.below rb) ha
          have g0 := (rb.cell (p := ⟨gs, 0, none⟩) hgl).trans h0
          have ro' : wr.ownsRow w.heap.size 3 1 u6 0 (il []) := ro
          have HB := Lib.hid rb
          have HN := Lib.hid hn
          clear rb ro hn
          go_wp2_with (at_builtin; refine wpList_append_own _ rfl _ _ 23 rfl w.heap.size 3 i0 (.int .i64 0) 1 8 Tryd.underlying23 hi hz0 hz1 hz2 rfl (by decide) _ _ _ rfl ro' ad _ _ (il L) rfl (by rw [il_len, hL.1]; omega) HN.out (il_one _) (by unfold maxLen; omega) (by omega) HB.out.size ?_)
          intro v' w1 o1 g1 _
          have b1 := HB.out.grown g1 HB.out.size (fun j hj => (ro'.lt j hj).1)
          have O1 := Lib.hid o1
          have B1 := Lib.hid b1
          clear o1 g1 b1 ro'
          go_wp2_with fail
          go_roundw
          case rel => exact ⟨1, by omega, by go_num, by simpa [il] using O1.out, B1.out⟩
          case measure => simp [intOf]

        · subst e1
          obtain ⟨ad, rfl, hn⟩ := OwnInts_src (hM.below rb) hb
          have g0 := (rb.cell (p := ⟨gs, 1, none⟩) hgl).trans h1
          have ro' : wr.ownsRow w.heap.size 3 1 u6 la (il L) := ro
          have HB := Lib.hid rb
          have HN := Lib.hid hn
          clear rb ro hn
          go_wp2_with (at_builtin; refine wpList_append_own _ rfl _ _ 23 rfl w.heap.size 3 i0 (.int .i64 0) 1 8 Tryd.underlying23 hi hz0 hz1 hz2 rfl (by decide) _ _ _ rfl ro' ad _ _ (il M) rfl (by rw [il_len, hM.1]; omega) HN.out (il_one _) (by unfold maxLen; omega) (by omega) HB.out.size ?_)
          intro v' w1 o1 g1 _
          have b1 := HB.out.grown g1 HB.out.size (fun j hj => (ro'.lt j hj).1)
          have O1 := Lib.hid o1
          have B1 := Lib.hid b1
          clear o1 g1 b1 ro'
          go_wp2_with fail
          go_roundw
          case rel => exact ⟨2, by omega, by go_num, by rw [if_neg (by omega), if_neg (by omega), if_neg (by omega), if_neg (by omega), il_app]; exact O1.out, B1.out⟩
          case measure => simp [intOf]
        · subst e2
          rw [if_neg (by omega), if_neg (by omega), if_neg (by omega), if_neg (by omega)] at ro
          have HO := Lib.hid ro
          have HB := Lib.hid rb
          clear ro rb h0 h1
          go_wp2_with fail
          go_ret
          exact ⟨_, rfl, HLM.out, HO.out, HB.out⟩
end Go.Proofs.YtjiffbddgbigcaaDoor
