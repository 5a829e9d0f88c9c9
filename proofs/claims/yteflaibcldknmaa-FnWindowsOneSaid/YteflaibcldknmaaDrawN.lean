/- Drawn windows: l92Windows. -/
import Derived.Test.YteflaibcldknmaaWinS
import Derived.Test.YteflaibcldknmaaB1
import Derived.Maps.AppendAt
namespace Go.Proofs.Yteflaibcldknmaa
open Go.RowKit
set_option linter.unusedVariables false
set_option linter.unusedSimpArgs false

/-- Two rows of windows, apart. -/
def Two (B : Nat) (w : World) (v v' : Value) (n m : Nat) (L S : List (Int × Int)) : Prop :=
  w.ownsRow B 35 2 v n (fl L) ∧ w.ownsRow B 35 2 v' m (fl S) ∧ v.ownBlock ≠ v'.ownBlock ∧ v.ownBlock ≠ none ∧ v'.ownBlock ≠ none ∧ L.length = n ∧ S.length = m

theorem Two.kept {B : Nat} {w w' : World} {v v' : Value} {n m : Nat} {L S : List (Int × Int)} (h : Two B w v v' n m L S) {R : Nat} (hg : w.grownBy w' (some R)) (hR : R < B) : Two B w' v v' n m L S :=
  ⟨own_kept h.1 hg hR, own_kept h.2.1 hg hR, h.2.2⟩

theorem Two.alloc {B : Nat} {w : World} {v v' : Value} {n m : Nat} {L S : List (Int × Int)} (h : Two B w v v' n m L S) (o : Obj) : Two B (w.alloc o) v v' n m L S :=
  ⟨h.1.alloc o, h.2.1.alloc o, h.2.2⟩

theorem row_apart {B e size n m n' : Nat} {w w' : World} {v v' u : Value} {xs ys zs : List Value} (h : w.ownsRow B e size v n xs) (h' : w.ownsRow B e size u m ys) (hne : v.ownBlock ≠ u.ownBlock) (hu : u.ownBlock ≠ none)
    (hg : w.grownBy w' v.ownBlock) (hl : v'.ownBlock = v.ownBlock ∨ v'.ownBlock = some w.heap.size) : w'.ownsRow B e size u m ys ∧ v'.ownBlock ≠ u.ownBlock := by
  refine ⟨h'.kept hg (.inr (fun q => hne q.symm)), ?_⟩
  rcases hl with q | q
  · rw [q]; exact hne
  · rw [q]
    intro q2
    have := (h'.lt _ q2.symm).2
    omega

theorem row_some {B e size n : Nat} {w : World} {v : Value} {xs : List Value} (h : w.ownsRow B e size v n xs) (hn : 1 ≤ n) : v.ownBlock ≠ none := by
  rcases h.2 with ⟨_, h0⟩ | ⟨g, cap, cur, hv, _⟩
  · omega
  · subst hv; simp [Value.ownBlock]

theorem Two.app1 {B : Nat} {w w' : World} {v v' u : Value} {n m : Nat} {L S : List (Int × Int)} {x y : Int} (h : Two B w v v' n m L S) (ho : w'.ownsRow B 35 2 u (n + 1) (fl L ++ [.int .i64 x, .int .i64 y]))
    (hg : w.grownBy w' v.ownBlock) (hl : u.ownBlock = v.ownBlock ∨ u.ownBlock = some w.heap.size) : Two B w' u v' (n + 1) m (L ++ [(x, y)]) S := by
  obtain ⟨a, b⟩ := row_apart (n' := 0) (zs := []) h.1 h.2.1 h.2.2.1 h.2.2.2.2.1 hg hl
  exact ⟨by rw [fl_snoc]; exact ho, a, b, row_some ho (by omega), h.2.2.2.2.1, by simp [h.2.2.2.2.2.1], h.2.2.2.2.2.2⟩

theorem Two.swap {B : Nat} {w : World} {v v' : Value} {n m : Nat} {L S : List (Int × Int)} (h : Two B w v v' n m L S) : Two B w v' v m n S L :=
  ⟨h.2.1, h.1, fun q => h.2.2.1 q.symm, h.2.2.2.2.1, h.2.2.2.1, h.2.2.2.2.2.2, h.2.2.2.2.2.1⟩

theorem grown_own {w w1 w2 : World} {R : Nat} {r : Option Nat} (h : w.grownBy w1 (some R)) (k : w1.grownBy w2 r) (hr : ∀ j, r = some j → w.heap.size ≤ j) : w.grownBy w2 (some R) :=
  ⟨k.os.trans h.os, by have := k.tape; have := h.tape; simp_all, k.output.trans h.output, Nat.le_trans h.size k.size, fun i hi hn => (k.block i (by have := h.size; omega) (fun q => by have := hr i q.symm; omega)).trans (h.block i hi hn)⟩

theorem cell_two_new (w : World) (x y : Value) (t : TypeId) : ∀ j u, [x, y][j]? = some u → (w.alloc (.cells #[x, y] t)).cell? ((⟨w.heap.size, 0, none⟩ : Addr).add j) = some u := by
  intro j u hj
  match j, hj with
  | 0, hj => simp at hj; subst hj; simp [Addr.add]
  | 1, hj => simp at hj; subst hj; simp [Addr.add]
theorem two_one (x y : Int) : ∀ u ∈ [Value.int .i64 x, Value.int .i64 y], u.oneCell' = true := by
  intro u hu; simp at hu; rcases hu with rfl | rfl <;> rfl

def DrawWs (w : World) (R k : Nat) (e : Ending) (w' : World) : Prop := ∃ (g g' n m c c' : Nat) (L S : List (Int × Int)), e = .returned (.tuple #[.slice (some ⟨g, 0, none⟩) n c, .slice (some ⟨g', 0, none⟩) m c']) ∧ 1 ≤ n ∧ n ≤ 5 ∧ m ≤ 6 ∧ n ≤ c ∧ m ≤ c' ∧ c ≤ maxLen ∧ c' ≤ maxLen ∧ L.length = n ∧ S.length = m ∧
  OwnF w' g n (pr L) ∧ OwnF w' g' m (pr S) ∧ g ≠ g' ∧ w.heap.size ≤ g ∧ w.heap.size ≤ g' ∧ Rd w' R (k + 60) ∧ w.grownBy w' (some R)

theorem own_val {w : World} {B e : Nat} {v : Value} {n : Nat} {L : List (Int × Int)} (h : w.ownsRow B e 2 v n (fl L)) (hn : L.length = n) (hv : v.ownBlock ≠ none) :
    ∃ g c, v = .slice (some ⟨g, 0, none⟩) n c ∧ n ≤ c ∧ c ≤ maxLen ∧ OwnF w g n (pr L) ∧ B ≤ g := by
  subst hn
  rcases h.2 with ⟨h1, _⟩ | ⟨g, cap, cur, hv', hb, hh, h1, h2, _⟩
  · subst h1; simp [Value.ownBlock] at hv
  · subst hv'
    exact ⟨g, cap, rfl, h1, h2, own_fl h, hb⟩

theorem Two.open {B : Nat} {w : World} {v v' : Value} {n m : Nat} {L S : List (Int × Int)} (h : Two B w v v' n m L S) :
    ∃ g g' c c', v = .slice (some ⟨g, 0, none⟩) n c ∧ v' = .slice (some ⟨g', 0, none⟩) m c' ∧ n ≤ c ∧ m ≤ c' ∧ c ≤ maxLen ∧ c' ≤ maxLen ∧ L.length = n ∧ S.length = m ∧ OwnF w g n (pr L) ∧ OwnF w g' m (pr S) ∧ g ≠ g' ∧ B ≤ g ∧ B ≤ g' := by
  obtain ⟨h1, h2, h3, h4, h5, h6, h7⟩ := h
  obtain ⟨g, c, rfl, a1, a2, a3, a4⟩ := own_val h1 h6 h4
  obtain ⟨g', c', rfl, b1, b2, b3, b4⟩ := own_val h2 h7 h5
  exact ⟨g, g', c, c', rfl, rfl, a1, b1, a2, b2, h6, h7, a3, b3, fun q => h3 (by simp [Value.ownBlock, q]), a4, b4⟩

set_option maxHeartbeats 1600000 in
theorem l92Windows_any (R k : Nat) (w : World) (h : Rd w R k) (hk : k ≤ 900000) :
    Calls Try.prog 28 #[.pointer (some ⟨R, 0, none⟩)] w (DrawWs w R k) := by
  obtain ⟨i0, hi, hz0, hz1, hz2⟩ := info_parts infoWindow
  have hlt := h.lt
  have t0 : Two w.heap.size ((w.alloc (.cells #[] 35)).alloc (.cells #[] 35)) (.slice (some ⟨w.heap.size, 0, none⟩) 0 0) (.slice (some ⟨w.heap.size + 1, 0, none⟩) 0 0) 0 0 [] [] := by
    have o1 := World.ownsRow_lit (base := w.heap.size) (e := 35) (size := 2) w #[] 0 (by omega) (by unfold maxLen; omega) (by simp)
    have o2 := World.ownsRow_lit (base := w.heap.size) (e := 35) (size := 2) (w.alloc (.cells #[] 35)) #[] 0 (by simp) (by unfold maxLen; omega) (by simp)
    simp only [World.size_alloc] at o2
    exact ⟨o1.alloc _, o2, by simp [Value.ownBlock], by simp [Value.ownBlock], by simp [Value.ownBlock], rfl, rfl⟩
  have gr0 : w.grownBy ((w.alloc (.cells #[] 35)).alloc (.cells #[] 35)) (some R) := grownBy_trans (World.grownBy_alloc w _ _) (World.grownBy_alloc _ _ _)
  have H := Lib.hid h
  have T0 := Lib.hid t0
  have G0 := Lib.hid gr0
  clear h t0 gr0
  go_enter Try.func28, Try.ntmps28
  go_wp2_with fail
  refine (pick_any _ _ _ _ ((H.out.alloc _).alloc _) (by omega) (by omega)).mono ?_
  rintro e w1 ⟨m1, m10, m11, rfl, r1, g1, s1⟩
  have T1 := Lib.hid (T0.out.kept g1 hlt)
  have G1 := Lib.hid (grownBy_trans G0.out g1)
  clear g1 s1 T0 G0
  go_wp2_with fail
  refine (pick_any _ _ _ _ r1 (by omega) (by omega)).mono ?_
  rintro e w2 ⟨m2, m20, m21, rfl, r2, g2, s2⟩
  have T2 := Lib.hid (T1.out.kept g2 hlt)
  have G2 := Lib.hid (grownBy_trans G1.out g2)
  clear g2 s2 T1 G1 r1
  go_wp2_with fail
  go_loopw [4, 5, 6, 8] (fun v v' ag i wr => ∃ (j q : Nat) (L S : List (Int × Int)) (age : Int), i = .int .i64 j ∧ ag = .int .i64 age ∧ 0 ≤ age ∧ age ≤ 100 + 20 * j ∧ (j : Int) ≤ 1 + m2 ∧ q ≤ j ∧ Two w.heap.size wr v v' j q L S ∧ Rd wr R (k + 2 + 6 * j) ∧ w.grownBy wr (some R)) (fun _ _ _ i _ => (1 + m2 - intOf i).toNat)
  case atStart => exact ⟨0, 0, [], [], _, rfl, rfl, by omega, by omega, by omega, Nat.le_refl _, T2.out, r2, G2.out⟩
  case round =>
    obtain ⟨j, q, L, S, age, rfl, rfl, ag0, ag1, hj, hq, T, rr, G⟩ := hrel
    by_cases hlt' : (j : Int) < 1 + m2
    · have HT := Lib.hid T
      have HG := Lib.hid G
      clear T G
      go_wp2_with fail
      refine (pick_any _ _ _ _ rr (by omega) (by omega)).mono ?_
      rintro e w3 ⟨m3, m30, m31, rfl, r3, g3, s3⟩
      have T3 := Lib.hid (HT.out.kept g3 hlt)
      have G3 := Lib.hid (grownBy_trans HG.out g3)
      clear g3 s3 HT HG rr
      go_wp2_with fail
      all_goals
        refine (pick_any _ _ _ _ r3 (by omega) (by omega)).mono ?_
        rintro e w4 ⟨m4, m40, m41, rfl, r4, g4, s4⟩
        have T4 := Lib.hid (T3.out.kept g4 hlt)
        have G4 := Lib.hid (grownBy_trans G3.out g4)
        clear g4 s4 T3 G3 r3
        go_wp2_with (at_builtin; refine wpList_append_own_at _ rfl _ _ 25 rfl w.heap.size 35 i0 (.agg #[.int .i64 0, .int .i64 0]) 2 16 Try.underlying25 hi hz0 hz1 hz2 rfl (by decide) _ _ _ rfl (T4.out.1.alloc _) ⟨_, 0, none⟩ 1 1 [.int .i64 _, .int .i64 _] rfl rfl (cell_two_new _ _ _ _) (two_one _ _) (by unfold maxLen; omega) (by omega) (Nat.le_trans G4.out.size (by simp)) ?_)
        intro v5 w5 o5 g5 _ l5
        have A5 := (T4.out.alloc _).app1 o5 g5 (by simpa [World.size_alloc] using l5)
        have G5 := Lib.hid (grown_own (grownBy_trans G4.out (World.grownBy_alloc _ _ _)) g5 (fun j hj => (T4.out.1.lt j hj).1))
        have r5 := (r4.alloc _).kept g5 (fun j hj => Nat.lt_of_lt_of_le hlt (T4.out.1.lt j hj).1)
        have T5 := Lib.hid A5
        clear A5 o5 g5 l5 T4 G4 r4
        go_wp2_with fail
        refine (pick_any _ _ _ _ r5 (by omega) (by omega)).mono ?_
        rintro e w6 ⟨m6, m60, m61, rfl, r6, g6, s6⟩
        have T6 := Lib.hid (T5.out.kept g6 hlt)
        have G6 := Lib.hid (grownBy_trans G5.out g6)
        clear g6 s6 T5 G5 r5
        by_cases hl2 : (j : Int) + 1 < 1 + m2
        · go_wp2_with fail
          refine (pick_any _ _ _ _ r6 (by omega) (by omega)).mono ?_
          rintro e w7 ⟨m7, m70, m71, rfl, r7, g7, s7⟩
          have T7 := Lib.hid (T6.out.kept g7 hlt)
          have G7 := Lib.hid (grownBy_trans G6.out g7)
          clear g7 s7 T6 G6 r6
          go_wp2_with fail
          all_goals
            refine (pick_any _ _ _ _ r7 (by omega) (by omega)).mono ?_
            rintro e w8 ⟨m8, m80, m81, rfl, r8, g8, s8⟩
            have T8 := Lib.hid (T7.out.kept g8 hlt)
            have G8 := Lib.hid (grownBy_trans G7.out g8)
            clear g8 s8 T7 G7 r7
            go_wp2_with (at_builtin; refine wpList_append_own_at _ rfl _ _ 25 rfl w.heap.size 35 i0 (.agg #[.int .i64 0, .int .i64 0]) 2 16 Try.underlying25 hi hz0 hz1 hz2 rfl (by decide) _ _ _ rfl (T8.out.2.1.alloc _) ⟨_, 0, none⟩ 1 1 [.int .i64 _, .int .i64 _] rfl rfl (cell_two_new _ _ _ _) (two_one _ _) (by unfold maxLen; omega) (by omega) (Nat.le_trans G8.out.size (by simp)) ?_)
            intro v9 w9 o9 g9 _ l9
            have A9 := ((T8.out.alloc _).swap.app1 o9 g9 (by simpa [World.size_alloc] using l9)).swap
            have G9 := Lib.hid (grown_own (grownBy_trans G8.out (World.grownBy_alloc _ _ _)) g9 (fun j hj => (T8.out.2.1.lt j hj).1))
            have r9 := (r8.alloc _).kept g9 (fun j hj => Nat.lt_of_lt_of_le hlt (T8.out.2.1.lt j hj).1)
            have T9 := Lib.hid A9
            clear A9 o9 g9 l9 T8 G8 r8
            go_wp2_with fail
            go_roundw
            case rel => exact ⟨j + 1, q + 1, _, _, _, by go_num, rfl, by omega, by omega, by omega, by omega, T9.out, r9.mono (by omega), G9.out⟩
            case measure => simp [intOf]; omega
        · go_wp2_with fail
          go_roundw
          case rel => exact ⟨j + 1, q, _, _, _, by go_num, rfl, by omega, by omega, by omega, by omega, T6.out, r6.mono (by omega), G6.out⟩
          case measure => simp [intOf]; omega
    · obtain ⟨p, rfl⟩ : ∃ p : Nat, j = p + 1 := ⟨j - 1, by omega⟩
      obtain rfl : m2 = (p : Int) := by omega
      have HT := Lib.hid T
      have HG := Lib.hid G
      have hp5 : p < 5 := by omega
      clear T G T2 G2 r2 hj hlt' m20 m21
      go_wp2_with fail
      refine (pick_any _ _ _ _ rr (by omega) (by omega)).mono ?_
      rintro e w3 ⟨m3, m30, m31, rfl, r3, g3, s3⟩
      have T3 := Lib.hid (HT.out.kept g3 hlt)
      have G3 := Lib.hid (grownBy_trans HG.out g3)
      clear g3 s3 HT HG rr
      rcases (show m3 = 0 ∨ m3 = 1 ∨ (m3 = 2 ∨ m3 = 3 ∨ m3 = 4) ∨ 5 ≤ m3 by omega) with e0 | e0 | e0 | e0
      · subst e0
        · obtain ⟨g, g', c, c', rfl, rfl, hc1, hc2, hc3, hc4, hL, hS, O1, O2, hgg, hg1, hg2⟩ := T3.out.open
          have x3 : c ≤ 9223372036854775807 := hc3
          have x4 : c' ≤ 9223372036854775807 := hc4
          obtain ⟨q1, q2, q3, q4⟩ := O1.2 p (by omega)
          have HO1 := Lib.hid O1
          have HO2 := Lib.hid O2
          have HLS := Lib.hid (And.intro hL hS)
          have hgl := O1.1
          clear O1 O2 hL hS
          go_wp2_with fail
          go_ret2
          exact ⟨g, g', p + 1, q, c, c', L.set p (5, 3), S, rfl, by omega, by omega, by omega, hc1, hc2, hc3, hc4, by rw [List.length_set]; exact HLS.out.1, HLS.out.2, (HO1.out.set p (5, 3)).congr (fun i _ => (pr_set L p (5, 3) i (by rw [HLS.out.1]; omega)).symm), (HO2.out.far hgg _).far hgg _, hgg, hg1, hg2, (r3.setCell (Nat.lt_of_lt_of_le hlt hg1) _).setCell (Nat.lt_of_lt_of_le hlt hg1) _ |>.mono (by omega), grownBy_setCell (grownBy_setCell G3.out hg1 _) hg1 _⟩
      · subst e0
        go_wp2_with (at_builtin; refine wpList_append_own_at _ rfl _ _ 25 rfl w.heap.size 35 i0 (.agg #[.int .i64 0, .int .i64 0]) 2 16 Try.underlying25 hi hz0 hz1 hz2 rfl (by decide) _ _ _ rfl (T3.out.2.1.alloc _) ⟨_, 0, none⟩ 1 1 [.int .i64 _, .int .i64 _] rfl rfl (cell_two_new _ _ _ _) (two_one _ _) (by unfold maxLen; omega) (by omega) (Nat.le_trans G3.out.size (by simp)) ?_)
        intro v9 w9 o9 g9 _ l9
        have A9 := ((T3.out.alloc _).swap.app1 o9 g9 (by simpa [World.size_alloc] using l9)).swap
        have G9 := Lib.hid (grown_own (grownBy_trans G3.out (World.grownBy_alloc _ _ _)) g9 (fun j hj => (T3.out.2.1.lt j hj).1))
        have r9 := (r3.alloc _).kept g9 (fun j hj => Nat.lt_of_lt_of_le hlt (T3.out.2.1.lt j hj).1)
        obtain ⟨g, g', c, c', rfl, rfl, hc1, hc2, hc3, hc4, hL, hS, O1, O2, hgg, hg1, hg2⟩ := A9.open
        have HO1 := Lib.hid O1
        have HO2 := Lib.hid O2
        have HLS := Lib.hid (And.intro hL hS)
        clear A9 o9 g9 l9 T3 G3 r3 O1 O2 hL hS
        go_wp2_with fail
        go_ret2
        exact ⟨g, g', p + 1, q + 1, c, c', _, _, rfl, by omega, by omega, by omega, hc1, hc2, hc3, hc4, HLS.out.1, HLS.out.2, HO1.out, HO2.out, hgg, hg1, hg2, r9.mono (by omega), G9.out⟩
      · rcases e0 with e0 | e0 | e0 <;> subst e0
        all_goals
          go_wp2_with fail
          refine (pick_any _ _ _ _ r3 (by omega) (by omega)).mono ?_
          rintro e w4 ⟨m4, m40, m41, rfl, r4, g4, s4⟩
          have T4 := Lib.hid (T3.out.kept g4 hlt)
          have G4 := Lib.hid (grownBy_trans G3.out g4)
          clear g4 s4 T3 G3 r3
          obtain ⟨g, g', c, c', rfl, rfl, hc1, hc2, hc3, hc4, hL, hS, O1, O2, hgg, hg1, hg2⟩ := T4.out.open
          have x3 : c ≤ 9223372036854775807 := hc3
          have x4 : c' ≤ 9223372036854775807 := hc4
          obtain ⟨q1, q2, q3, q4⟩ := O1.2 p (by omega)
          have HO1 := Lib.hid O1
          have HO2 := Lib.hid O2
          have HLS := Lib.hid (And.intro hL hS)
          have hgl := O1.1
          clear O1 O2 hL hS
          go_wp2_with fail
          go_ret2
          exact ⟨g, g', p + 1, q, c, c', L.set p (10, 40 + m4), S, rfl, by omega, by omega, by omega, hc1, hc2, hc3, hc4, by rw [List.length_set]; exact HLS.out.1, HLS.out.2, (HO1.out.set p (10, 40 + m4)).congr (fun i _ => (pr_set L p (10, 40 + m4) i (by rw [HLS.out.1]; omega)).symm), (HO2.out.far hgg _).far hgg _, hgg, hg1, hg2, (r4.setCell (Nat.lt_of_lt_of_le hlt hg1) _).setCell (Nat.lt_of_lt_of_le hlt hg1) _ |>.mono (by omega), grownBy_setCell (grownBy_setCell G4.out hg1 _) hg1 _⟩
      · have d0 : (m3 == 0) = false := by simp; omega
        have d1 : (m3 == 1) = false := by simp; omega
        have d2 : (m3 == 2) = false := by simp; omega
        have d3 : (m3 == 3) = false := by simp; omega
        have d4 : (m3 == 4) = false := by simp; omega
        obtain ⟨g, g', c, c', rfl, rfl, hc1, hc2, hc3, hc4, hL, hS, O1, O2, hgg, hg1, hg2⟩ := T3.out.open
        have HO1 := Lib.hid O1
        have HO2 := Lib.hid O2
        have HLS := Lib.hid (And.intro hL hS)
        clear O1 O2 hL hS
        go_wp2_with fail
        go_ret2
        exact ⟨g, g', p + 1, q, c, c', L, S, rfl, by omega, by omega, by omega, hc1, hc2, hc3, hc4, HLS.out.1, HLS.out.2, HO1.out, HO2.out, hgg, hg1, hg2, r3.mono (by omega), G3.out⟩
end Go.Proofs.Yteflaibcldknmaa
