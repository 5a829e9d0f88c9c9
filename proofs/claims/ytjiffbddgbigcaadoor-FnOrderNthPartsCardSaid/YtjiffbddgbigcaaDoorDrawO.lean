/- Drawn parts: l92Parts, DrawOrderCount. -/
import Derived.Test.YtjiffbddgbigcaaDoorOrdI
import Derived.Test.YtjiffbddgbigcaaDoorB1
import Derived.Maps.AppendAt
namespace Go.Proofs.YtjiffbddgbigcaaDoor
open Go.RowKit
set_option linter.unusedVariables false
set_option linter.unusedSimpArgs false

/-- Two rows of numbers, apart. -/
def TwoI (B : Nat) (w : World) (v v' : Value) (n m : Nat) (A A' : List Int) : Prop :=
  w.ownsRow B 3 1 v n (il A) ∧ w.ownsRow B 3 1 v' m (il A') ∧ v.ownBlock ≠ v'.ownBlock ∧ v.ownBlock ≠ none ∧ v'.ownBlock ≠ none ∧ A.length = n ∧ A'.length = m
theorem TwoI.alloc {B : Nat} {w : World} {v v' : Value} {n m : Nat} {A A' : List Int} (h : TwoI B w v v' n m A A') (o : Obj) : TwoI B (w.alloc o) v v' n m A A' := ⟨h.1.alloc o, h.2.1.alloc o, h.2.2⟩
theorem TwoI.drew {B : Nat} {w : World} {v v' : Value} {n m : Nat} {A A' : List Int} (h : TwoI B w v v' n m A A') : TwoI B w.drew v v' n m A A' := ⟨h.1.drew, h.2.1.drew, h.2.2⟩
theorem TwoI.swap {B : Nat} {w : World} {v v' : Value} {n m : Nat} {A A' : List Int} (h : TwoI B w v v' n m A A') : TwoI B w v' v m n A' A := ⟨h.2.1, h.1, fun q => h.2.2.1 q.symm, h.2.2.2.2.1, h.2.2.2.1, h.2.2.2.2.2.2, h.2.2.2.2.2.1⟩
theorem TwoI.kept {B : Nat} {w w' : World} {v v' : Value} {n m : Nat} {L S : List Int} (h : TwoI B w v v' n m L S) {R : Nat} (hg : w.grownBy w' (some R)) (hR : R < B) : TwoI B w' v v' n m L S :=
  ⟨own_kept h.1 hg hR, own_kept h.2.1 hg hR, h.2.2⟩
theorem rowi_apart {B e size n m n' : Nat} {w w' : World} {v v' u : Value} {xs ys zs : List Value} (h : w.ownsRow B e size v n xs) (h' : w.ownsRow B e size u m ys) (hne : v.ownBlock ≠ u.ownBlock) (hu : u.ownBlock ≠ none)
    (hg : w.grownBy w' v.ownBlock) (hl : v'.ownBlock = v.ownBlock ∨ v'.ownBlock = some w.heap.size) : w'.ownsRow B e size u m ys ∧ v'.ownBlock ≠ u.ownBlock := by
  refine ⟨h'.kept hg (.inr (fun q => hne q.symm)), ?_⟩
  rcases hl with q | q
  · rw [q]; exact hne
  · rw [q]
    intro q2
    have := (h'.lt _ q2.symm).2
    omega
theorem TwoI.app {B : Nat} {w w' : World} {v v' u : Value} {n m : Nat} {A A' : List Int} {x : Int} (h : TwoI B w v v' n m A A') (ho : w'.ownsRow B 3 1 u (n + 1) (il A ++ [.int .i64 x]))
    (hg : w.grownBy w' v.ownBlock) (hl : u.ownBlock = v.ownBlock ∨ u.ownBlock = some w.heap.size) : TwoI B w' u v' (n + 1) m (A ++ [x]) A' := by
  obtain ⟨a, b⟩ := rowi_apart (n' := 0) (zs := []) h.1 h.2.1 h.2.2.1 h.2.2.2.2.1 hg hl
  exact ⟨by rw [il_snoc]; exact ho, a, b, rowi_some ho (by omega), h.2.2.2.2.1, by simp [h.2.2.2.2.2.1], h.2.2.2.2.2.2⟩
theorem TwoI.open {B : Nat} {w : World} {v v' : Value} {n m : Nat} {A A' : List Int} (h : TwoI B w v v' n m A A') :
    ∃ g g' c c', v = .slice (some ⟨g, 0, none⟩) n c ∧ v' = .slice (some ⟨g', 0, none⟩) m c' ∧ n ≤ c ∧ m ≤ c' ∧ c ≤ maxLen ∧ c' ≤ maxLen ∧ A.length = n ∧ A'.length = m ∧ OwnI w g n (it A) ∧ OwnI w g' m (it A') ∧ g ≠ g' ∧ B ≤ g ∧ B ≤ g' := by
  obtain ⟨h1, h2, h3, h4, h5, h6, h7⟩ := h
  obtain ⟨g, c, rfl, a1, a2, a3, a4⟩ := own_vali h1 h6 h4
  obtain ⟨g', c', rfl, b1, b2, b3, b4⟩ := own_vali h2 h7 h5
  exact ⟨g, g', c, c', rfl, rfl, a1, b1, a2, b2, h6, h7, a3, b3, fun q => h3 (by simp [Value.ownBlock, q]), a4, b4⟩
theorem grown_own {w w1 w2 : World} {R : Nat} {r : Option Nat} (h : w.grownBy w1 (some R)) (k : w1.grownBy w2 r) (hr : ∀ j, r = some j → w.heap.size ≤ j) : w.grownBy w2 (some R) :=
  ⟨k.os.trans h.os, by have := k.tape; have := h.tape; simp_all, k.output.trans h.output, Nat.le_trans h.size k.size, fun i hi hn => (k.block i (by have := h.size; omega) (fun q => by have := hr i q.symm; omega)).trans (h.block i hi hn)⟩
def bdL (A : List Int) (lo hi : Int) : Prop := ∀ x, x ∈ A → lo ≤ x ∧ x ≤ hi
theorem bdL_nil (lo hi : Int) : bdL [] lo hi := by intro x hx; simp at hx
theorem bdL_snoc {A : List Int} {lo hi x : Int} (h : bdL A lo hi) (h1 : lo ≤ x) (h2 : x ≤ hi) : bdL (A ++ [x]) lo hi := by
  intro y hy
  rcases List.mem_append.mp hy with q | q
  · exact h y q
  · simp at q; subst q; exact ⟨h1, h2⟩
theorem bdL_set {A : List Int} {lo hi x : Int} (k : Nat) (h : bdL A lo hi) (h1 : lo ≤ x) (h2 : x ≤ hi) : bdL (A.set k x) lo hi := by
  intro y hy
  rcases List.mem_or_eq_of_mem_set hy with q | q
  · exact h y q
  · subst q; exact ⟨h1, h2⟩
theorem bdL_it {A : List Int} {lo hi : Int} (h : bdL A lo hi) (i : Nat) (hi' : i < A.length) : lo ≤ it A i ∧ it A i ≤ hi := by
  refine h _ ?_
  unfold it
  rw [List.getD_eq_getElem?_getD, List.getElem?_eq_getElem hi']
  exact List.getElem_mem hi'
theorem bdL_mono {A : List Int} {lo hi lo' hi' : Int} (h : bdL A lo hi) (h1 : lo' ≤ lo) (h2 : hi ≤ hi') : bdL A lo' hi' := fun x hx => ⟨Int.le_trans h1 (h x hx).1, Int.le_trans (h x hx).2 h2⟩

def DrawPs (w : World) (R k : Nat) (e : Ending) (w' : World) : Prop := ∃ (g g' n m c c' : Nat) (A B : List Int), e = .returned (.tuple #[.slice (some ⟨g, 0, none⟩) n c, .slice (some ⟨g', 0, none⟩) m c']) ∧ 1 ≤ n ∧ n ≤ 3 ∧ m ≤ n + 1 ∧ n ≤ m ∧ n ≤ c ∧ m ≤ c' ∧ c ≤ maxLen ∧ c' ≤ maxLen ∧ A.length = n ∧ B.length = m ∧
  bdL A (-1) 7 ∧ bdL B 0 3 ∧ OwnI w' g n (it A) ∧ OwnI w' g' m (it B) ∧ g ≠ g' ∧ w.heap.size ≤ g ∧ w.heap.size ≤ g' ∧ Rd w' R (k + 20) ∧ w.grownBy w' (some R)

set_option maxHeartbeats 1600000 in
theorem l92Parts_any (R k : Nat) (w : World) (h : Rd w R k) (hk : k ≤ 900000) :
    Calls Tryd.prog 27 #[.pointer (some ⟨R, 0, none⟩)] w (DrawPs w R k) := by
  obtain ⟨i0, hi, hz0, hz1, hz2⟩ := info_parts infoInt
  have hlt := h.lt
  have t0 : TwoI w.heap.size ((w.alloc (.cells #[] 3)).alloc (.cells #[] 3)) (.slice (some ⟨w.heap.size, 0, none⟩) 0 0) (.slice (some ⟨w.heap.size + 1, 0, none⟩) 0 0) 0 0 [] [] := by
    have o2 := World.ownsRow_lit (base := w.heap.size) (e := 3) (size := 1) (w.alloc (.cells #[] 3)) #[] 0 (by simp) (by unfold maxLen; omega) (by simp)
    simp only [World.size_alloc] at o2
    exact ⟨(icopy_base w).alloc _, o2, by simp [Value.ownBlock], by simp [Value.ownBlock], by simp [Value.ownBlock], rfl, rfl⟩
  have gr0 : w.grownBy ((w.alloc (.cells #[] 3)).alloc (.cells #[] 3)) (some R) := grownBy_trans (World.grownBy_alloc w _ _) (World.grownBy_alloc _ _ _)
  have H := Lib.hid h
  have T0 := Lib.hid t0
  have G0 := Lib.hid gr0
  clear h t0 gr0
  go_enter Tryd.func27, Tryd.ntmps27
  go_wp2_with fail
  refine (pick_any _ _ _ _ ((H.out.alloc _).alloc _) (by omega) (by omega)).mono ?_
  rintro e w2 ⟨m2, m20, m21, rfl, r2, g2, s2⟩
  have T2 := Lib.hid (T0.out.kept g2 hlt)
  have G2 := Lib.hid (grownBy_trans G0.out g2)
  clear g2 s2 T0 G0
  go_wp2_with fail
  go_loopw [4, 5, 7] (fun v v' i wr => ∃ (j : Nat) (L S : List Int), i = .int .i64 j ∧ (j : Int) ≤ 1 + m2 ∧ TwoI w.heap.size wr v v' j j L S ∧ bdL L (-1) 7 ∧ bdL S 0 3 ∧ Rd wr R (k + 1 + 2 * j) ∧ w.grownBy wr (some R)) (fun _ _ i _ => (1 + m2 - intOf i).toNat)
  case atStart => exact ⟨0, [], [], rfl, by omega, T2.out, bdL_nil _ _, bdL_nil _ _, r2, G2.out⟩
  case round =>
    obtain ⟨j, L, S, rfl, hj, T, bl, bs, rr, G⟩ := hrel
    have BL := Lib.hid bl
    have BS := Lib.hid bs
    clear bl bs
    by_cases hlt' : (j : Int) < 1 + m2
    · have HT := Lib.hid T
      have HG := Lib.hid G
      clear T G
      go_wp2_with fail
      refine (pick_any _ _ _ _ rr (by omega) (by omega)).mono ?_
      rintro e w3 ⟨m3, m30, m31, rfl, r3, g3, s3⟩
      have T4 := Lib.hid (HT.out.kept g3 hlt)
      have G4 := Lib.hid (grownBy_trans HG.out g3)
      clear g3 s3 HT HG rr
      go_wp2_with (at_builtin; refine wpList_append_own_at _ rfl _ _ 23 rfl w.heap.size 3 i0 (.int .i64 0) 1 8 Tryd.underlying23 hi hz0 hz1 hz2 rfl (by decide) _ _ _ rfl (T4.out.1.alloc _) ⟨_, 0, none⟩ 1 1 [.int .i64 _] rfl rfl (int_new _ _ _) (int_one _) (by unfold maxLen; omega) (by omega) (Nat.le_trans G4.out.size (by simp)) ?_)
      intro v5 w5 o5 g5 _ l5
      have T5 := Lib.hid ((T4.out.alloc _).app o5 g5 (by simpa [World.size_alloc] using l5))
      have G5 := Lib.hid (grown_own (grownBy_trans G4.out (World.grownBy_alloc _ _ _)) g5 (fun j hj => (T4.out.1.lt j hj).1))
      have r5 := (r3.alloc _).kept g5 (fun j hj => Nat.lt_of_lt_of_le hlt (T4.out.1.lt j hj).1)
      clear o5 g5 l5 T4 G4 r3
      go_wp2_with fail
      refine (pick_any _ _ _ _ r5 (by omega) (by omega)).mono ?_
      rintro e w6 ⟨m6, m60, m61, rfl, r6, g6, s6⟩
      have T8 := Lib.hid (T5.out.kept g6 hlt)
      have G8 := Lib.hid (grownBy_trans G5.out g6)
      clear g6 s6 T5 G5 r5
      go_wp2_with (at_builtin; refine wpList_append_own_at _ rfl _ _ 23 rfl w.heap.size 3 i0 (.int .i64 0) 1 8 Tryd.underlying23 hi hz0 hz1 hz2 rfl (by decide) _ _ _ rfl (T8.out.2.1.alloc _) ⟨_, 0, none⟩ 1 1 [.int .i64 _] rfl rfl (int_new _ _ _) (int_one _) (by unfold maxLen; omega) (by omega) (Nat.le_trans G8.out.size (by simp)) ?_)
      intro v9 w9 o9 g9 _ l9
      have T9 := Lib.hid (((T8.out.alloc _).swap.app o9 g9 (by simpa [World.size_alloc] using l9)).swap)
      have G9 := Lib.hid (grown_own (grownBy_trans G8.out (World.grownBy_alloc _ _ _)) g9 (fun j hj => (T8.out.2.1.lt j hj).1))
      have r9 := (r6.alloc _).kept g9 (fun j hj => Nat.lt_of_lt_of_le hlt (T8.out.2.1.lt j hj).1)
      clear o9 g9 l9 T8 G8 r6
      go_wp2_with fail
      go_roundw
      case rel => exact ⟨j + 1, _, _, by go_num, by omega, T9.out, bdL_snoc BL.out (by omega) (by omega), bdL_snoc BS.out (by omega) (by omega), r9.mono (by omega), G9.out⟩
      case measure => simp [intOf]; omega
    · obtain ⟨p, rfl⟩ : ∃ p : Nat, j = p + 1 := ⟨j - 1, by omega⟩
      obtain rfl : m2 = (p : Int) := by omega
      have HT := Lib.hid T
      have HG := Lib.hid G
      have hp5 : p < 3 := by omega
      clear T G T2 G2 r2 hj hlt' m20 m21
      go_wp2_with fail
      refine (pick_any _ _ _ _ rr (by omega) (by omega)).mono ?_
      rintro e w3 ⟨m3, m30, m31, rfl, r3, g3, s3⟩
      have T3 := Lib.hid (HT.out.kept g3 hlt)
      have G3 := Lib.hid (grownBy_trans HG.out g3)
      clear g3 s3 HT HG rr
      rcases (show m3 = 0 ∨ m3 = 1 ∨ 2 ≤ m3 by omega) with e0 | e0 | e0
      · subst e0
        go_wp2_with fail
        refine (pick_any _ _ _ _ (r3.alloc _) (by omega) (by omega)).mono ?_
        rintro e w4 ⟨m4, m40, m41, rfl, r4, g4, s4⟩
        have hR4 := (r3.alloc (.cells #[.int .i64 (-1), .int .i64 7, .int .i64 6] 3)).lt
        have K := (gk g4 w3.heap.size (by simp) (fun q => by have := r3.lt; omega)).1
        have T4 := Lib.hid ((T3.out.alloc _).kept g4 hlt)
        have G4 := Lib.hid (grownBy_trans (grownBy_trans G3.out (World.grownBy_alloc _ _ _)) g4)
        clear g4 s4 T3 G3
        obtain ⟨g, g', c, c', rfl, rfl, hc1, hc2, hc3, hc4, hL, hS, O1, O2, hgg, hg1, hg2⟩ := T4.out.open
        have x3 : c ≤ 9223372036854775807 := hc3
        have x4 : c' ≤ 9223372036854775807 := hc4
        obtain ⟨q1, q2⟩ := O1.2 0 (by omega)
        have HO1 := Lib.hid O1
        have HO2 := Lib.hid O2
        have HLS := Lib.hid (And.intro hL hS)
        have hgl := O1.1
        have K0 := (K 0).trans (show _ = some (Value.int .i64 (-1)) by go_simp)
        have K1 := (K 1).trans (show _ = some (Value.int .i64 7) by go_simp)
        have K2 := (K 2).trans (show _ = some (Value.int .i64 6) by go_simp)
        clear O1 O2 hL hS K
        have fin : ∀ x : Int, -1 ≤ x → x ≤ 7 → DrawPs w R k (.returned (.tuple #[.slice (some ⟨g, 0, none⟩) (p + 1) c, .slice (some ⟨g', 0, none⟩) (p + 1) c'])) (w4.setCell ⟨g, 0, none⟩ (.int .i64 x)) := fun x h1 h2 =>
          ⟨g, g', p + 1, p + 1, c, c', L.set 0 x, S, rfl, by omega, by omega, by omega, by omega, hc1, hc2, hc3, hc4, by rw [List.length_set]; exact HLS.out.1, HLS.out.2, bdL_set 0 BL.out h1 h2, BS.out, HO1.out.put HLS.out.1 0 (by omega) x, HO2.out.far hgg _, hgg, hg1, hg2, (r4.setCell (Nat.lt_of_lt_of_le hlt hg1) _).mono (by omega), grownBy_setCell G4.out hg1 _⟩
        have FIN := Lib.hid fin
        clear fin
        rcases (show m4 = 0 ∨ m4 = 1 ∨ m4 = 2 by omega) with e1 | e1 | e1 <;> subst e1
        · go_wp2_with fail
          go_ret2
          exact FIN.out (-1) (by omega) (by omega)
        · go_wp2_with fail
          go_ret2
          exact FIN.out 7 (by omega) (by omega)
        · go_wp2_with fail
          go_ret2
          exact FIN.out 6 (by omega) (by omega)
      · subst e0
        go_wp2_with (at_builtin; refine wpList_append_own_at _ rfl _ _ 23 rfl w.heap.size 3 i0 (.int .i64 0) 1 8 Tryd.underlying23 hi hz0 hz1 hz2 rfl (by decide) _ _ _ rfl (T3.out.2.1.alloc _) ⟨_, 0, none⟩ 1 1 [.int .i64 _] rfl rfl (int_new _ _ _) (int_one _) (by unfold maxLen; omega) (by omega) (Nat.le_trans G3.out.size (by simp)) ?_)
        intro v9 w9 o9 g9 _ l9
        have A9 := ((T3.out.alloc _).swap.app o9 g9 (by simpa [World.size_alloc] using l9)).swap
        have G9 := Lib.hid (grown_own (grownBy_trans G3.out (World.grownBy_alloc _ _ _)) g9 (fun j hj => (T3.out.2.1.lt j hj).1))
        have r9 := (r3.alloc _).kept g9 (fun j hj => Nat.lt_of_lt_of_le hlt (T3.out.2.1.lt j hj).1)
        obtain ⟨g, g', c, c', rfl, rfl, hc1, hc2, hc3, hc4, hL, hS, O1, O2, hgg, hg1, hg2⟩ := A9.open
        have HO1 := Lib.hid O1
        have HO2 := Lib.hid O2
        have HLS := Lib.hid (And.intro hL hS)
        clear A9 o9 g9 l9 T3 G3 r3 O1 O2 hL hS
        go_wp2_with fail
        go_ret2
        exact ⟨g, g', p + 1, p + 1 + 1, c, c', _, _, rfl, by omega, by omega, by omega, by omega, hc1, hc2, hc3, hc4, HLS.out.1, HLS.out.2, BL.out, bdL_snoc BS.out (by omega) (by omega), HO1.out, HO2.out, hgg, hg1, hg2, r9.mono (by omega), G9.out⟩
      · have d0 : (m3 == 0) = false := by simp; omega
        have d1 : (m3 == 1) = false := by simp; omega
        obtain ⟨g, g', c, c', rfl, rfl, hc1, hc2, hc3, hc4, hL, hS, O1, O2, hgg, hg1, hg2⟩ := T3.out.open
        have HO1 := Lib.hid O1
        have HO2 := Lib.hid O2
        have HLS := Lib.hid (And.intro hL hS)
        clear O1 O2 hL hS
        go_wp2_with fail
        go_ret2
        exact ⟨g, g', p + 1, p + 1, c, c', _, _, rfl, by omega, by omega, by omega, by omega, hc1, hc2, hc3, hc4, HLS.out.1, HLS.out.2, BL.out, BS.out, HO1.out, HO2.out, hgg, hg1, hg2, r3.mono (by omega), G3.out⟩


end Go.Proofs.YtjiffbddgbigcaaDoor
