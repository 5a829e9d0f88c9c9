/- The walk of FnOrderPartsJoin. -/
import Derived.Test.YtjiffbddgbigcaaDoorParL
import Derived.Test.YtjiffbddgbigcaaDoorSegP
namespace Go.Proofs.YtjiffbddgbigcaaDoor
open Go.RowKit
set_option linter.unusedVariables false
set_option linter.unusedSimpArgs false

theorem sg_join1 (l : List UInt8) : sg (l ++ [124, 97]) = sg l ++ [[97]] := by
  have e : l ++ [124, 97] = (l ++ [124]) ++ [97] := by simp
  rw [e, sg_snoc _ 97 (by decide), sg_snoc_bar]
  unfold upL
  simp
theorem c_join (l : List UInt8) : cA (l ++ [124, 97]) = cA l ++ [1] ∧ cB (l ++ [124, 97]) = cB l ++ [0] := by
  unfold cA cB
  rw [sg_join1, List.map_append, List.map_append]
  exact ⟨rfl, rfl⟩
theorem it_app {A : List Int} (x : Int) {i : Nat} (h : i < A.length) : it (A ++ [x]) i = it A i := by
  unfold it
  rw [List.getD_eq_getElem?_getD, List.getD_eq_getElem?_getD, List.getElem?_append_left h]
theorem it_end {A : List Int} (x : Int) {n : Nat} (h : A.length = n) : it (A ++ [x]) n = x := by
  unfold it
  rw [List.getD_eq_getElem?_getD, List.getElem?_append_right (by omega), h, Nat.sub_self]
  rfl
theorem pr_join_no {l : List UInt8} (h : (cA l).length = 4) : prB (l ++ [124, 97]) = false := by
  unfold prB
  rw [(c_join l).1, (c_join l).2]
  cases e : okB (cA l ++ [1]) (cB l ++ [0]) with
  | false => simp
  | true =>
    have := (ok_true e).2.1
    rw [List.length_append] at this
    simp at this
    omega
theorem pr_join_yes {l : List UInt8} (hp : prB l = true) (h : (cA l).length < 4) : prB (l ++ [124, 97]) = true := by
  obtain ⟨g1, g2, g3, g4, g5⟩ := ok_true (pr_yes hp).1
  have hl : letters (l ++ [124, 97]) = true := by
    have e : l ++ [124, 97] = (l ++ [124]) ++ [97] := by simp
    rw [e, let_snoc, let_snoc]
    unfold prB at hp
    simp only [Bool.and_eq_true] at hp
    rw [hp.1]
    rfl
  unfold prB
  rw [hl, (c_join l).1, (c_join l).2]
  have ok : okB (cA l ++ [1]) (cB l ++ [0]) = true := by
    refine ok_mk (by rw [List.length_append]; simp) (by rw [List.length_append]; simp; omega) (by rw [List.length_append, List.length_append, g3]; rfl) (fun i hi => ?_) (fun i hi => ?_)
    · rw [List.length_append] at hi
      simp at hi
      by_cases c : i < (cA l).length
      · rw [it_app 1 c]; exact g4 i c
      · rw [it_end 1 (show (cA l).length = i by omega)]; omega
    · rw [List.length_append] at hi
      simp at hi
      by_cases c : i < (cB l).length
      · rw [it_app 0 c]; exact g5 i (by omega)
      · rw [it_end 0 (show (cB l).length = i by omega)]; omega
  rw [ok]
  rfl
theorem ints_front {w : World} {a : Option Addr} {n : Nat} {A : List Int} {x : Int} (h : Ints w a (n + 1) (A ++ [x])) (hA : A.length = n) : Ints w a n A := by
  obtain ⟨h1, h2⟩ := h
  refine ⟨hA, ?_⟩
  rcases h2 with q | ⟨bb, off, q1, q2, q3⟩
  · omega
  · refine .inr ⟨bb, off, q1, q2, fun i hi => ?_⟩
    have := q3 i (by rw [List.length_append]; simp; omega)
    rw [it_app x hi] at this
    exact this
theorem ints_end {w : World} {bb off n : Nat} {A : List Int} {x : Int} (h : Ints w (some ⟨bb, off, none⟩) (n + 1) (A ++ [x])) (hA : A.length = n) : bb < w.heap.size ∧ w.cell? ⟨bb, off + n, none⟩ = some (.int .i64 x) := by
  obtain ⟨h1, h2⟩ := h
  rcases h2 with q | ⟨b', off', q1, q2, q3⟩
  · omega
  · cases q1
    refine ⟨q2, ?_⟩
    have := q3 n (by rw [List.length_append]; simp; omega)
    rw [it_end x hA] at this
    exact this
set_option maxRecDepth 100000 in
set_option maxHeartbeats 3200000 in
theorem fnOJoin_walk (a : Option Addr) (len cap : Nat) (zs : List Int) (w : World) (h : IsRow .u8 w a len cap zs) :
    Calls Tryd.prog 8 #[.slice a len cap] w fun e w' => e = .returned (.bool true) ∧ Below w.heap.size w w' := by
  obtain ⟨hc, hm⟩ := h.le
  have hm' := hm
  unfold maxLen at hm'
  have h0 := Lib.hid h.bytes
  clear h
  by_cases hl : 1048576 < len
  · go_enter Tryd.func8, Tryd.ntmps8
    go_wp2_with fail
    go_ret
    exact ⟨rfl, Below.refl _ _⟩
  go_enter Tryd.func8, Tryd.ntmps8
  go_wp2_with fail
  refine (drawOP_any _ _ _ _ hc hm h0.out).mono ?_
  rintro e w1 ⟨l, rfl, hl9, b1⟩
  have HB := Lib.hid b1
  clear b1 h0
  go_wp2_with fail
  by_cases hp : prB l = false
  · have PN := Lib.hid hp
    refine (implParts_any l (by omega) _).mono ?_
    rintro e w2 ⟨a1, a2, p1, p2, c1, c2, rfl, h1, h2, h3, h4, I1, I2, b2⟩
    replace HB := Lib.hid (Below.step0 HB.out b2)
    have J1 := Lib.hid I1
    have J2 := Lib.hid I2
    have D0 := Lib.hid (Below.refl w2.heap.size w2)
    clear I1 I2 b2 hp
    rw [PN.out]
    go_wp2_with fail
    refine (specParts_any l (by omega) _).mono ?_
    rintro e w3 ⟨e1, e2, q1, q2, d1, d2, rfl, k1, k2, k3, k4, I3, I4, b3⟩
    replace HB := Lib.hid (Below.step0 HB.out b3)
    replace D0 := Lib.hid (Below.step0 D0.out b3)
    have J3 := Lib.hid I3
    have J4 := Lib.hid I4
    have D1 := Lib.hid (Below.refl w3.heap.size w3)
    clear I3 I4 b3
    rw [PN.out]
    have go : ∀ W, Below w2.heap.size w2 W → Below w3.heap.size w3 W → Calls Tryd.prog 17 #[.slice a1 p1 c1, .slice e1 q1 d1] W fun e W' => e = .returned (.bool true) ∧ Below W.heap.size W W' := by
      intro W x y
      have k := sameInts_b a1 e1 p1 q1 c1 d1 (prA l) (prA l) W h1 h2 k1 k2 (J1.out.below x) (J3.out.below y)
      rw [eqI_self] at k
      exact k
    have go2 : ∀ W, Below w2.heap.size w2 W → Below w3.heap.size w3 W → Calls Tryd.prog 17 #[.slice a2 p2 c2, .slice e2 q2 d2] W fun e W' => e = .returned (.bool true) ∧ Below W.heap.size W W' := by
      intro W x y
      have k := sameInts_b a2 e2 p2 q2 c2 d2 (prC l) (prC l) W h3 h4 k3 k4 (J2.out.below x) (J4.out.below y)
      rw [eqI_self] at k
      exact k
    have GO := Lib.hid go
    have GO2 := Lib.hid go2
    clear go go2 J1 J2 J3 J4
    go_wp2_with fail
    refine (GO.out _ D0.out D1.out).mono ?_
    rintro e x1 ⟨rfl, y1⟩
    replace HB := Lib.hid (Below.step0 HB.out y1)
    replace D0 := Lib.hid (Below.step0 D0.out y1)
    replace D1 := Lib.hid (Below.step0 D1.out y1)
    clear y1
    go_wp2_with fail
    refine (GO2.out _ D0.out D1.out).mono ?_
    rintro e x2 ⟨rfl, y2⟩
    replace HB := Lib.hid (Below.step0 HB.out y2)
    replace D0 := Lib.hid (Below.step0 D0.out y2)
    replace D1 := Lib.hid (Below.step0 D1.out y2)
    clear y2
    go_wp2_with fail
    refine (GO.out _ D0.out D1.out).mono ?_
    rintro e x3 ⟨rfl, y3⟩
    replace HB := Lib.hid (Below.step0 HB.out y3)
    replace D0 := Lib.hid (Below.step0 D0.out y3)
    replace D1 := Lib.hid (Below.step0 D1.out y3)
    clear y3
    go_wp2_with fail
    refine (GO2.out _ D0.out D1.out).mono ?_
    rintro e x4 ⟨rfl, y4⟩
    replace HB := Lib.hid (Below.step0 HB.out y4)
    replace D0 := Lib.hid (Below.step0 D0.out y4)
    replace D1 := Lib.hid (Below.step0 D1.out y4)
    clear y4
    go_wp2_with fail
    go_ret
    exact ⟨rfl, HB.out⟩
  have hp' : prB l = true := by simpa using hp
  have HP := Lib.hid hp'
  have hl52 : l.length ≤ 52 := pr_len hp'
  clear hp hp'
  refine (parts_yes l (by omega) HP.out _).mono ?_
  rintro e w4 ⟨ba, oa, bb, ob, n, c, c', rfl, h1, h2, h3, h4, n1, n4, nA, nB, I1, I2, b4⟩
  replace HB := Lib.hid (Below.step0 HB.out b4)
  have J1 := Lib.hid I1
  have J2 := Lib.hid I2
  have NA := Lib.hid nA
  have NB := Lib.hid nB
  have D0 := Lib.hid (Below.refl w4.heap.size w4)
  clear I1 I2 b4 nA nB
  go_wp2_with fail
  refine (specParts_any l (by omega) _).mono ?_
  rintro e w3 ⟨e1, e2, q1, q2, d1, d2, rfl, k1, k2, k3, k4, I3, I4, b3⟩
  rw [(prA_yes HP.out).1] at I3
  rw [(prA_yes HP.out).2] at I4
  rw [HP.out]
  replace HB := Lib.hid (Below.step0 HB.out b3)
  replace D0 := Lib.hid (Below.step0 D0.out b3)
  have J3 := Lib.hid I3
  have J4 := Lib.hid I4
  clear I3 I4 b3
  go_wp2_with fail
  refine (sameInts_b _ _ _ _ _ _ (cA l) (cA l) _ h1 h2 k1 k2 (J1.out.below D0.out) J3.out).mono ?_
  rintro e w5 ⟨rfl, b5⟩
  rw [eqI_self]
  replace HB := Lib.hid (Below.step0 HB.out b5)
  replace D0 := Lib.hid (Below.step0 D0.out b5)
  replace J4 := Lib.hid (J4.out.below b5)
  clear b5 J3
  go_wp2_with fail
  refine (sameInts_b _ _ _ _ _ _ (cB l) (cB l) _ h3 h4 k3 k4 (J2.out.below D0.out) J4.out).mono ?_
  rintro e w6 ⟨rfl, b6⟩
  rw [eqI_self]
  replace HB := Lib.hid (Below.step0 HB.out b6)
  replace D0 := Lib.hid (Below.step0 D0.out b6)
  clear b6 J4
  have A1 := fun W => run_bs_add Tryd.prog W l [124, 97] (by simp; omega)
  have e1 : bs [124, 97] = ⟨#[124, 97]⟩ := rfl
  rw [e1] at A1
  clear e1
  obtain ⟨y, hy⟩ : ∃ y, l ++ [124, 97] = y := ⟨_, rfl⟩
  have yl : y.length ≤ 54 := by rw [← hy, List.length_append]; simp; omega
  have CJ := Lib.hid (c_join l)
  rw [hy] at A1 CJ
  by_cases hn4 : n = 4
  · have PJ := Lib.hid (show prB y = false by rw [← hy]; exact pr_join_no (by rw [NA.out, hn4]))
    have KK := Lib.hid (fun W => parts_not y (by omega) PJ.out W)
    have i4 : (n : Int) = 4 := by omega
    clear hy hn4
    go_wp2_with fail
    refine (KK.out _).mono ?_
    rintro e w7 ⟨a7, b7, c7, c8, rfl, z1, z2, y7⟩
    replace HB := Lib.hid (Below.step0 HB.out y7)
    clear y7
    go_wp2_with fail
    go_ret
    exact ⟨rfl, HB.out⟩
  · have PJ := Lib.hid (show prB y = true by rw [← hy]; exact pr_join_yes HP.out (by rw [NA.out]; omega))
    have KK := Lib.hid (fun W => parts_yes y (by omega) PJ.out W)
    have i4 : ¬ (n : Int) = 4 := by omega
    clear hy hn4
    go_wp2_with fail
    refine (KK.out _).mono ?_
    rintro e w7 ⟨ba', oa', bb', ob', m, x, x', rfl, r1, r2, r3, r4, r5, r6, r7, r8, I1, I2, b7⟩
    rw [CJ.out.1] at I1 r7
    rw [CJ.out.2] at I2 r8
    rw [List.length_append] at r7
    obtain rfl : m = n + 1 := by have := NA.out; simp at r7; omega
    obtain ⟨s1, u0⟩ := ints_end I1 NA.out
    obtain ⟨s2, u1⟩ := ints_end I2 NB.out
    have F1 := Lib.hid (ints_front I1 NA.out)
    have F2 := Lib.hid (ints_front I2 NB.out)
    have U1 := Lib.hid u1
    replace HB := Lib.hid (Below.step0 HB.out b7)
    replace D0 := Lib.hid (Below.step0 D0.out b7)
    have D7 := Lib.hid (Below.refl w7.heap.size w7)
    have g1 : x ≤ 9223372036854775807 := r2
    have g2 : x' ≤ 9223372036854775807 := r4
    have g3 : n ≤ x := by omega
    have g4 : n ≤ x' := by omega
    have j1 : (n : Int) < ((n + 1 : Nat) : Int) := by omega
    have j2 : IntKind.i64.wrap ((n : Int) + 1) = ((n + 1 : Nat) : Int) := by rw [IntWalk.i64_in _ (by omega)]; omega
    clear I1 I2 b7 r7 r8
    go_wp2_with fail
    refine (sameInts_b _ _ _ _ _ _ (cA l) (cA l) _ g3 r2 h1 h2 F1.out (J1.out.below D0.out)).mono ?_
    rintro e w8 ⟨rfl, b8⟩
    rw [eqI_self]
    replace HB := Lib.hid (Below.step0 HB.out b8)
    replace D0 := Lib.hid (Below.step0 D0.out b8)
    replace D7 := Lib.hid (Below.step0 D7.out b8)
    clear b8
    go_wp2_with fail
    refine (sameInts_b _ _ _ _ _ _ (cB l) (cB l) _ g4 r4 h3 h4 (F2.out.below D7.out) (J2.out.below D0.out)).mono ?_
    rintro e w9 ⟨rfl, b9⟩
    rw [eqI_self]
    replace HB := Lib.hid (Below.step0 HB.out b9)
    clear b9
    go_wp2_with fail
    go_ret
    exact ⟨rfl, HB.out⟩
end Go.Proofs.YtjiffbddgbigcaaDoor
