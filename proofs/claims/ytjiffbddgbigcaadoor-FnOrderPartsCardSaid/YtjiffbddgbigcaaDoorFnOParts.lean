/- The walk of FnOrderParts. -/
import Derived.Test.YtjiffbddgbigcaaDoorParL
namespace Go.Proofs.YtjiffbddgbigcaaDoor
open Go.RowKit
set_option linter.unusedVariables false
set_option linter.unusedSimpArgs false

theorem it_zero (x : Int) (A : List Int) : it (x :: A) 0 = x := rfl
theorem it_succ (x : Int) (A : List Int) (k : Nat) : it (x :: A) (k + 1) = it A k := rfl
theorem smI_cons (x : Int) (A : List Int) : ∀ n, smI (x :: A) (n + 1) = x + smI A n
  | 0 => by show 0 + it (x :: A) 0 = x + 0; rw [it_zero]; omega
  | n + 1 => by
    show smI (x :: A) (n + 1) + it (x :: A) (n + 1) = x + (smI A n + it A n)
    rw [smI_cons x A n, it_succ]
    omega
theorem sum_cnt (y : UInt8) (hy : y ≠ 124) : ∀ l : List UInt8, smI ((sg l).map fun s => ((s.count y : Nat) : Int)) (sg l).length = ((l.count y : Nat) : Int)
  | [] => rfl
  | c :: l => by
    have ih := sum_cnt y hy l
    by_cases h : c = 124
    · subst h
      rw [sg_bar, List.map_cons, List.length_cons, smI_cons, ih, List.count_cons]
      have : ((124 : UInt8) == y) = false := by simpa using fun e => hy e.symm
      rw [this]
      simp
    · rw [sg_cons l h]
      rw [sg_ht l] at ih
      rw [List.map_cons, List.length_cons, smI_cons] at ih ⊢
      rw [List.count_cons, List.count_cons]
      omega
theorem three_cnt : ∀ l : List UInt8, letters l = true → l.count 97 + l.count 98 + l.count 124 = l.length
  | [], _ => rfl
  | c :: l, h => by
    unfold letters at h
    rw [List.all_cons] at h
    simp only [Bool.and_eq_true, decide_eq_true_eq] at h
    have ih := three_cnt l h.2
    rw [List.count_cons, List.count_cons, List.count_cons, List.length_cons]
    rcases h.1 with rfl | rfl | rfl
    · have a : ((97 : UInt8) == 98) = false := by decide
      have b : ((97 : UInt8) == 124) = false := by decide
      rw [a, b]; simp; omega
    · have a : ((98 : UInt8) == 97) = false := by decide
      have b : ((98 : UInt8) == 124) = false := by decide
      rw [a, b]; simp; omega
    · have a : ((124 : UInt8) == 97) = false := by decide
      have b : ((124 : UInt8) == 98) = false := by decide
      rw [a, b]; simp; omega
theorem parts_sum {l : List UInt8} (h : prB l = true) : ∃ a b p : Nat, smI (cA l) (cA l).length = (a : Int) ∧ smI (cB l) (cB l).length = (b : Int) ∧ l.count 124 = p ∧ a + b + p = l.length ∧ (cA l).length = p + 1 := by
  refine ⟨l.count 97, l.count 98, l.count 124, ?_, ?_, rfl, ?_, ?_⟩
  · rw [cA_len]; exact sum_cnt 97 (by decide) l
  · rw [cB_len]; exact sum_cnt 98 (by decide) l
  · refine three_cnt l ?_
    unfold prB at h
    simp only [Bool.and_eq_true] at h
    exact h.1
  · rw [cA_len, sg_count]
theorem cnt_up (l : List UInt8) (k : Nat) (h : k < l.length) (y : UInt8) : (l.take (k + 1)).count y = (l.take k).count y + (if l[k] = y then 1 else 0) := by
  rw [take_up l k h, List.count_append]
  by_cases e : l[k] = y
  · rw [if_pos e, e]; simp
  · rw [if_neg e, List.count_cons]
    have : (l[k] == y) = false := by simpa using e
    rw [this]
    simp
set_option maxRecDepth 100000 in
set_option maxHeartbeats 3200000 in
theorem fnOParts_walk (a : Option Addr) (len cap : Nat) (zs : List Int) (w : World) (h : IsRow .u8 w a len cap zs) :
    Calls Tryd.prog 9 #[.slice a len cap] w fun e w' => e = .returned (.bool true) ∧ Below w.heap.size w w' := by
  obtain ⟨hc, hm⟩ := h.le
  have hm' := hm
  unfold maxLen at hm'
  have h0 := Lib.hid h.bytes
  clear h
  by_cases hl : 1048576 < len
  · go_enter Tryd.func9, Tryd.ntmps9
    go_wp2_with fail
    go_ret
    exact ⟨rfl, Below.refl _ _⟩
  go_enter Tryd.func9, Tryd.ntmps9
  go_wp2_with fail
  refine (drawOP_any _ _ _ _ hc hm h0.out).mono ?_
  rintro e w1 ⟨l, rfl, hl9, b1⟩
  have HB := Lib.hid b1
  clear b1 h0
  go_wp2_with fail
  by_cases hp : prB l = false
  · have PN := Lib.hid hp
    refine (implParts_any l (by omega) _).mono ?_
    rintro e w2 ⟨a1, a2, p1, p2, c1, c2, rfl, h1, h2, h3, h4, I1, I2, b2⟩
    replace HB := Lib.hid (Below.step0 HB.out b2)
    have J1 := Lib.hid I1
    have J2 := Lib.hid I2
    have D0 := Lib.hid (Below.refl w2.heap.size w2)
    clear I1 I2 b2 hp
    rw [PN.out]
    go_wp2_with fail
    refine (specParts_any l (by omega) _).mono ?_
    rintro e w3 ⟨e1, e2, q1, q2, d1, d2, rfl, k1, k2, k3, k4, I3, I4, b3⟩
    replace HB := Lib.hid (Below.step0 HB.out b3)
    replace D0 := Lib.hid (Below.step0 D0.out b3)
    have J3 := Lib.hid I3
    have J4 := Lib.hid I4
    have D1 := Lib.hid (Below.refl w3.heap.size w3)
    clear I3 I4 b3
    rw [PN.out]
    have go : ∀ W, Below w2.heap.size w2 W → Below w3.heap.size w3 W → Calls Tryd.prog 17 #[.slice a1 p1 c1, .slice e1 q1 d1] W fun e W' => e = .returned (.bool true) ∧ Below W.heap.size W W' := by
      intro W x y
      have k := sameInts_b a1 e1 p1 q1 c1 d1 (prA l) (prA l) W h1 h2 k1 k2 (J1.out.below x) (J3.out.below y)
      rw [eqI_self] at k
      exact k
    have go2 : ∀ W, Below w2.heap.size w2 W → Below w3.heap.size w3 W → Calls Tryd.prog 17 #[.slice a2 p2 c2, .slice e2 q2 d2] W fun e W' => e = .returned (.bool true) ∧ Below W.heap.size W W' := by
      intro W x y
      have k := sameInts_b a2 e2 p2 q2 c2 d2 (prC l) (prC l) W h3 h4 k3 k4 (J2.out.below x) (J4.out.below y)
      rw [eqI_self] at k
      exact k
    have GO := Lib.hid go
    have GO2 := Lib.hid go2
    clear go go2 J1 J2 J3 J4
    go_wp2_with fail
    refine (GO.out _ D0.out D1.out).mono ?_
    rintro e x1 ⟨rfl, y1⟩
    replace HB := Lib.hid (Below.step0 HB.out y1)
    replace D0 := Lib.hid (Below.step0 D0.out y1)
    replace D1 := Lib.hid (Below.step0 D1.out y1)
    clear y1
    go_wp2_with fail
    refine (GO2.out _ D0.out D1.out).mono ?_
    rintro e x2 ⟨rfl, y2⟩
    replace HB := Lib.hid (Below.step0 HB.out y2)
    replace D0 := Lib.hid (Below.step0 D0.out y2)
    replace D1 := Lib.hid (Below.step0 D1.out y2)
    clear y2
    go_wp2_with fail
    refine (GO.out _ D0.out D1.out).mono ?_
    rintro e x3 ⟨rfl, y3⟩
    replace HB := Lib.hid (Below.step0 HB.out y3)
    replace D0 := Lib.hid (Below.step0 D0.out y3)
    replace D1 := Lib.hid (Below.step0 D1.out y3)
    clear y3
    go_wp2_with fail
    refine (GO2.out _ D0.out D1.out).mono ?_
    rintro e x4 ⟨rfl, y4⟩
    replace HB := Lib.hid (Below.step0 HB.out y4)
    replace D0 := Lib.hid (Below.step0 D0.out y4)
    replace D1 := Lib.hid (Below.step0 D1.out y4)
    clear y4
    go_wp2_with fail
    go_ret
    exact ⟨rfl, HB.out⟩
  have hp' : prB l = true := by simpa using hp
  have HP := Lib.hid hp'
  have hl52 : l.length ≤ 52 := pr_len hp'
  obtain ⟨sa, sb, bp, u1, u2, u3, u4, u5⟩ := parts_sum hp'
  have CB := cntV_bd (pr_yes hp').1
  have OKB := Lib.hid (pr_yes hp').1
  have CN := Lib.hid u3
  have S1 := Lib.hid u1
  have S2 := Lib.hid u2
  have jb : ((bs l).size : Int) = (l.length : Int) := by rw [bs_size]
  clear hp hp' u1 u2 u3
  refine (parts_yes l (by omega) HP.out _).mono ?_
  rintro e w4 ⟨ba, oa, bb, ob, n, c, c', rfl, h1, h2, h3, h4, n1, n4, nA, nB, I1, I2, b4⟩
  replace HB := Lib.hid (Below.step0 HB.out b4)
  have J1 := Lib.hid I1
  have J2 := Lib.hid I2
  have NA := Lib.hid nA
  have NB := Lib.hid nB
  have D0 := Lib.hid (Below.refl w4.heap.size w4)
  obtain rfl : n = bp + 1 := by omega
  clear I1 I2 b4 nA nB u5
  go_wp2_with fail
  refine (specParts_any l (by omega) _).mono ?_
  rintro e w3 ⟨e1, e2, q1, q2, d1, d2, rfl, k1, k2, k3, k4, I3, I4, b3⟩
  rw [(prA_yes HP.out).1] at I3
  rw [(prA_yes HP.out).2] at I4
  rw [HP.out]
  replace HB := Lib.hid (Below.step0 HB.out b3)
  replace D0 := Lib.hid (Below.step0 D0.out b3)
  have J3 := Lib.hid I3
  have J4 := Lib.hid I4
  clear I3 I4 b3
  go_wp2_with fail
  refine (sameInts_b _ _ _ _ _ _ (cA l) (cA l) _ h1 h2 k1 k2 (J1.out.below D0.out) J3.out).mono ?_
  rintro e w5 ⟨rfl, b5⟩
  rw [eqI_self]
  replace HB := Lib.hid (Below.step0 HB.out b5)
  replace D0 := Lib.hid (Below.step0 D0.out b5)
  replace J4 := Lib.hid (J4.out.below b5)
  clear b5 J3
  go_wp2_with fail
  refine (sameInts_b _ _ _ _ _ _ (cB l) (cB l) _ h3 h4 k3 k4 (J2.out.below D0.out) J4.out).mono ?_
  rintro e w6 ⟨rfl, b6⟩
  rw [eqI_self]
  replace HB := Lib.hid (Below.step0 HB.out b6)
  replace D0 := Lib.hid (Below.step0 D0.out b6)
  clear b6 J4
  go_wp2_with fail
  go_loop [10, 11] (fun vb vi => ∃ k p : Nat, vi = .int .i64 k ∧ vb = .int .i64 p ∧ k ≤ l.length ∧ p ≤ k ∧ Hid ((l.take k).count 124 = p)) (fun _ vi => (l.length - intOf vi).toNat)
  case atStart => exact ⟨0, 0, rfl, rfl, Nat.zero_le _, Nat.le_refl _, (by simp : (l.take 0).count 124 = 0)⟩
  case round =>
    obtain ⟨k, p, rfl, rfl, hk, hpk, HC⟩ := hrel
    by_cases hlt : k < l.length
    · have i1 : (k : Int) < ((bs l).size : Int) := by rw [jb]; omega
      have IX := fun V => idx_at V l k hlt
      have cu := cnt_up l k hlt 124
      rw [HC.out] at cu
      by_cases hc2 : l[k] = 124
      · rw [if_pos hc2] at cu
        rw [hc2] at IX
        have IX' : ∀ V : World, (Instr.index 9 (.string (bs l)) (.int .i64 (k : Int))).run Tryd.prog V = .ok (.int .u8 124) V := IX
        have CU := Lib.hid cu
        clear IX cu hc2 jb HC
        go_wp2_with fail
        go_round
        case rel => exact ⟨k + 1, p + 1, by go_num, by go_num, by omega, by omega, CU.out⟩
        case measure => simp [intOf]; omega
      · rw [if_neg hc2] at cu
        have CU := Lib.hid cu
        obtain ⟨x, hx⟩ : ∃ x, l[k] = x := ⟨_, rfl⟩
        rw [hx] at IX hc2
        have d3 : ((x.toNat : Int) == 124) = false := by
          simp only [beq_eq_false_iff_ne, ne_eq]
          intro q
          exact hc2 (UInt8.toNat_inj.mp (by show x.toNat = 124; omega))
        clear cu hc2 jb HC hx
        go_wp2_with fail
        go_round
        case rel => exact ⟨k + 1, p, by go_num, by go_num, by omega, by omega, CU.out⟩
        case measure => simp [intOf]; omega
    · obtain rfl : k = l.length := by omega
      have e0 := HC.out
      rw [List.take_length, CN.out] at e0
      subst e0
      have i1 : ¬ ((l.length : Nat) : Int) < ((bs l).size : Int) := by rw [jb]; omega
      have jb2 := Lib.hid jb
      have z1 : IntKind.i64.wrap ((bp : Int) + 1) = (bp : Int) + 1 := IntWalk.i64_in _ (by omega)
      have z2 : IntKind.i64.wrap ((sa : Int) + (sb : Int)) = (sa : Int) + (sb : Int) := IntWalk.i64_in _ (by omega)
      have z3 : IntKind.i64.wrap ((sa : Int) + (sb : Int) + (bp : Int)) = ((bs l).size : Int) := by rw [IntWalk.i64_in _ (by omega), jb]; omega
      have x1 : (1 : Int) ≤ cntV (cA l) (cB l) := CB.1
      have OKH := OKB
      have SU1 : ∀ W, Below w4.heap.size w4 W → Calls Tryd.prog 25 #[.slice (some ⟨ba, oa, none⟩) (bp + 1) c] W fun e w' => e = .returned (.int .i64 (sa : Int)) ∧ W = w' := by
        intro W x
        have k := sumOf_any (some ⟨ba, oa, none⟩) (bp + 1) c (cA l) W h1 h2 (by omega) (fun i hi => by have := (it_le l i); omega) (J1.out.below x)
        rw [← NA.out, S1.out] at k
        rw [NA.out] at k
        exact k
      have SU2 : ∀ W, Below w4.heap.size w4 W → Calls Tryd.prog 25 #[.slice (some ⟨bb, ob, none⟩) (bp + 1) c'] W fun e w' => e = .returned (.int .i64 (sb : Int)) ∧ W = w' := by
        intro W x
        have k := sumOf_any (some ⟨bb, ob, none⟩) (bp + 1) c' (cB l) W h3 h4 (by omega) (fun i hi => by have := (it_le l i); omega) (J2.out.below x)
        rw [← NB.out, S2.out] at k
        rw [NB.out] at k
        exact k
      have SH1 := Lib.hid SU1
      have SH2 := Lib.hid SU2
      have CT := Lib.hid (fun W (x : Below w4.heap.size w4 W) => count_is _ _ _ _ _ _ (cA l) (cB l) W h1 h2 h3 h4 (J1.out.below x) (J2.out.below x) (by simp) (by simp) (by omega) (v := cntV (cA l) (cB l)) rfl)
      obtain ⟨q, hq⟩ : ∃ q, cntV (cA l) (cB l) = q := ⟨_, rfl⟩
      rw [hq] at x1 CT
      clear jb SU1 SU2 hq CB i1
      have i1 : ¬ ((l.length : Nat) : Int) < ((bs l).size : Int) := by rw [jb2.out]; omega
      go_wp2_with fail
      refine (SH1.out _ D0.out).mono ?_
      rintro e _ ⟨rfl, rfl⟩
      go_wp2_with fail
      refine (SH2.out _ D0.out).mono ?_
      rintro e _ ⟨rfl, rfl⟩
      go_wp2_with fail
      refine (CT.out _ D0.out).mono ?_
      rintro e w7 ⟨rfl, b7⟩
      replace HB := Lib.hid (Below.step0 HB.out b7)
      clear b7
      go_wp2_with fail
      go_ret
      exact ⟨rfl, HB.out⟩
end Go.Proofs.YtjiffbddgbigcaaDoor
