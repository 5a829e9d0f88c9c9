/- The walk of FnOrderNthParts. -/
import Derived.Test.YtjiffbddgbigcaaDoorParL
namespace Go.Proofs.YtjiffbddgbigcaaDoor
open Go.RowKit
set_option linter.unusedVariables false
set_option linter.unusedSimpArgs false

theorem it_take9 (A : List Int) (k i : Nat) (h : i < k) : it (A.take k) i = it A i := by
  unfold it
  rw [List.getD_eq_getElem?_getD, List.getD_eq_getElem?_getD, List.getElem?_take, if_pos h]
theorem it_drop9 (A : List Int) (k i : Nat) : it (A.drop k) i = it A (k + i) := by
  unfold it
  rw [List.getD_eq_getElem?_getD, List.getD_eq_getElem?_getD, List.getElem?_drop]
theorem ints_take {w : World} {g n k : Nat} {A : List Int} (h : OwnI w g n (it A)) (hL : A.length = n) (hk : k ≤ n) : Ints w (some ⟨g, 0, none⟩) k (A.take k) :=
  (h.take k hk).ints (by rw [List.length_take]; omega) (fun _ _ => rfl)
theorem ints_drop {w : World} {g n k : Nat} {A : List Int} (h : OwnI w g n (it A)) (hL : A.length = n) (hk : k ≤ n) : Ints w (some ⟨g, k, none⟩) (n - k) (A.drop k) := by
  obtain ⟨h1, h2 | ⟨b, off, e, hb, hc⟩⟩ := h.ints hL (fun _ _ => rfl)
  · exact ⟨by rw [List.length_drop, hL], .inl (by omega)⟩
  · cases e
    have := hc.drop k
    rw [Nat.zero_add] at this
    exact ⟨by rw [List.length_drop, hL], .inr ⟨g, k, rfl, hb, this⟩⟩
theorem ni_drop (A : List Int) (k : Nat) : ni (A.drop 1) k = ni A (k + 1) := by
  unfold ni
  rw [it_drop9, Nat.add_comm]
theorem ni_take (A : List Int) : ni (A.take 1) 0 = ni A 0 := by
  unfold ni
  rw [it_take9 A 1 0 (by omega)]
theorem cc_drop (A B : List Int) (k : Nat) : cc (A.drop 1) (B.drop 1) k = cc A B (k + 1) := by
  unfold cc
  rw [ni_drop, ni_drop]
theorem tl_drop (A B : List Int) (k : Nat) : tl (A.drop 1) (B.drop 1) k = tl A B (k + 1) := by
  unfold tl
  rw [List.length_drop, show A.length - 1 - k = A.length - (k + 1) by omega]
  exact pd_congr _ (fun i _ => by rw [ni_drop, ni_drop, show k + i + 1 = k + 1 + i by omega])
theorem dg_drop {A B : List Int} (r : Nat) {i : Nat} (h : i + 1 < A.length) : dg (A.drop 1) (B.drop 1) (r % tl A B 1) i = dg A B r (i + 1) := by
  unfold dg
  rw [tl_drop, cc_drop]
  have e : tl A B 1 = pd A B 1 i * cc A B (i + 1) * tl A B (i + 1 + 1) := by
    have p := pd_add A B 1 i (A.length - (i + 1))
    rw [show i + (A.length - (i + 1)) = A.length - 1 by omega, show 1 + i = i + 1 by omega] at p
    rw [Nat.mul_assoc, ← tl_step h]
    exact p
  rw [e, Nat.mod_mul_left_div_self, Nat.mod_mul_left_mod]
theorem pt_drop {A B : List Int} (r : Nat) {i : Nat} (h : i + 1 < A.length) : pt (A.drop 1) (B.drop 1) (r % tl A B 1) i = pt A B r (i + 1) := by
  unfold pt
  rw [ni_drop, ni_drop, dg_drop r h]
theorem nth_split {A B : List Int} {r : Nat} (h : okB A B = true) (hr : r < tl A B 0) (h2 : 2 ≤ A.length) : ∃ (rest q1 q2 : Nat) (t1 t2 : List UInt8),
    cntV (A.drop 1) (B.drop 1) = (rest : Int) ∧ 1 ≤ rest ∧ rest ≤ 728933458176 ∧ r / rest = q1 ∧ r % rest = q2 ∧ nthT (A.take 1) (B.take 1) (q1 : Int) = t1 ∧ nthB (A.take 1) (B.take 1) (q1 : Int) = true ∧
    nthT (A.drop 1) (B.drop 1) (q2 : Int) = t2 ∧ nthB (A.drop 1) (B.drop 1) (q2 : Int) = true ∧ ordT A B r = t1 ++ [124] ++ t2 ∧ t1.length ≤ 100 ∧ t2.length ≤ 100 := by
  obtain ⟨g1, g2, g3, g4, g5⟩ := ok_true h
  have lt : (A.take 1).length = 1 := by rw [List.length_take]; omega
  have ld : (A.drop 1).length = A.length - 1 := by rw [List.length_drop]
  have o1 : okB (A.take 1) (B.take 1) = true := ok_mk (by omega) (by omega) (by rw [List.length_take, lt]; omega) (fun i hi => by rw [it_take9 A 1 i (by omega)]; exact g4 i (by omega)) (fun i hi => by rw [it_take9 B 1 i (by omega)]; exact g5 i (by omega))
  have o2 : okB (A.drop 1) (B.drop 1) = true := ok_mk (by omega) (by omega) (by rw [List.length_drop, ld]; omega) (fun i hi => by rw [it_drop9]; exact g4 _ (by omega)) (fun i hi => by rw [it_drop9]; exact g5 _ (by omega))
  have b := tl_bd h (k := 1) (by omega)
  have tz := tl_drop A B 0
  have st := tl_step (A := A) (B := B) (k := 0) (by omega)
  have c1 : cc (A.take 1) (B.take 1) 0 = cc A B 0 := by unfold cc; rw [ni_take, ni_take]
  have t1 : tl (A.take 1) (B.take 1) 1 = 1 := by
    have := tl_last (A.take 1) (B.take 1)
    rw [lt] at this
    exact this
  have t0 : tl (A.take 1) (B.take 1) 0 = cc A B 0 := by rw [tl_step (by omega), t1, c1, Nat.mul_one]
  have q1 : r / tl A B 1 < cc A B 0 := by
    refine Nat.div_lt_of_lt_mul ?_
    rw [Nat.mul_comm]
    rw [st] at hr
    exact hr
  have q2 : r % tl A B 1 < tl A B 1 := Nat.mod_lt _ (by omega)
  have y1 := nth_at o1 (r := r / tl A B 1) (by rw [t0]; exact q1)
  have y2 := nth_at o2 (r := r % tl A B 1) (by rw [tz]; exact q2)
  refine ⟨tl A B 1, _, _, _, _, by rw [cntV_tl o2, tz], b.1, b.2, rfl, rfl, rfl, y1.2, rfl, y2.2, ?_, nthT_len, nthT_len⟩
  rw [y1.1, y2.1]
  obtain ⟨m, hm⟩ : ∃ m, A.length = m + 1 + 1 := ⟨A.length - 2, by omega⟩
  unfold ordT
  rw [lt, jn_one, hm, jn_front, ld, hm, Nat.add_sub_cancel]
  have e1 : pt (A.take 1) (B.take 1) (r / tl A B 1) 0 = pt A B r 0 := by
    unfold pt
    rw [ni_take, ni_take]
    have d1 : dg (A.take 1) (B.take 1) (r / tl A B 1) 0 = dg A B r 0 := by
      unfold dg
      rw [show (0 + 1 : Nat) = 1 from rfl, t1, c1, Nat.div_one]
    rw [d1]
  rw [e1, jn_congr (f := pt (A.drop 1) (B.drop 1) (r % tl A B 1)) (m + 1) (fun i hi => pt_drop r (by omega))]
set_option maxRecDepth 100000 in
set_option maxHeartbeats 3200000 in
theorem fnONthP_walk (a : Option Addr) (len cap : Nat) (zs : List Int) (w : World) (h : IsRow .u8 w a len cap zs) :
    Calls Tryd.prog 3 #[.slice a len cap] w fun e w' => e = .returned (.bool true) ∧ Below w.heap.size w w' := by
  obtain ⟨hc, hm⟩ := h.le
  have hm' := hm
  unfold maxLen at hm'
  have h0 := Lib.hid h.bytes
  clear h
  by_cases hl : 1048576 < len
  · go_enter Tryd.func3, Tryd.ntmps3
    go_wp2_with fail
    go_ret
    exact ⟨rfl, Below.refl _ _⟩
  go_enter Tryd.func3, Tryd.ntmps3
  go_wp2_with fail
  refine (drawON_any _ _ _ _ hc hm h0.out).mono ?_
  rintro e w1 ⟨g, g', n, m, c, c', A, B, v, rfl, n1, n3, m1, m2, hnc, hmc, hcm, hcm', hA, hB, bA, bB, O1, O2, hgg, v0, v5, b1⟩
  have OA := Lib.hid O1
  have OB := Lib.hid O2
  have HA := Lib.hid hA
  have HBL := Lib.hid hB
  have x1 : c ≤ 9223372036854775807 := hcm
  have x2 : c' ≤ 9223372036854775807 := hcm'
  have HB := Lib.hid b1
  clear hA hB bA bB O1 O2 b1 h0
  go_wp2_with fail
  refine (implNth_any _ _ _ _ _ _ A B v _ hnc hcm hmc hcm' (OA.out.ints HA.out (fun _ _ => rfl)) (OB.out.ints HBL.out (fun _ _ => rfl)) (by simp) (by simp) (by omega)).mono ?_
  rintro e w2 ⟨rfl, b2⟩
  replace OA := Lib.hid (OA.out.below b2)
  replace OB := Lib.hid (OB.out.below b2)
  replace HB := Lib.hid (Below.step0 HB.out b2)
  clear b2
  go_wp2_with fail
  refine (specNth_b _ _ _ _ _ _ A B v _ hnc hcm hmc hcm' (OA.out.ints HA.out (fun _ _ => rfl)) (OB.out.ints HBL.out (fun _ _ => rfl))).mono ?_
  rintro e w3 ⟨rfl, b3⟩
  replace OA := Lib.hid (OA.out.below b3)
  replace OB := Lib.hid (OB.out.below b3)
  replace HB := Lib.hid (Below.step0 HB.out b3)
  clear b3
  by_cases hno : nthB A B v = false
  · rw [hno, nthT_no hno]
    generalize bs [] = ss at *
    have t2 : (ss.toList == ss.toList) = true := by simp
    clear hno
    go_wp2_with fail
    go_ret
    exact ⟨rfl, HB.out⟩
  have hyes : nthB A B v = true := by simpa using hno
  rw [hyes, nthT_yes hyes]
  obtain ⟨hok, r, rfl, hr⟩ := nthB_yes hyes
  rw [show ((r : Int)).toNat = r from Int.toNat_natCast r]
  have hr9 : r ≤ 728933458176 := by have := (tl_bd hok (k := 0) (by omega)).2; omega
  obtain rfl : m = n := by have := (ok_true hok).2.2.1; rw [HA.out, HBL.out] at this; exact this
  by_cases hn1 : m = 1
  · subst hn1
    obtain ⟨l, hlx⟩ : ∃ l, ordT A B r = l := ⟨_, rfl⟩
    have hp : prB l = true := by rw [← hlx]; exact ord_prB hok r
    rw [hlx]
    have RV := Lib.hid (show rkV l = (r : Int) by rw [rkV_nat hp, ← hlx, ord_rank hok hr])
    have hl52 : l.length ≤ 52 := pr_len hp
    have RR := Lib.hid (fun W => rank_is l (by omega) W RV.out)
    have t4 : ((bs l).toList == (bs l).toList) = true := by simp
    clear hno hyes hok hr hlx hp
    go_wp2_with fail
    refine (RR.out _).mono ?_
    rintro e w5 ⟨rfl, b5⟩
    replace HB := Lib.hid (Below.step0 HB.out b5)
    clear b5
    go_wp2_with fail
    go_ret
    exact ⟨rfl, HB.out⟩
  obtain ⟨rest, q1, q2, t1, t2, k1, k2, k3, k4, k5, k6, k7, k8, k9, k10, k11, k12⟩ := nth_split hok hr (by rw [HA.out]; omega)
  rw [k10]
  have K1 := Lib.hid k1
  have K6 := Lib.hid k6
  have K7 := Lib.hid k7
  have K8 := Lib.hid k8
  have K9 := Lib.hid k9
  have y1 : (r : Int).tdiv (rest : Int) = (q1 : Int) := by rw [← k4]; rfl
  have y2 : (r : Int).tmod (rest : Int) = (q2 : Int) := by rw [← k5]; rfl
  have y3 : (r : Int) / (rest : Int) = (q1 : Int) := by rw [← k4]; rfl
  have y4 : (r : Int) % (rest : Int) = (q2 : Int) := by rw [← k5]; rfl
  have y5 : rest ≠ 0 := by omega
  have j1 : (1 : Int) ≤ (m : Int) := by omega
  have j2 : (m : Int) ≤ (c : Int) := by omega
  have j3 : (m : Int) ≤ (c' : Int) := by omega
  have j4 : (1 : Int) ≤ (c : Int) := by omega
  have j5 : (1 : Int) ≤ (c' : Int) := by omega
  have j6 : ¬ (m : Int) = 1 := by omega
  have j7 : ¬ c = 1 := by omega
  have j8 : ¬ c' = 1 := by omega
  have hq1 : q1 ≤ r := by rw [← k4]; exact Nat.div_le_self _ _
  have y6 : IntKind.i64.wrap (q1 : Int) = (q1 : Int) := IntWalk.i64_in _ (by omega)
  have A1 := fun W => run_bs_add Tryd.prog W t1 [124] (by simp; omega)
  have A3 := fun W => run_bs_add Tryd.prog W (t1 ++ [124]) t2 (by simp; omega)
  have e1 : bs [124] = ⟨#[124]⟩ := rfl
  rw [e1] at A1
  obtain ⟨t5, h5⟩ : ∃ t5, t1 ++ [124] = t5 := ⟨_, rfl⟩
  rw [h5] at A1 A3 ⊢
  obtain ⟨tt, htt⟩ : ∃ tt, t5 ++ t2 = tt := ⟨_, rfl⟩
  rw [htt] at A3 ⊢
  have t4 : ((bs tt).toList == (bs tt).toList) = true := by simp
  have CI := Lib.hid (fun W (x : Below w3.heap.size w3 W) => count_is (some ⟨g, 1, none⟩) (some ⟨g', 1, none⟩) (m - 1) (c - 1) (m - 1) (c' - 1) (A.drop 1) (B.drop 1) W (by omega) (by omega) (by omega) (by omega) (ints_drop (OA.out.below x) HA.out (by omega)) (ints_drop (OB.out.below x) HBL.out (by omega)) (by simp) (by simp) (by omega) K1.out)
  have N1 := Lib.hid (fun W (x : Below w3.heap.size w3 W) => nth_is (some ⟨g, 0, none⟩) (some ⟨g', 0, none⟩) 1 c 1 c' (A.take 1) (B.take 1) (q1 : Int) W (by omega) (by omega) (by omega) (by omega) (ints_take (OA.out.below x) HA.out (by omega)) (ints_take (OB.out.below x) HBL.out (by omega)) (by simp) (by simp) (by omega) K6.out K7.out)
  have N2 := Lib.hid (fun W (x : Below w3.heap.size w3 W) => nth_is (some ⟨g, 1, none⟩) (some ⟨g', 1, none⟩) (m - 1) (c - 1) (m - 1) (c' - 1) (A.drop 1) (B.drop 1) (q2 : Int) W (by omega) (by omega) (by omega) (by omega) (ints_drop (OA.out.below x) HA.out (by omega)) (ints_drop (OB.out.below x) HBL.out (by omega)) (by simp) (by simp) (by omega) K8.out K9.out)
  clear hno hyes hok hr k1 k4 k5 k6 k7 k8 k9 k10 hn1 e1 h5 htt
  go_wp2_with fail
  go_region_held3 (fun w' => Below w3.heap.size w3 w')
  (first | exact (Below.refl _ _).drew | exact (Below.refl _ _) | (go_split_ands; exact Below.step0 (by assumption) (by assumption)))
  ((go_at_call 15; go_split_ands; (with_reducible refine (CI.out _ (by first | assumption | (exact (Below.refl _ _).drew) | exact Below.refl _ _)).mono ?_); rintro e w8 ⟨rfl, b8⟩))
  go_split_ands
  have bz1 : Below w3.heap.size w3 w8 := by assumption
  obtain ⟨v1, hv1⟩ : ∃ v, w8 = v := ⟨_, rfl⟩
  rw [hv1] at bz1 ⊢
  clear hv1 b8
  go_wp2_with fail
  go_region_held3 (fun w' => Below w3.heap.size w3 w')
  (first | exact bz1.drew | exact bz1 | (go_split_ands; exact Below.step0 (by assumption) b8))
  ((go_at_call 12; go_split_ands; (with_reducible refine (N1.out _ (by first | assumption | exact bz1 | exact bz1.drew)).mono ?_); rintro e w8 ⟨rfl, b8⟩))
  go_split_ands
  have bz2 : Below w3.heap.size w3 w8 := by assumption
  obtain ⟨v2, hv2⟩ : ∃ v, w8 = v := ⟨_, rfl⟩
  rw [hv2] at bz2 ⊢
  clear hv2 b8 bz1
  go_wp2_with fail
  go_region_held3 (fun w' => Below w3.heap.size w3 w')
  (first | exact bz2.drew | exact bz2 | (go_split_ands; exact Below.step0 (by assumption) b8))
  ((go_at_call 12; go_split_ands; (with_reducible refine (N2.out _ (by first | assumption | exact bz2 | exact bz2.drew)).mono ?_); rintro e w8 ⟨rfl, b8⟩))
  go_split_ands
  have bz3 : Below w3.heap.size w3 w8 := by assumption
  have B9 := Lib.hid (HB.out.trans (bz3.mono HB.out.size))
  clear bz2 bz3 b8
  go_wp2_with fail
  go_ret
  exact ⟨rfl, B9.out⟩
end Go.Proofs.YtjiffbddgbigcaaDoor
