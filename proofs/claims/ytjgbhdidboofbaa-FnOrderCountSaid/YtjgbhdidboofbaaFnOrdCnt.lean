/- The walk of FnOrderCount. -/
import Derived.Test.YtjgbhdidboofbaaFnExOrdC
import Derived.Test.YtjgbhdidboofbaaDrawO
import Derived.Deep.RegionHeld3
namespace Go.Proofs.Ytjgbhdidboofbaa
open Go.RowKit
set_option linter.unusedVariables false
set_option linter.unusedSimpArgs false

theorem count_is2 (a b : Option Addr) (la ca lb cb : Nat) (A B : List Int) (w : World) (hla : la ≤ ca) (hma : ca ≤ maxLen) (hlb : lb ≤ cb) (hmb : cb ≤ maxLen) (h : Ints w a la A) (h' : Ints w b lb B) (ha : a ≠ none) (hb : b ≠ none) (hlim : la + lb ≤ 3000000) (v : Int) (hv : cntV A B = v) :
    Calls Try.prog 14 #[.slice a la ca, .slice b lb cb] w fun e w' => e = .returned (.int .i64 v) ∧ Below w.heap.size w w' := by
  subst hv; exact implCount_any a b la ca lb cb A B w hla hma hlb hmb h h' ha hb hlim
theorem ints_take {w : World} {g n k : Nat} {A : List Int} (h : OwnI w g n (it A)) (hL : A.length = n) (hk : k ≤ n) : Ints w (some ⟨g, 0, none⟩) k (A.take k) :=
  (h.take k hk).ints (by rw [List.length_take]; omega) (fun _ _ => rfl)
theorem ints_drop {w : World} {g n k : Nat} {A : List Int} (h : OwnI w g n (it A)) (hL : A.length = n) (hk : k ≤ n) : Ints w (some ⟨g, k, none⟩) (n - k) (A.drop k) := by
  obtain ⟨h1, h2 | ⟨b, off, e, hb, hc⟩⟩ := h.ints hL (fun _ _ => rfl)
  · exact ⟨by rw [List.length_drop, hL], .inl (by omega)⟩
  · cases e
    have := hc.drop k
    rw [Nat.zero_add] at this
    exact ⟨by rw [List.length_drop, hL], .inr ⟨g, k, rfl, hb, this⟩⟩
theorem parts_law {A B : List Int} (h : okB A B = true) {k : Nat} (h0 : 0 < k) (h1 : k < A.length) : cntV (A.take k) (B.take k) * cntV (A.drop k) (B.drop k) = cntV A B := by
  obtain ⟨g1, g2, g3, g4, g5⟩ := ok_true h
  have lt : (A.take k).length = k := by rw [List.length_take]; omega
  have ld : (A.drop k).length = A.length - k := by rw [List.length_drop]
  have o1 : okB (A.take k) (B.take k) = true := ok_mk (by omega) (by omega) (by rw [List.length_take, lt]; omega) (fun i hi => by rw [it_take A k i (by omega)]; exact g4 i (by omega)) (fun i hi => by rw [it_take B k i (by omega)]; exact g5 i (by omega))
  have o2 : okB (A.drop k) (B.drop k) = true := ok_mk (by omega) (by omega) (by rw [List.length_drop, ld]; omega) (fun i hi => by rw [it_drop]; exact g4 _ (by omega)) (fun i hi => by rw [it_drop]; exact g5 _ (by omega))
  rw [cntV_yes h, cntV_yes o1, cntV_yes o2, lt, ld, ← Int.natCast_mul]
  have e := pd_add A B 0 k (A.length - k)
  rw [show k + (A.length - k) = A.length by omega] at e
  rw [e]
  have e1 : pd (A.take k) (B.take k) 0 k = pd A B 0 k := pd_congr k (fun i hi => by unfold ni; rw [Nat.zero_add, it_take A k i hi, it_take B k i hi])
  have e2 : pd (A.drop k) (B.drop k) 0 (A.length - k) = pd A B (0 + k) (A.length - k) := pd_congr _ (fun i hi => by unfold ni; rw [it_drop, it_drop, show k + (0 + i) = 0 + k + i by omega])
  rw [e1, e2]
theorem symm_law {A B : List Int} (h : okB A B = true) : cntV B A = cntV A B := by
  obtain ⟨g1, g2, g3, g4, g5⟩ := ok_true h
  have o : okB B A = true := ok_mk (by omega) (by omega) (by omega) (fun i hi => g5 i (by omega)) (fun i hi => g4 i (by omega))
  rw [cntV_yes h, cntV_yes o, g3, pd_symm]
theorem sm_zero {A : List Int} : ∀ k, (∀ i, i < k → 0 ≤ it A i) → 0 ≤ smI A k ∧ (smI A k ≤ 0 → ∀ i, i < k → it A i = 0)
  | 0, _ => ⟨by simp [smI], fun _ i hi => absurd hi (by omega)⟩
  | k + 1, h => by
    obtain ⟨a, b⟩ := sm_zero k (fun i hi => h i (by omega))
    have c := h k (by omega)
    have e : smI A (k + 1) = smI A k + it A k := rfl
    refine ⟨by omega, fun hs i hi => ?_⟩
    by_cases q : i = k
    · subst q; omega
    · exact b (by omega) i (by omega)
theorem ones_law {A B : List Int} (h : okB A B = true) (hs : smI A A.length ≤ 0 ∨ smI B A.length ≤ 0) : cntV A B = 1 := by
  obtain ⟨g1, g2, g3, g4, g5⟩ := ok_true h
  rw [cntV_yes h]
  have : pd A B 0 A.length = 1 := by
    refine pd_ones _ (fun i hi => ?_)
    rw [Nat.zero_add]
    unfold ni
    rcases hs with hs | hs
    · rw [(sm_zero A.length (fun i hi => (g4 i hi).1)).2 hs i hi]; exact ch_zero _
    · rw [(sm_zero A.length (fun i hi => (g5 i hi).1)).2 hs i hi]; exact ch_zero' _
  rw [this]; rfl

set_option maxRecDepth 100000 in
set_option maxHeartbeats 3200000 in
theorem fnOrderCount_walk (a : Option Addr) (len cap : Nat) (zs : List Int) (a2 : Option Addr) (mlen mcap : Nat) (zs2 : List Int) (w : World) (h : IsRow .u8 w a len cap zs) (h' : IsRow .u8 w a2 mlen mcap zs2) :
    Calls Try.prog 6 #[.slice a len cap, .slice a2 mlen mcap] w fun e w' => e = .returned (.bool true) ∧ Below w.heap.size w w' := by
  obtain ⟨hc, hm⟩ := h.le
  have hm' := hm
  unfold maxLen at hm'
  obtain ⟨hc', hn⟩ := h'.le
  have hn' := hn
  unfold maxLen at hn'
  have h0 := Lib.hid h.bytes
  clear h h'
  by_cases hl : 1048576 < len
  · have d1 : decide ((1048576 : Int) < (len : Int)) = true := by simp; omega
    go_enter Try.func6, Try.ntmps6
    go_wp2_with fail
    go_ret
    exact ⟨rfl, Below.refl _ _⟩
  · have d1 : decide ((1048576 : Int) < (len : Int)) = false := by simp; omega
    by_cases hl' : 1048576 < mlen
    · have d2 : decide ((1048576 : Int) < (mlen : Int)) = true := by simp; omega
      go_enter Try.func6, Try.ntmps6
      go_wp2_with fail
      go_ret
      exact ⟨rfl, Below.refl _ _⟩
    · have d2 : decide ((1048576 : Int) < (mlen : Int)) = false := by simp; omega
      go_enter Try.func6, Try.ntmps6
      go_wp2_with fail
      refine (drawOC_any _ _ _ _ hc hm h0.out).mono ?_
      rintro e w1 ⟨g, g', n, m, c, c', A, B, rfl, n1, n3, m1, m2, hnc, hmc, hcm, hcm', hA, hB, bA, bB, O1, O2, hgg, b1⟩
      have x1 : c ≤ 9223372036854775807 := hcm
      have x2 : c' ≤ 9223372036854775807 := hcm'
      have HA := Lib.hid hA
      have HBL := Lib.hid hB
      have BA := Lib.hid bA
      have BB := Lib.hid bB
      have OA := Lib.hid O1
      have OB := Lib.hid O2
      have HB := Lib.hid b1
      clear hA hB bA bB O1 O2 b1 h0
      go_wp2_with fail
      refine (implCount_any _ _ _ _ _ _ A B _ hnc hcm hmc hcm' (OA.out.ints HA.out (fun _ _ => rfl)) (OB.out.ints HBL.out (fun _ _ => rfl)) (by simp) (by simp) (by omega)).mono ?_
      rintro e w2 ⟨rfl, b2⟩
      replace OA := Lib.hid (OA.out.below b2)
      replace OB := Lib.hid (OB.out.below b2)
      replace HB := Lib.hid (Below.step0 HB.out b2)
      clear b2
      go_wp2_with fail
      refine (specCount_b _ _ _ _ _ _ A B _ hnc hcm hmc hcm' (OA.out.ints HA.out (fun _ _ => rfl)) (OB.out.ints HBL.out (fun _ _ => rfl))).mono ?_
      rintro e w3 ⟨rfl, b3⟩
      replace OA := Lib.hid (OA.out.below b3)
      replace OB := Lib.hid (OB.out.below b3)
      replace HB := Lib.hid (Below.step0 HB.out b3)
      clear b3
      have t1 : (cntV A B != cntV A B) = false := by simp
      have t2 : (cntV A B == cntV A B) = true := by simp
      by_cases hok : okB A B = true
      rotate_left
      · have hok' : okB A B = false := by simpa using hok
        have c0 : cntV A B < 0 := by rw [cntV_no hok']; omega
        go_wp2_with fail
        go_ret
        exact ⟨rfl, HB.out⟩
      have CB := cntV_bd hok
      have HK := Lib.hid hok
      have CV := Lib.hid (cntV_yes hok)
      obtain rfl : m = n := by have := (ok_true hok).2.2.1; rw [HA.out, HBL.out] at this; exact this
      clear hok
      obtain ⟨k, hkq⟩ : ∃ k, mlen % m = k := ⟨_, rfl⟩
      have hk : k < m := by rw [← hkq]; exact Nat.mod_lt _ (by omega)
      have KQ : ((mlen : Int).tmod (m : Int)) = (k : Int) := by rw [← hkq]; rfl
      clear hkq
      by_cases hk0 : k = 0
      · subst hk0
        go_wp2_with fail
        go_region
        all_goals
          have bz := (Below.refl w3.heap.size w3).drew
          go_wp2_with fail
          have bz2 := bz.size
          have OA2 := Lib.hid (OA.out.below bz)
          have OB2 := Lib.hid (OB.out.below bz)
          have HB2 := Lib.hid (Below.step0 HB.out bz)
          refine (count_is2 _ _ _ _ _ _ B A _ hmc hcm' hnc hcm (OB2.out.ints HBL.out (fun _ _ => rfl)) (OA2.out.ints HA.out (fun _ _ => rfl)) (by simp) (by simp) (by omega) (cntV A B) (symm_law HK.out)).mono ?_
          rintro e w9 ⟨rfl, b9⟩
          have OA3 := Lib.hid (OA2.out.below b9)
          have OB3 := Lib.hid (OB2.out.below b9)
          have HB3 := Lib.hid (Below.step0 HB2.out b9)
          clear b9 OA2 OB2 HB2 bz bz2
          go_wp2_with fail
          refine (sumOf_any _ _ _ A _ hnc hcm (by omega) (fun i hi => by have := bdL_it BA.out i (by rw [HA.out]; exact hi); omega) (OA3.out.ints HA.out (fun _ _ => rfl))).mono ?_
          rintro e _ ⟨rfl, rfl⟩
          by_cases z1 : smI A m ≤ 0
          · have ON := ones_law HK.out (.inl (by rw [HA.out]; exact z1))
            have t5 : (cntV A B == 1) = true := by rw [ON]; rfl
            have z2 : ¬ smI A m > 0 := by omega
            clear ON
            go_wp2_with fail
            go_ret
            exact ⟨rfl, HB3.out⟩
          have z2 : smI A m > 0 := by omega
          go_wp2_with fail
          refine (sumOf_any _ _ _ B _ hmc hcm' (by omega) (fun i hi => by have := bdL_it BB.out i (by rw [HBL.out]; exact hi); omega) (OB3.out.ints HBL.out (fun _ _ => rfl))).mono ?_
          rintro e _ ⟨rfl, rfl⟩
          by_cases z3 : smI B m ≤ 0
          · have ON := ones_law HK.out (.inr (by rw [HA.out]; exact z3))
            have t5 : (cntV A B == 1) = true := by rw [ON]; rfl
            have z4 : ¬ smI B m > 0 := by omega
            clear ON
            go_wp2_with fail
            go_ret
            exact ⟨rfl, HB3.out⟩
          have z4 : smI B m > 0 := by omega
          go_wp2_with fail
          go_ret
          exact ⟨rfl, HB3.out⟩

      have hk1 : 0 < k := by omega
      have i1 : (0 : Int) ≤ (k : Int) := by omega
      have i2 : (k : Int) ≤ (m : Int) := by omega
      have i3 : (k : Int) ≤ (c : Int) := by omega
      have i4 : (k : Int) ≤ (c' : Int) := by omega
      have i5 : (m : Int) ≤ (c : Int) := by omega
      have i6 : (m : Int) ≤ (c' : Int) := by omega
      have PL := parts_law HK.out (k := k) (by omega) (by rw [HA.out]; exact hk)
      obtain ⟨v1, V1⟩ : ∃ v, cntV (A.take k) (B.take k) = v := ⟨_, rfl⟩
      obtain ⟨v2, V2⟩ : ∃ v, cntV (A.drop k) (B.drop k) = v := ⟨_, rfl⟩
      rw [V1, V2] at PL
      have a1 : IntKind.i64.wrap (v1 * v2) = cntV A B := by rw [PL]; exact IntWalk.i64_in _ (by omega)
      have V1 := Lib.hid V1
      have V2 := Lib.hid V2
      clear PL
      go_wp2_with fail
      try rw [show decide (0 < k) = true from decide_eq_true hk1]
      go_region_held3 (fun w' => Below w3.heap.size w3 w')
        (first | exact (Below.refl _ _).drew | exact (Below.refl _ _) | (go_split_ands; exact Below.step0 (by assumption) (by assumption)))
        (first | ((go_at_call 14; go_split_ands; (with_reducible refine (count_is2 (some ⟨g, 0, none⟩) (some ⟨g', 0, none⟩) k c k c' (A.take k) (B.take k) _ (by omega) hcm (by omega) hcm' (ints_take (OA.out.below (by first | assumption | (exact (Below.refl _ _).drew) | exact Below.refl _ _)) HA.out (by omega)) (ints_take (OB.out.below (by first | assumption | (exact (Below.refl _ _).drew) | exact Below.refl _ _)) HBL.out (by omega)) (by simp) (by simp) (by omega) v1 V1.out).mono ?_); rintro e w8 ⟨rfl, b8⟩)) | ((go_at_call 14; go_split_ands; (with_reducible refine (count_is2 (some ⟨g, k, none⟩) (some ⟨g', k, none⟩) (m - k) (c - k) (m - k) (c' - k) (A.drop k) (B.drop k) _ (by omega) (by omega) (by omega) (by omega) (ints_drop (OA.out.below (by first | assumption | (exact (Below.refl _ _).drew) | exact Below.refl _ _)) HA.out (by omega)) (ints_drop (OB.out.below (by first | assumption | (exact (Below.refl _ _).drew) | exact Below.refl _ _)) HBL.out (by omega)) (by simp) (by simp) (by omega) v2 V2.out).mono ?_); rintro e w8 ⟨rfl, b8⟩)))
      all_goals
        go_split_ands
        have bz : Below w3.heap.size w3 w8 := by assumption
        go_wp2_with fail
        have bz2 := bz.size
        have OA2 := Lib.hid (OA.out.below bz)
        have OB2 := Lib.hid (OB.out.below bz)
        have HB2 := Lib.hid (Below.step0 HB.out bz)
        refine (count_is2 _ _ _ _ _ _ B A _ hmc hcm' hnc hcm (OB2.out.ints HBL.out (fun _ _ => rfl)) (OA2.out.ints HA.out (fun _ _ => rfl)) (by simp) (by simp) (by omega) (cntV A B) (symm_law HK.out)).mono ?_
        rintro e w9 ⟨rfl, b9⟩
        have OA3 := Lib.hid (OA2.out.below b9)
        have OB3 := Lib.hid (OB2.out.below b9)
        have HB3 := Lib.hid (Below.step0 HB2.out b9)
        clear b9 OA2 OB2 HB2 bz bz2
        go_wp2_with fail
        refine (sumOf_any _ _ _ A _ hnc hcm (by omega) (fun i hi => by have := bdL_it BA.out i (by rw [HA.out]; exact hi); omega) (OA3.out.ints HA.out (fun _ _ => rfl))).mono ?_
        rintro e _ ⟨rfl, rfl⟩
        by_cases z1 : smI A m ≤ 0
        · have ON := ones_law HK.out (.inl (by rw [HA.out]; exact z1))
          have t5 : (cntV A B == 1) = true := by rw [ON]; rfl
          have z2 : ¬ smI A m > 0 := by omega
          clear ON
          go_wp2_with fail
          go_ret
          exact ⟨rfl, HB3.out⟩
        have z2 : smI A m > 0 := by omega
        go_wp2_with fail
        refine (sumOf_any _ _ _ B _ hmc hcm' (by omega) (fun i hi => by have := bdL_it BB.out i (by rw [HBL.out]; exact hi); omega) (OB3.out.ints HBL.out (fun _ _ => rfl))).mono ?_
        rintro e _ ⟨rfl, rfl⟩
        by_cases z3 : smI B m ≤ 0
        · have ON := ones_law HK.out (.inr (by rw [HA.out]; exact z3))
          have t5 : (cntV A B == 1) = true := by rw [ON]; rfl
          have z4 : ¬ smI B m > 0 := by omega
          clear ON
          go_wp2_with fail
          go_ret
          exact ⟨rfl, HB3.out⟩
        have z4 : smI B m > 0 := by omega
        go_wp2_with fail
        go_ret
        exact ⟨rfl, HB3.out⟩
end Go.Proofs.Ytjgbhdidboofbaa
