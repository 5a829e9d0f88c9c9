/- The walk of FnBetweenParts. -/
import Derived.Test.YtjgbhdidboofbaaFnExOrdB
import Derived.Test.YtjgbhdidboofbaaDrawB
import Derived.Test.YtjgbhdidboofbaaBetL
import Derived.Deep.RegionHeld3
namespace Go.Proofs.Ytjgbhdidboofbaa
open Go.RowKit
set_option linter.unusedVariables false
set_option linter.unusedSimpArgs false

theorem bet_is (a b : Option Addr) (la ca lb cb : Nat) (A B : List Int) (i k : Int) (w : World) (hla : la ≤ ca) (hma : ca ≤ maxLen) (hlb : lb ≤ cb) (hmb : cb ≤ maxLen) (i1 : -9223372036854775808 ≤ i) (i2 : i ≤ 9223372036854775807) (k1 : -9223372036854775808 ≤ k) (k2 : k ≤ 9223372036854775807) (h : Ints w a la A) (h' : Ints w b lb B) (ha : a ≠ none) (hb : b ≠ none) (hlim : la + lb ≤ 3000000) (v : Int) (hv : betV A B i k = v) :
    Calls Try.prog 19 #[.slice a la ca, .slice b lb cb, .int .i64 i, .int .i64 k] w fun e w' => e = .returned (.int .i64 v) ∧ Below w.heap.size w w' := by
  subst hv; exact implBet_any a b la ca lb cb A B i k w hla hma hlb hmb i1 i2 k1 k2 h h' ha hb hlim

theorem count_is3 (a b : Option Addr) (la ca lb cb : Nat) (A B : List Int) (w : World) (hla : la ≤ ca) (hma : ca ≤ maxLen) (hlb : lb ≤ cb) (hmb : cb ≤ maxLen) (h : Ints w a la A) (h' : Ints w b lb B) (ha : a ≠ none) (hb : b ≠ none) (hlim : la + lb ≤ 3000000) (v : Int) (hv : cntV A B = v) :
    Calls Try.prog 14 #[.slice a la ca, .slice b lb cb] w fun e w' => e = .returned (.int .i64 v) ∧ Below w.heap.size w w' := by
  subst hv; exact implCount_any a b la ca lb cb A B w hla hma hlb hmb h h' ha hb hlim

theorem smI_take (A : List Int) (k : Nat) : ∀ j, j ≤ k → smI (A.take k) j = smI A j
  | 0, _ => rfl
  | j + 1, h => by
    show smI (A.take k) j + it (A.take k) j = smI A j + it A j
    rw [smI_take A k j (by omega), it_take A k j (by omega)]
theorem sumOf_is (a : Option Addr) (n c : Nat) (A : List Int) (w : World) (hc : n ≤ c) (hm : c ≤ maxLen) (h20 : n ≤ 1048576) (hb : ∀ i, i < n → -1000000000000 ≤ it A i ∧ it A i ≤ 1000000000000) (h : Ints w a n A) (v : Int) (hv : smI A n = v) :
    Calls Try.prog 17 #[.slice a n c] w fun e w' => e = .returned (.int .i64 v) ∧ w' = w := by
  subst hv
  exact (sumOf_any a n c A w hc hm h20 hb h).mono (by rintro e _ ⟨rfl, rfl⟩; exact ⟨rfl, rfl⟩)
theorem ints_take3 {w : World} {g n k : Nat} {A : List Int} (h : OwnI w g n (it A)) (hL : A.length = n) (hk : k ≤ n) : Ints w (some ⟨g, 0, none⟩) k (A.take k) :=
  (h.take k hk).ints (by rw [List.length_take]; omega) (fun _ _ => rfl)

set_option maxRecDepth 100000 in
set_option maxHeartbeats 3200000 in
theorem fnBetweenParts_walk (a : Option Addr) (len cap : Nat) (zs : List Int) (w : World) (h : IsRow .u8 w a len cap zs) :
    Calls Try.prog 11 #[.slice a len cap] w fun e w' => e = .returned (.bool true) ∧ Below w.heap.size w w' := by
  obtain ⟨hc, hm⟩ := h.le
  have hm' := hm
  unfold maxLen at hm'
  have h0 := Lib.hid h.bytes
  clear h
  by_cases hl : 1048576 < len
  · go_enter Try.func11, Try.ntmps11
    go_wp2_with fail
    go_ret
    exact ⟨rfl, Below.refl _ _⟩
  · go_enter Try.func11, Try.ntmps11
    go_wp2_with fail
    refine (drawOB_any _ _ _ _ hc hm h0.out).mono ?_
    rintro e w1 ⟨g, g', n, m, c, c', A, B, i, k, rfl, n1, n3, m1, m2, hnc, hmc, hcm, hcm', hA, hB, bA, bB, O1, O2, hgg, i0, i5, k0, k5, b1⟩
    have x1 : c ≤ 9223372036854775807 := hcm
    have x2 : c' ≤ 9223372036854775807 := hcm'
    have HA := Lib.hid hA
    have HBL := Lib.hid hB
    have BA := Lib.hid bA
    have BB := Lib.hid bB
    have OA := Lib.hid O1
    have OB := Lib.hid O2
    have HB := Lib.hid b1
    clear hA hB bA bB O1 O2 b1 h0
    go_wp2_with fail
    refine (implBet_any _ _ _ _ _ _ A B i k _ hnc hcm hmc hcm' (by omega) (by omega) (by omega) (by omega) (OA.out.ints HA.out (fun _ _ => rfl)) (OB.out.ints HBL.out (fun _ _ => rfl)) (by simp) (by simp) (by omega)).mono ?_
    rintro e w2 ⟨rfl, b2⟩
    replace OA := Lib.hid (OA.out.below b2)
    replace OB := Lib.hid (OB.out.below b2)
    replace HB := Lib.hid (Below.step0 HB.out b2)
    clear b2
    go_wp2_with fail
    refine (specBet_b _ _ _ _ _ _ A B i k _ hnc hcm hmc hcm' (by omega) (by omega) (OA.out.ints HA.out (fun _ _ => rfl)) (OB.out.ints HBL.out (fun _ _ => rfl))).mono ?_
    rintro e w3 ⟨rfl, b3⟩
    replace OA := Lib.hid (OA.out.below b3)
    replace OB := Lib.hid (OB.out.below b3)
    replace HB := Lib.hid (Below.step0 HB.out b3)
    clear b3
    have t1 : (betV A B i k != betV A B i k) = false := by simp
    have t2 : (betV A B i k == betV A B i k) = true := by simp
    by_cases hneg : betV A B i k < 0
    · go_wp2_with fail
      go_ret
      exact ⟨rfl, HB.out⟩
    have hok : okB A B = true := by
      cases q : okB A B
      · exact absurd (betV_no (i := i) (k := k) q) (by omega)
      · rfl
    have CB := cntV_bd hok
    have BL := betV_le i k hok
    have HK := Lib.hid hok
    obtain rfl : m = n := by have := (ok_true hok).2.2.1; rw [HA.out, HBL.out] at this; exact this
    have H0 := Lib.hid (show 0 ≤ betV A B i k by omega)
    clear hok
    obtain ⟨p, q, x, y, hp, hq, e1, e2, e3, e4, hinp, hinq, xx, yy, hx, hy, e⟩ := bet_found HK.out H0.out
    have va := ok_vA HK.out
    have hpm : p < A.length := hp
    have hqm : q < B.length := by rw [HBL.out]; rw [HA.out] at hq; exact hq
    have PL := betParts HK.out hp hq hx hy
    rw [← e] at PL
    have PL := Lib.hid PL
    rw [HA.out] at hp hq
    have VA := Lib.hid va
    clear e1 e2 e3 e4 xx yy hx hy e
    go_wp2_with fail
    have Sp := Lib.hid (show ∀ j : Nat, j ≤ p → (smI A (j + 1) ≤ i ↔ j < p) from fun j hj => sm_search VA.out.1 hpm hinp j hj)
    go_loop [9] (fun v => ∃ j : Nat, v = .int .i64 j ∧ j ≤ p) (fun v => p - (intOf v).toNat)
    case atStart => exact ⟨0, rfl, Nat.zero_le _⟩
    case round =>
      obtain ⟨j, rfl, hj⟩ := hrel
      have f1 := Sp.out j hj
      have i1 : (0 : Int) ≤ (j : Int) + 1 := by omega
      have i2 : (j : Int) + 1 ≤ (c : Int) := by omega
      have i2 : (j : Int) + 1 ≤ (c' : Int) := by omega
      have a1 : IntKind.i64.wrap ((j : Int) + 1) = (j : Int) + 1 := IntWalk.i64_in _ (by omega)
      obtain ⟨v, V⟩ : ∃ v, smI A (j + 1) = v := ⟨_, rfl⟩
      rw [V] at f1
      replace V := Lib.hid V
      by_cases hlt : j < p
      · have i3 := f1.2 hlt
        clear f1
        go_wp2_with fail
        refine (sumOf_is _ _ _ (A.take (j + 1)) _ (by omega) hcm (by omega) (fun i hi => by rw [it_take _ _ _ hi]; have := bdL_it BA.out i (by rw [HA.out]; omega); omega) (ints_take3 OA.out HA.out (by omega)) v (by rw [smI_take _ _ _ (Nat.le_refl _)]; exact V.out)).mono ?_
        rintro e _ ⟨rfl, rfl⟩
        go_wp2_with fail
        go_round
        case rel => exact ⟨j + 1, by go_num, by omega⟩
        case measure => simp [intOf]; omega
      · have i3 : ¬ v ≤ i := fun q => hlt (f1.1 q)
        obtain rfl : p = j := by omega
        clear f1
        go_wp2_with fail
        refine (sumOf_is _ _ _ (A.take (p + 1)) _ (by omega) hcm (by omega) (fun i hi => by rw [it_take _ _ _ hi]; have := bdL_it BA.out i (by rw [HA.out]; omega); omega) (ints_take3 OA.out HA.out (by omega)) v (by rw [smI_take _ _ _ (Nat.le_refl _)]; exact V.out)).mono ?_
        rintro e _ ⟨rfl, rfl⟩
        go_wp2_with fail
        have Sq := Lib.hid (show ∀ j : Nat, j ≤ q → (smI B (j + 1) ≤ k ↔ j < q) from fun j hj => sm_search VA.out.2 hqm hinq j hj)
        go_loop [10] (fun v => ∃ j : Nat, v = .int .i64 j ∧ j ≤ q) (fun v => q - (intOf v).toNat)
        case atStart => exact ⟨0, rfl, Nat.zero_le _⟩
        case round =>
          obtain ⟨j, rfl, hj⟩ := hrel
          have f1 := Sq.out j hj
          have i1 : (0 : Int) ≤ (j : Int) + 1 := by omega
          have i2 : (j : Int) + 1 ≤ (c : Int) := by omega
          have i2 : (j : Int) + 1 ≤ (c' : Int) := by omega
          have a1 : IntKind.i64.wrap ((j : Int) + 1) = (j : Int) + 1 := IntWalk.i64_in _ (by omega)
          obtain ⟨v, V⟩ : ∃ v, smI B (j + 1) = v := ⟨_, rfl⟩
          rw [V] at f1
          replace V := Lib.hid V
          by_cases hlt : j < q
          · have i3 := f1.2 hlt
            clear f1
            go_wp2_with fail
            refine (sumOf_is _ _ _ (B.take (j + 1)) _ (by omega) hcm' (by omega) (fun i hi => by rw [it_take _ _ _ hi]; have := bdL_it BB.out i (by rw [HBL.out]; omega); omega) (ints_take3 OB.out HBL.out (by omega)) v (by rw [smI_take _ _ _ (Nat.le_refl _)]; exact V.out)).mono ?_
            rintro e _ ⟨rfl, rfl⟩
            go_wp2_with fail
            go_round
            case rel => exact ⟨j + 1, by go_num, by omega⟩
            case measure => simp [intOf]; omega
          · have i3 : ¬ v ≤ k := fun q => hlt (f1.1 q)
            obtain rfl : q = j := by omega
            clear f1
            go_wp2_with fail
            refine (sumOf_is _ _ _ (B.take (q + 1)) _ (by omega) hcm' (by omega) (fun i hi => by rw [it_take _ _ _ hi]; have := bdL_it BB.out i (by rw [HBL.out]; omega); omega) (ints_take3 OB.out HBL.out (by omega)) v (by rw [smI_take _ _ _ (Nat.le_refl _)]; exact V.out)).mono ?_
            rintro e _ ⟨rfl, rfl⟩
            go_wp2_with fail
            refine (count_is3 _ _ _ _ _ _ A B _ hnc hcm hmc hcm' (OA.out.ints HA.out (fun _ _ => rfl)) (OB.out.ints HBL.out (fun _ _ => rfl)) (by simp) (by simp) (by omega) (cntV A B) rfl).mono ?_
            rintro e w5 ⟨rfl, b5⟩
            replace HB := Lib.hid (Below.step0 HB.out b5)
            clear b5
            obtain ⟨P1, P2, P3⟩ := PL.out
            rcases Nat.lt_trichotomy p q with c1 | c1 | c1
            · have E := P1 c1
              have c2 : (p : Int) < (q : Int) := by omega
              have t5 : (betV A B i k == cntV A B) = true := by rw [E]; simp
              clear P1 P2 P3 E t1 t2
              go_wp2_with fail
              go_ret
              exact ⟨rfl, HB.out⟩
            · have E := P3 c1
              subst c1
              obtain ⟨E1, E2⟩ := E
              clear P1 P2 P3 t1 t2
              go_wp2_with fail
              go_ret
              exact ⟨rfl, HB.out⟩
            · have E := P2 c1
              have c2 : (q : Int) < (p : Int) := by omega
              have t5 : (betV A B i k == 0) = true := by rw [E]; rfl
              clear P1 P2 P3 E t1 t2
              go_wp2_with fail
              go_ret
              exact ⟨rfl, HB.out⟩
end Go.Proofs.Ytjgbhdidboofbaa
