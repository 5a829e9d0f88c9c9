/- The walk of FnOrderCountMore. -/
import Derived.Test.YtjgbhdidboofbaaFnExOrdC
import Derived.Test.YtjgbhdidboofbaaDrawO
namespace Go.Proofs.Ytjgbhdidboofbaa
open Go.RowKit
set_option linter.unusedVariables false
set_option linter.unusedSimpArgs false

theorem more_ok {A B : List Int} (h : okB A B = true) (k : Nat) (hk : k < A.length) :
    (it A k + 1 ≤ 6 → okB (A.set k (it A k + 1)) B = true ∧ cntV A B ≤ cntV (A.set k (it A k + 1)) B) ∧ (6 < it A k + 1 → okB (A.set k (it A k + 1)) B = false) := by
  obtain ⟨h1, h2, h3, h4, h5⟩ := ok_true h
  have hk0 := h4 k hk
  constructor
  · intro h6
    have hy : okB (A.set k (it A k + 1)) B = true := by
      refine ok_mk (by rw [List.length_set]; exact h1) (by rw [List.length_set]; exact h2) (by rw [List.length_set]; exact h3) (fun i hi => ?_) (fun i hi => h5 i (by rw [List.length_set] at hi; exact hi))
      rw [List.length_set] at hi
      rw [it_set _ _ _ _ hk]
      by_cases e : i = k
      · rw [if_pos e]; omega
      · rw [if_neg e]; exact h4 i hi
    refine ⟨hy, ?_⟩
    rw [cntV_yes h, cntV_yes hy, List.length_set]
    have : pd A B 0 A.length ≤ pd (A.set k (it A k + 1)) B 0 A.length := by
      refine pd_mono _ (fun i hi => ?_)
      rw [Nat.zero_add]
      have e1 : ni (A.set k (it A k + 1)) i = if i = k then ni A k + 1 else ni A i := by
        unfold ni
        rw [it_set _ _ _ _ hk]
        by_cases e : i = k
        · rw [if_pos e, if_pos e]; omega
        · rw [if_neg e, if_neg e]
      rw [e1]
      by_cases e : i = k
      · rw [if_pos e, e]; exact ch_up _ _
      · rw [if_neg e]; exact Nat.le_refl _
    omega
  · intro h6
    refine ok_badA (k := k) (by rw [List.length_set]; exact hk) ?_
    rw [it_set _ _ _ _ hk, if_pos rfl]
    unfold oaB
    simp; omega

set_option maxRecDepth 100000 in
set_option maxHeartbeats 3200000 in
theorem fnOrderCountMore_walk (a : Option Addr) (len cap : Nat) (zs : List Int) (a2 : Option Addr) (mlen mcap : Nat) (zs2 : List Int) (w : World) (h : IsRow .u8 w a len cap zs) (h' : IsRow .u8 w a2 mlen mcap zs2) :
    Calls Try.prog 4 #[.slice a len cap, .slice a2 mlen mcap] w fun e w' => e = .returned (.bool true) ∧ Below w.heap.size w w' := by
  obtain ⟨hc, hm⟩ := h.le
  have hm' := hm
  unfold maxLen at hm'
  obtain ⟨hc', hn⟩ := h'.le
  have hn' := hn
  unfold maxLen at hn'
  have h0 := Lib.hid h.bytes
  clear h h'
  by_cases hl : 1048576 < len
  · have d1 : decide ((1048576 : Int) < (len : Int)) = true := by simp; omega
    go_enter Try.func4, Try.ntmps4
    go_wp2_with fail
    go_ret
    exact ⟨rfl, Below.refl _ _⟩
  · have d1 : decide ((1048576 : Int) < (len : Int)) = false := by simp; omega
    by_cases hl' : 1048576 < mlen
    · have d2 : decide ((1048576 : Int) < (mlen : Int)) = true := by simp; omega
      go_enter Try.func4, Try.ntmps4
      go_wp2_with fail
      go_ret
      exact ⟨rfl, Below.refl _ _⟩
    · have d2 : decide ((1048576 : Int) < (mlen : Int)) = false := by simp; omega
      go_enter Try.func4, Try.ntmps4
      go_wp2_with fail
      refine (drawOC_any _ _ _ _ hc hm h0.out).mono ?_
      rintro e w1 ⟨g, g', n, m, c, c', A, B, rfl, n1, n3, m1, m2, hnc, hmc, hcm, hcm', hA, hB, bA, bB, O1, O2, hgg, b1⟩
      have x1 : c ≤ 9223372036854775807 := hcm
      have x2 : c' ≤ 9223372036854775807 := hcm'
      have HA := Lib.hid hA
      have HBL := Lib.hid hB
      have BA := Lib.hid bA
      have BB := Lib.hid bB
      have OA := Lib.hid O1
      have OB := Lib.hid O2
      have HB := Lib.hid b1
      clear hA hB bA bB O1 O2 b1 h0
      go_wp2_with fail
      refine (implCount_any _ _ _ _ _ _ A B _ hnc hcm hmc hcm' (OA.out.ints HA.out (fun _ _ => rfl)) (OB.out.ints HBL.out (fun _ _ => rfl)) (by simp) (by simp) (by omega)).mono ?_
      rintro e w2 ⟨rfl, b2⟩
      replace OA := Lib.hid (OA.out.below b2)
      replace OB := Lib.hid (OB.out.below b2)
      replace HB := Lib.hid (Below.step0 HB.out b2)
      clear b2
      go_wp2_with fail
      refine (specCount_b _ _ _ _ _ _ A B _ hnc hcm hmc hcm' (OA.out.ints HA.out (fun _ _ => rfl)) (OB.out.ints HBL.out (fun _ _ => rfl))).mono ?_
      rintro e w3 ⟨rfl, b3⟩
      replace OA := Lib.hid (OA.out.below b3)
      replace OB := Lib.hid (OB.out.below b3)
      replace HB := Lib.hid (Below.step0 HB.out b3)
      clear b3
      have t1 : (cntV A B != cntV A B) = false := by simp
      have t2 : (cntV A B == cntV A B) = true := by simp
      by_cases hok : okB A B = true
      rotate_left
      · have hok' : okB A B = false := by simpa using hok
        have c0 : cntV A B < 0 := by rw [cntV_no hok']; omega
        go_wp2_with fail
        go_ret
        exact ⟨rfl, HB.out⟩
      have CB := cntV_bd hok
      have HK := Lib.hid hok
      have CV := Lib.hid (cntV_yes hok)
      obtain rfl : m = n := by have := (ok_true hok).2.2.1; rw [HA.out, HBL.out] at this; exact this
      clear hok
      obtain ⟨i0, hi, hz0, hz1, hz2⟩ := info_parts infoInt
      obtain ⟨k, hkq⟩ : ∃ k, mlen % m = k := ⟨_, rfl⟩
      have hk : k < m := by rw [← hkq]; exact Nat.mod_lt _ (by omega)
      have KQ : ((mlen : Int).tmod (m : Int)) = (k : Int) := by rw [← hkq]; rfl
      clear hkq
      go_wp2_with (at_builtin; refine wpList_append_own _ rfl _ _ 22 rfl w3.heap.size 3 i0 (.int .i64 0) 1 8 Try.underlying22 hi hz0 hz1 hz2 rfl (by decide) _ _ _ rfl (icopy_base w3) ⟨g, 0, none⟩ _ _ (il A) rfl (by rw [il_len, HA.out]; omega) (icopy_src OA.out HA.out n1) (il_one _) (by unfold maxLen; omega) (by omega) (by simp) ?_)
      intro vx w6 oxx gxx _
      obtain ⟨gx, cx, rfl, hcx, hmx, ox6, hgx, b6⟩ := icopy_open n1 HA.out oxx gxx
      clear oxx gxx
      have x8 : cx ≤ 9223372036854775807 := hmx
      have hgw : w.heap.size ≤ gx := Nat.le_trans HB.out.size hgx
      have hgs : gx ≠ g' := Nat.ne_of_gt (Nat.lt_of_lt_of_le OB.out.1 hgx)
      replace OB := Lib.hid (OB.out.below b6)
      replace HB := Lib.hid (Below.step0 HB.out b6)
      obtain ⟨r1, r2⟩ := ox6.2 k hk
      have hlx := ox6.1
      have bk := bdL_it BA.out k (by rw [HA.out]; exact hk)
      have hX := ox6.put HA.out k hk (it A k + 1)
      have OX := Lib.hid hX
      have q0 := (hX.2 k hk).1
      rw [it_set _ _ _ _ (by rw [HA.out]; exact hk), if_pos rfl] at q0
      have HXL := Lib.hid (show (A.set k (it A k + 1)).length = m by rw [List.length_set]; exact HA.out)
      replace OB := Lib.hid (OB.out.far (p := ⟨gx, k, none⟩) hgs (.int .i64 (it A k + 1)))
      replace HB := Lib.hid (HB.out.setCell (p := ⟨gx, k, none⟩) hgw (.int .i64 (it A k + 1)))
      have MO := Lib.hid (more_ok HK.out k (by rw [HA.out]; exact hk))
      have i1 : (0 : Int) ≤ (k : Int) := by omega
      have i2 : (k : Int) < (m : Int) := by omega
      clear hX ox6 b6 hgs
      generalize hq : A.set k (it A k + 1) = A2 at *
      have bk1 : -1 ≤ it A k := bk.1
      have bk2 : it A k ≤ 7 := bk.2
      clear hq bk
      generalize hx : it A k = x at *
      clear hx
      go_wp2_with fail
      clear r1 r2
      generalize (w6.setCell ⟨gx, k, none⟩ (.int .i64 (x + 1))) = w7 at *
      refine (implCount_any _ _ _ _ _ _ A2 B _ hcx hmx hmc hcm' (OX.out.ints HXL.out (fun _ _ => rfl)) (OB.out.ints HBL.out (fun _ _ => rfl)) (by simp) (by simp) (by omega)).mono ?_
      rintro e w8 ⟨rfl, b8⟩
      have q1 := ((blw b8).1 gx k OX.out.1).trans q0
      replace HB := Lib.hid (Below.step0 HB.out b8)
      by_cases h6 : x + 1 ≤ 6
      · have F := (MO.out.1 h6).2
        clear b8 q0 CV
        go_wp2_with fail
        go_ret
        exact ⟨rfl, HB.out⟩
      · have F := MO.out.2 (by omega)
        have F2 := cntV_no F
        have F3 : ¬ cntV A B ≤ cntV A2 B := by rw [F2]; omega
        have F4 : decide (cntV A B ≤ cntV A2 B) = false := decide_eq_false F3
        have F5 : (cntV A2 B == -1) = true := by rw [F2]; rfl
        have h7 : 6 < x + 1 := by omega
        clear b8 q0 CV F F2
        go_wp2_with fail
        go_ret
        exact ⟨rfl, HB.out⟩
end Go.Proofs.Ytjgbhdidboofbaa
