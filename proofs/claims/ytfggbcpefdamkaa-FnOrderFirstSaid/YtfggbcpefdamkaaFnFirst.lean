/- The walk of FnOrderFirst. -/
import Derived.Test.YtfggbcpefdamkaaDrawP
import Derived.Deep.RegionHeld3
import Derived.Test.YtfggbcpefdamkaaFnNext
namespace Go.Proofs.Ytfggbcpefdamkaa
open Go.RowKit
set_option linter.unusedVariables false
set_option linter.unusedSimpArgs false

def fsP (A B : List Int) (i : Nat) : List UInt8 := List.replicate (ni A i) 97 ++ List.replicate (ni B i) 98
def lsP (A B : List Int) (i : Nat) : List UInt8 := List.replicate (ni B i) 98 ++ List.replicate (ni A i) 97
theorem ord_first {A B : List Int} : ordT A B 0 = jn (fsP A B) A.length := jn_congr _ (fun i _ => by
  unfold pt fsP
  rw [dg_zero]
  exact txt_first _ _ _ rfl)
theorem ord_last {A B : List Int} : ordT A B (tl A B 0 - 1) = jn (lsP A B) A.length := jn_congr _ (fun i hi => by
  unfold pt lsP
  rw [dg_last hi]
  exact txt_last _ _ _ rfl)
theorem fs_bd {A B : List Int} (h : okB A B = true) {k : Nat} (hk : k ≤ A.length) : (jn (fsP A B) k).length ≤ 13 * k ∧ (jn (lsP A B) k).length ≤ 13 * k := by
  have a := jn_bd (f := fsP A B) (m := 12) k (fun i hi => by
    obtain ⟨n1, n2⟩ := ni_bd h (i := i) (by omega)
    unfold fsP; simp; omega)
  have b := jn_bd (f := lsP A B) (m := 12) k (fun i hi => by
    obtain ⟨n1, n2⟩ := ni_bd h (i := i) (by omega)
    unfold lsP; simp; omega)
  omega
theorem jn_step (f : Nat → List UInt8) (k : Nat) : (0 < k → jn f (k + 1) = (jn f k ++ [124]) ++ f k) ∧ (¬ 0 < k → jn f (k + 1) = jn f k ++ f k) :=
  ⟨fun h => jn_more f h, fun h => by show (if 0 < k then _ else _) ++ _ = _; rw [if_neg h]⟩
theorem rep_up (j : Nat) (x : UInt8) : List.replicate j x ++ [x] = List.replicate (j + 1) x := List.replicate_succ'.symm

set_option maxRecDepth 100000 in
set_option maxHeartbeats 16000000 in
theorem fnOrderFirst_walk (a : Option Addr) (len cap : Nat) (zs : List Int) (w : World) (h : IsRow .u8 w a len cap zs) :
    Calls Try.prog 4 #[.slice a len cap] w fun e w' => e = .returned (.bool true) ∧ Below w.heap.size w w' := by
  obtain ⟨hc, hm⟩ := h.le
  have hm' := hm
  unfold maxLen at hm'
  have h0 := Lib.hid h.bytes
  clear h
  by_cases hl : 1048576 < len
  · go_enter Try.func4, Try.ntmps4
    go_wp2_with fail
    go_ret
    exact ⟨rfl, Below.refl _ _⟩
  · go_enter Try.func4, Try.ntmps4
    go_wp2_with fail
    refine (drawON_any _ _ _ _ hc hm h0.out).mono ?_
    rintro e w1 ⟨g, g', n, m, c, c', A, B, v, rfl, n1, n3, m1, m2, hnc, hmc, hcm, hcm', hA, hB, bA, bB, O1, O2, hgg, v0, v5, b1⟩
    have x1 : c ≤ 9223372036854775807 := hcm
    have x2 : c' ≤ 9223372036854775807 := hcm'
    have HA := Lib.hid hA
    have HBL := Lib.hid hB
    have BA := Lib.hid bA
    have BB := Lib.hid bB
    have OA := Lib.hid O1
    have OB := Lib.hid O2
    have HB := Lib.hid b1
    clear hA hB bA bB O1 O2 b1 h0
    go_wp2_with fail
    refine (implNth_any _ _ _ _ _ _ A B v _ hnc hcm hmc hcm' (OA.out.ints HA.out (fun _ _ => rfl)) (OB.out.ints HBL.out (fun _ _ => rfl)) (by simp) (by simp) (by omega)).mono ?_
    rintro e w2 ⟨rfl, b2⟩
    replace OA := Lib.hid (OA.out.below b2)
    replace OB := Lib.hid (OB.out.below b2)
    replace HB := Lib.hid (Below.step0 HB.out b2)
    clear b2
    go_wp2_with fail
    refine (specNth_b _ _ _ _ _ _ A B v _ hnc hcm hmc hcm' (OA.out.ints HA.out (fun _ _ => rfl)) (OB.out.ints HBL.out (fun _ _ => rfl))).mono ?_
    rintro e w3 ⟨rfl, b3⟩
    replace OA := Lib.hid (OA.out.below b3)
    replace OB := Lib.hid (OB.out.below b3)
    replace HB := Lib.hid (Below.step0 HB.out b3)
    clear b3
    by_cases hno : nthB A B v = false
    · rw [hno, nthT_no hno]
      generalize bs [] = ss at *
      have t2 : (ss.toList == ss.toList) = true := by simp
      clear hno
      go_wp2_with fail
      go_ret
      exact ⟨rfl, HB.out⟩
    have hyes : nthB A B v = true := by simpa using hno
    obtain ⟨hok, r, rfl, hr⟩ := nthB_yes hyes
    have CB := cntV_bd hok
    have CT := cntV_tl hok
    have HK := Lib.hid hok
    have HR := Lib.hid hr
    have TN := nthT_yes hyes
    rw [hyes, TN]
    obtain rfl : m = n := by have := (ok_true hok).2.2.1; rw [HA.out, HBL.out] at this; exact this
    obtain ⟨s, hs⟩ : ∃ s, ordT A B (r : Int).toNat = s := ⟨_, rfl⟩
    rw [hs]
    have HS := Lib.hid (show ordT A B r = s from hs)
    have SL := Lib.hid (show s.length ≤ 13 * m by have := ordT_len hok r (k := A.length) (Nat.le_refl _); rw [HA.out] at this; rw [← hs]; exact HA.out ▸ this)
    clear hok hr hyes hno TN hs
    have t2 : ((bs s).toList == (bs s).toList) = true := by simp
    clear BA BB
    go_wp2_with fail
    go_loop [10, 11, 12] (fun f l i => ∃ k : Nat, f = .string (bs (jn (fsP A B) k)) ∧ l = .string (bs (jn (lsP A B) k)) ∧ i = .int .i64 k ∧ k ≤ m) (fun _ _ i => m - (intOf i).toNat)
    case atStart => exact ⟨0, rfl, rfl, rfl, Nat.zero_le _⟩
    case round =>
      obtain ⟨k, rfl, rfl, rfl, hk⟩ := hrel
      by_cases hlt : k < m
      · have bA := (ok_true HK.out).2.2.2.1 k (by rw [HA.out]; exact hlt)
        have bB := (ok_true HK.out).2.2.2.2 k (by rw [HA.out]; exact hlt)
        have FB := fs_bd HK.out (k := k) (by rw [HA.out]; omega)
        obtain ⟨α, hα, hα2⟩ : ∃ α : Nat, it A k = (α : Int) ∧ ni A k = α := ⟨(it A k).toNat, by omega, rfl⟩
        obtain ⟨β, hβ, hβ2⟩ : ∃ β : Nat, it B k = (β : Int) ∧ ni B k = β := ⟨(it B k).toNat, by omega, rfl⟩
        have e0 := (OA.out.2 k hlt).1
        have e3 := (OB.out.2 k hlt).1
        rw [hα] at e0
        rw [hβ] at e3
        have FSQ : fsP A B k = List.replicate α 97 ++ List.replicate β 98 := by unfold fsP; rw [hα2, hβ2]
        have LS : lsP A B k = List.replicate β 98 ++ List.replicate α 97 := by unfold lsP; rw [hα2, hβ2]
        have i3 : (0 : Int) ≤ (k : Int) := by omega
        have i4 : (k : Int) < (m : Int) := by omega
        have bl1 : α ≤ 6 := by omega
        have bl2 : β ≤ 6 := by omega
        have JS1 := jn_step (fsP A B) k
        have JS2 := jn_step (lsP A B) k
        obtain ⟨FB1, FB2⟩ := FB
        clear bA bB hα hβ hα2 hβ2
        obtain ⟨p1, hp1⟩ : ∃ p1, jn (fsP A B) k = p1 := ⟨_, rfl⟩
        obtain ⟨p2, hp2⟩ : ∃ p2, jn (lsP A B) k = p2 := ⟨_, rfl⟩
        rw [hp1] at JS1 FB1 ⊢
        rw [hp2] at JS2 FB2 ⊢
        clear hp1 hp2
        by_cases hk0 : 0 < k
        · have i2 : (0 : Int) < (k : Int) := by omega
          have J1 := JS1.1 hk0
          have J2 := JS2.1 hk0
          have A2 := run_bs_add Try.prog w3 p1 [124] (by simp; omega)
          have A3 := run_bs_add Try.prog w3 p2 [124] (by simp; omega)
          have e1 : bs [124] = ⟨#[124]⟩ := rfl
          rw [e1] at A2 A3
          clear e1
          have z1 : (p1 ++ [124]).length ≤ 13 * k + 1 := by simp; omega
          have z2 : (p2 ++ [124]).length ≤ 13 * k + 1 := by simp; omega
          generalize p1 ++ [124] = P1 at *
          generalize p2 ++ [124] = P2 at *
          have A4 := run_bs_add Try.prog w3 P1 (List.replicate α 97) (by simp; omega)
          have A6 := run_bs_add Try.prog w3 P2 (List.replicate β 98) (by simp; omega)
          have A5 := run_bs_add Try.prog w3 (P1 ++ List.replicate α 97) (List.replicate β 98) (by simp; omega)
          have A7 := run_bs_add Try.prog w3 (P2 ++ List.replicate β 98) (List.replicate α 97) (by simp; omega)
          have E1 := Lib.hid (show jn (fsP A B) (k + 1) = P1 ++ List.replicate α 97 ++ List.replicate β 98 by rw [J1, FSQ]; simp only [List.append_assoc])
          have E2 := Lib.hid (show jn (lsP A B) (k + 1) = P2 ++ List.replicate β 98 ++ List.replicate α 97 by rw [J2, LS]; simp only [List.append_assoc])
          generalize P1 ++ List.replicate α 97 ++ List.replicate β 98 = R1 at *
          generalize P2 ++ List.replicate β 98 ++ List.replicate α 97 = R2 at *
          generalize P1 ++ List.replicate α 97 = Q1 at *
          generalize P2 ++ List.replicate β 98 = Q2 at *
          clear FSQ LS JS1 JS2 hk0 J1 J2
          go_wp2_with fail
          go_loop [13, 15] (fun x kk => ∃ j : Nat, x = .string (bs (List.replicate j 97)) ∧ kk = .int .i64 j ∧ j ≤ α) (fun _ kk => α - (intOf kk).toNat)
          case atStart => exact ⟨0, rfl, rfl, Nat.zero_le _⟩
          case round =>
            obtain ⟨j, rfl, rfl, hj⟩ := hrel
            by_cases hjl : j < α
            · have i5 : (j : Int) < (α : Int) := by omega
              have A1 := run_bs_add Try.prog w3 (List.replicate j 97) [97] (by simp; omega)
              rw [rep_up] at A1
              have e1 : bs [97] = ⟨#[97]⟩ := rfl
              rw [e1] at A1
              clear e1
              go_wp2_with fail
              go_round
              case rel => exact ⟨j + 1, rfl, by go_num, by omega⟩
              case measure => simp [intOf]; omega
            · obtain rfl : α = j := by omega
              have i5 : ¬ (α : Int) < (α : Int) := by omega
              go_wp2_with fail
              go_loop [14, 16] (fun x kk => ∃ j : Nat, x = .string (bs (List.replicate j 98)) ∧ kk = .int .i64 j ∧ j ≤ β) (fun _ kk => β - (intOf kk).toNat)
              case atStart => exact ⟨0, rfl, rfl, Nat.zero_le _⟩
              case round =>
                obtain ⟨j, rfl, rfl, hj⟩ := hrel
                by_cases hjl : j < β
                · have i5 : (j : Int) < (β : Int) := by omega
                  have A1 := run_bs_add Try.prog w3 (List.replicate j 98) [98] (by simp; omega)
                  rw [rep_up] at A1
                  have e1 : bs [98] = ⟨#[98]⟩ := rfl
                  rw [e1] at A1
                  clear e1
                  go_wp2_with fail
                  go_round
                  case rel => exact ⟨j + 1, rfl, by go_num, by omega⟩
                  case measure => simp [intOf]; omega
                · obtain rfl : β = j := by omega
                  have i5 : ¬ (β : Int) < (β : Int) := by omega
                  go_wp2_with fail
                  go_round
                  case rel => exact ⟨k + 1, by rw [E1.out], by rw [E2.out], by go_num, by omega⟩
                  case measure => simp [intOf]; omega
        · have i2 : ¬ (0 : Int) < (k : Int) := by omega
          have J1 := JS1.2 hk0
          have J2 := JS2.2 hk0
          have A4 := run_bs_add Try.prog w3 p1 (List.replicate α 97) (by simp; omega)
          have A6 := run_bs_add Try.prog w3 p2 (List.replicate β 98) (by simp; omega)
          have A5 := run_bs_add Try.prog w3 (p1 ++ List.replicate α 97) (List.replicate β 98) (by simp; omega)
          have A7 := run_bs_add Try.prog w3 (p2 ++ List.replicate β 98) (List.replicate α 97) (by simp; omega)
          have E1 := Lib.hid (show jn (fsP A B) (k + 1) = p1 ++ List.replicate α 97 ++ List.replicate β 98 by rw [J1, FSQ]; simp only [List.append_assoc])
          have E2 := Lib.hid (show jn (lsP A B) (k + 1) = p2 ++ List.replicate β 98 ++ List.replicate α 97 by rw [J2, LS]; simp only [List.append_assoc])
          generalize p1 ++ List.replicate α 97 ++ List.replicate β 98 = R1 at *
          generalize p2 ++ List.replicate β 98 ++ List.replicate α 97 = R2 at *
          generalize p1 ++ List.replicate α 97 = Q1 at *
          generalize p2 ++ List.replicate β 98 = Q2 at *
          clear FSQ LS JS1 JS2 hk0 J1 J2
          go_wp2_with fail
          go_loop [13, 15] (fun x kk => ∃ j : Nat, x = .string (bs (List.replicate j 97)) ∧ kk = .int .i64 j ∧ j ≤ α) (fun _ kk => α - (intOf kk).toNat)
          case atStart => exact ⟨0, rfl, rfl, Nat.zero_le _⟩
          case round =>
            obtain ⟨j, rfl, rfl, hj⟩ := hrel
            by_cases hjl : j < α
            · have i5 : (j : Int) < (α : Int) := by omega
              have A1 := run_bs_add Try.prog w3 (List.replicate j 97) [97] (by simp; omega)
              rw [rep_up] at A1
              have e1 : bs [97] = ⟨#[97]⟩ := rfl
              rw [e1] at A1
              clear e1
              go_wp2_with fail
              go_round
              case rel => exact ⟨j + 1, rfl, by go_num, by omega⟩
              case measure => simp [intOf]; omega
            · obtain rfl : α = j := by omega
              have i5 : ¬ (α : Int) < (α : Int) := by omega
              go_wp2_with fail
              go_loop [14, 16] (fun x kk => ∃ j : Nat, x = .string (bs (List.replicate j 98)) ∧ kk = .int .i64 j ∧ j ≤ β) (fun _ kk => β - (intOf kk).toNat)
              case atStart => exact ⟨0, rfl, rfl, Nat.zero_le _⟩
              case round =>
                obtain ⟨j, rfl, rfl, hj⟩ := hrel
                by_cases hjl : j < β
                · have i5 : (j : Int) < (β : Int) := by omega
                  have A1 := run_bs_add Try.prog w3 (List.replicate j 98) [98] (by simp; omega)
                  rw [rep_up] at A1
                  have e1 : bs [98] = ⟨#[98]⟩ := rfl
                  rw [e1] at A1
                  clear e1
                  go_wp2_with fail
                  go_round
                  case rel => exact ⟨j + 1, rfl, by go_num, by omega⟩
                  case measure => simp [intOf]; omega
                · obtain rfl : β = j := by omega
                  have i5 : ¬ (β : Int) < (β : Int) := by omega
                  go_wp2_with fail
                  go_round
                  case rel => exact ⟨k + 1, by rw [E1.out], by rw [E2.out], by go_num, by omega⟩
                  case measure => simp [intOf]; omega
      · obtain rfl : m = k := by omega
        have i4 : ¬ (m : Int) < (m : Int) := by omega
        have T0 := tl_pos A B 0
        have Y1 := Lib.hid (show nthT A B 0 = jn (fsP A B) m by rw [← HA.out, ← ord_first]; exact (nth_at HK.out (r := 0) T0).1)
        have Y2 := Lib.hid (show nthB A B 0 = true from (nth_at HK.out (r := 0) T0).2)
        have ci : cntV A B - 1 = ((tl A B 0 - 1 : Nat) : Int) := by omega
        have Y3 := Lib.hid (show nthT A B (cntV A B - 1) = jn (lsP A B) m by rw [ci, ← HA.out, ← ord_last]; exact (nth_at HK.out (r := tl A B 0 - 1) (by omega)).1)
        have Y4 := Lib.hid (show nthB A B (cntV A B - 1) = true by rw [ci]; exact (nth_at HK.out (r := tl A B 0 - 1) (by omega)).2)
        have LL := Lib.hid (show (bs (jn (fsP A B) m)).size = (bs s).size by rw [bs_size, bs_size, ← HS.out, ← HA.out, ← ord_first]; exact ordT_same _ _ _ _)
        have a1 : IntKind.i64.wrap (cntV A B - 1) = cntV A B - 1 := IntWalk.i64_in _ (by omega)
        clear ci T0 CT
        generalize jn (fsP A B) m = q1 at *
        generalize jn (lsP A B) m = q2 at *
        have t3 : ((bs q1).toList == (bs q1).toList) = true := by simp
        have t4 : ((bs q2).toList == (bs q2).toList) = true := by simp
        go_wp2_with fail
        refine (nth_is _ _ _ _ _ _ A B _ _ hnc hcm hmc hcm' (OA.out.ints HA.out (fun _ _ => rfl)) (OB.out.ints HBL.out (fun _ _ => rfl)) (by simp) (by simp) (by omega) Y1.out Y2.out).mono ?_
        rintro e w4 ⟨rfl, b4⟩
        replace OA := Lib.hid (OA.out.below b4)
        replace OB := Lib.hid (OB.out.below b4)
        replace HB := Lib.hid (Below.step0 HB.out b4)
        clear b4
        go_wp2_with fail
        refine (implCount_any _ _ _ _ _ _ A B _ hnc hcm hmc hcm' (OA.out.ints HA.out (fun _ _ => rfl)) (OB.out.ints HBL.out (fun _ _ => rfl)) (by simp) (by simp) (by omega)).mono ?_
        rintro e w5 ⟨rfl, b5⟩
        replace OA := Lib.hid (OA.out.below b5)
        replace OB := Lib.hid (OB.out.below b5)
        replace HB := Lib.hid (Below.step0 HB.out b5)
        clear b5
        go_wp2_with fail
        refine (nth_is _ _ _ _ _ _ A B _ _ hnc hcm hmc hcm' (OA.out.ints HA.out (fun _ _ => rfl)) (OB.out.ints HBL.out (fun _ _ => rfl)) (by simp) (by simp) (by omega) Y3.out Y4.out).mono ?_
        rintro e w6 ⟨rfl, b6⟩
        replace OA := Lib.hid (OA.out.below b6)
        replace OB := Lib.hid (OB.out.below b6)
        replace HB := Lib.hid (Below.step0 HB.out b6)
        clear b6
        have l2 := LL.out
        go_wp2_with fail
        go_ret
        exact ⟨rfl, HB.out⟩
end Go.Proofs.Ytfggbcpefdamkaa
