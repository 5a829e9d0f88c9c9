/- The walk of FnBetweenEnds. -/
import Derived.Test.YtjgbhdidboofbaaFnExOrdB
import Derived.Test.YtjgbhdidboofbaaDrawB
import Derived.Test.YtjgbhdidboofbaaBetL
import Derived.Deep.RegionHeld3
namespace Go.Proofs.Ytjgbhdidboofbaa
open Go.RowKit
set_option linter.unusedVariables false
set_option linter.unusedSimpArgs false

theorem bet_is (a b : Option Addr) (la ca lb cb : Nat) (A B : List Int) (i k : Int) (w : World) (hla : la ≤ ca) (hma : ca ≤ maxLen) (hlb : lb ≤ cb) (hmb : cb ≤ maxLen) (i1 : -9223372036854775808 ≤ i) (i2 : i ≤ 9223372036854775807) (k1 : -9223372036854775808 ≤ k) (k2 : k ≤ 9223372036854775807) (h : Ints w a la A) (h' : Ints w b lb B) (ha : a ≠ none) (hb : b ≠ none) (hlim : la + lb ≤ 3000000) (v : Int) (hv : betV A B i k = v) :
    Calls Try.prog 19 #[.slice a la ca, .slice b lb cb, .int .i64 i, .int .i64 k] w fun e w' => e = .returned (.int .i64 v) ∧ Below w.heap.size w w' := by
  subst hv; exact implBet_any a b la ca lb cb A B i k w hla hma hlb hmb i1 i2 k1 k2 h h' ha hb hlim

theorem count_is3 (a b : Option Addr) (la ca lb cb : Nat) (A B : List Int) (w : World) (hla : la ≤ ca) (hma : ca ≤ maxLen) (hlb : lb ≤ cb) (hmb : cb ≤ maxLen) (h : Ints w a la A) (h' : Ints w b lb B) (ha : a ≠ none) (hb : b ≠ none) (hlim : la + lb ≤ 3000000) (v : Int) (hv : cntV A B = v) :
    Calls Try.prog 14 #[.slice a la ca, .slice b lb cb] w fun e w' => e = .returned (.int .i64 v) ∧ Below w.heap.size w w' := by
  subst hv; exact implCount_any a b la ca lb cb A B w hla hma hlb hmb h h' ha hb hlim

theorem lit_int1 {w : World} {b : Nat} {z : Int} (h : w.cell? ⟨b, 0, none⟩ = some (.int .i64 z)) : Ints w (some ⟨b, 0, none⟩) 1 [z] := by
  refine ⟨rfl, .inr ⟨b, 0, rfl, World.block_lt_of_cell? w _ h, fun i hi => ?_⟩⟩
  obtain rfl : i = 0 := by simp at hi; omega
  exact h
theorem keep1 {W w : World} {g : Nat} {v : Value} (hg : g < W.heap.size) (h : W.cell? ⟨g, 0, none⟩ = some v) (b : Below W.heap.size W w) : w.cell? ⟨g, 0, none⟩ = some v ∧ Below W.heap.size W w := ⟨(b.cell (p := ⟨g, 0, none⟩) hg).trans h, b⟩

set_option maxRecDepth 100000 in
set_option maxHeartbeats 3200000 in
theorem fnBetweenEnds_walk (a : Option Addr) (len cap : Nat) (zs : List Int) (w : World) (h : IsRow .u8 w a len cap zs) :
    Calls Try.prog 9 #[.slice a len cap] w fun e w' => e = .returned (.bool true) ∧ Below w.heap.size w w' := by
  obtain ⟨hc, hm⟩ := h.le
  have hm' := hm
  unfold maxLen at hm'
  have h0 := Lib.hid h.bytes
  clear h
  by_cases hl : 1048576 < len
  · go_enter Try.func9, Try.ntmps9
    go_wp2_with fail
    go_ret
    exact ⟨rfl, Below.refl _ _⟩
  · go_enter Try.func9, Try.ntmps9
    go_wp2_with fail
    refine (drawOB_any _ _ _ _ hc hm h0.out).mono ?_
    rintro e w1 ⟨g, g', n, m, c, c', A, B, i, k, rfl, n1, n3, m1, m2, hnc, hmc, hcm, hcm', hA, hB, bA, bB, O1, O2, hgg, i0, i5, k0, k5, b1⟩
    have x1 : c ≤ 9223372036854775807 := hcm
    have x2 : c' ≤ 9223372036854775807 := hcm'
    have HA := Lib.hid hA
    have HBL := Lib.hid hB
    have BA := Lib.hid bA
    have BB := Lib.hid bB
    have OA := Lib.hid O1
    have OB := Lib.hid O2
    have HB := Lib.hid b1
    clear hA hB bA bB O1 O2 b1 h0
    go_wp2_with fail
    refine (implBet_any _ _ _ _ _ _ A B i k _ hnc hcm hmc hcm' (by omega) (by omega) (by omega) (by omega) (OA.out.ints HA.out (fun _ _ => rfl)) (OB.out.ints HBL.out (fun _ _ => rfl)) (by simp) (by simp) (by omega)).mono ?_
    rintro e w2 ⟨rfl, b2⟩
    replace OA := Lib.hid (OA.out.below b2)
    replace OB := Lib.hid (OB.out.below b2)
    replace HB := Lib.hid (Below.step0 HB.out b2)
    clear b2
    go_wp2_with fail
    refine (specBet_b _ _ _ _ _ _ A B i k _ hnc hcm hmc hcm' (by omega) (by omega) (OA.out.ints HA.out (fun _ _ => rfl)) (OB.out.ints HBL.out (fun _ _ => rfl))).mono ?_
    rintro e w3 ⟨rfl, b3⟩
    replace OA := Lib.hid (OA.out.below b3)
    replace OB := Lib.hid (OB.out.below b3)
    replace HB := Lib.hid (Below.step0 HB.out b3)
    clear b3
    have t1 : (betV A B i k != betV A B i k) = false := by simp
    have t2 : (betV A B i k == betV A B i k) = true := by simp
    by_cases hneg : betV A B i k < 0
    · go_wp2_with fail
      go_ret
      exact ⟨rfl, HB.out⟩
    have hok : okB A B = true := by
      cases q : okB A B
      · exact absurd (betV_no (i := i) (k := k) q) (by omega)
      · rfl
    have CB := cntV_bd hok
    have BL := betV_le i k hok
    have HK := Lib.hid hok
    obtain rfl : m = n := by have := (ok_true hok).2.2.1; rw [HA.out, HBL.out] at this; exact this
    have H0 := Lib.hid (show 0 ≤ betV A B i k by omega)
    clear hok
    by_cases hn1 : m = 1
    rotate_left
    · have t5 : ((m : Int) != 1) = true := by simp; omega
      clear t1 t2
      have t6 : 0 ≤ betV A B i k := H0.out
      go_wp2_with fail
      go_ret
      exact ⟨rfl, HB.out⟩
    subst hn1
    obtain ⟨x, X⟩ : ∃ x, betV A B 0 0 = x := ⟨_, rfl⟩
    have L1 : cntV [it A 0 - 1] B = x := by rw [← X]; exact (betEnds HK.out HA.out H0.out).symm
    have X := Lib.hid X
    replace L1 := Lib.hid L1
    replace X := Lib.hid X
    obtain ⟨y0, hy0⟩ : ∃ y, it A 0 = y := ⟨_, rfl⟩
    have B0 := bdL_it BA.out 0 (by rw [HA.out]; omega)
    have e0 := (OA.out.2 0 (by omega)).1
    rw [hy0] at e0 B0
    replace L1 := Lib.hid (show cntV [y0 - 1] B = x by rw [← hy0]; exact L1.out)
    have a1 : IntKind.i64.wrap (y0 - 1) = y0 - 1 := IntWalk.i64_in _ (by omega)
    clear hy0
    have t5 : (x == x) = true := by simp
    have i1 : (1 : Int) ≤ (c : Int) := by omega
    have PA := Lib.hid (show ∀ W, Below w3.heap.size w3 W → Ints W (some ⟨g, 0, none⟩) 1 A from fun W b => (OA.out.ints HA.out (fun _ _ => rfl)).below b)
    have PB := Lib.hid (show ∀ W, Below w3.heap.size w3 W → Ints W (some ⟨g', 0, none⟩) 1 B from fun W b => (OB.out.ints HBL.out (fun _ _ => rfl)).below b)
    have hgl := OA.out.1
    go_wp2_with fail
    go_region_held3 (fun w' => w'.cell? ⟨g, 0, none⟩ = some (.int .i64 y0) ∧ Below w3.heap.size w3 w')
      (first | exact keep1 hgl e0 (Below.refl _ _).drew | exact keep1 hgl e0 (Below.refl _ _) | (go_split_ands; exact keep1 hgl e0 (Below.step0 (by assumption) (by assumption))) | (go_split_ands; exact keep1 hgl e0 (Below.al (by assumption))) | exact keep1 hgl e0 (Below.al (Below.refl _ _).drew))
      (first | ((go_at_call 19; go_split_ands; (with_reducible refine (bet_is (some ⟨g, 0, none⟩) (some ⟨g', 0, none⟩) 1 c 1 c' A B 0 0 _ hnc hcm hmc hcm' (by omega) (by omega) (by omega) (by omega) (PA.out _ (by first | assumption | (exact (Below.refl _ _).drew) | exact (Below.al (by assumption)) | exact (Below.al (Below.refl _ _).drew))) (PB.out _ (by first | assumption | (exact (Below.refl _ _).drew) | exact (Below.al (by assumption)) | exact (Below.al (Below.refl _ _).drew))) (by simp) (by simp) (by omega) x X.out.out).mono ?_); rintro e w8 ⟨rfl, b8⟩)) | ((go_at_call 14; go_split_ands; (with_reducible refine (count_is3 (some ⟨_, 0, none⟩) (some ⟨g', 0, none⟩) 1 1 1 c' [y0 - 1] B _ (Nat.le_refl _) (by unfold maxLen; omega) hmc hcm' (by (first | exact lit_int1 (by simp [go_sem, a1]) | exact lit_int1 ((b8.cell (by simp [go_sem] <;> omega)).trans (by simp [go_sem, a1])))) (PB.out _ (by first | assumption | (exact (Below.refl _ _).drew) | exact (Below.al (by assumption)) | exact (Below.al (Below.refl _ _).drew))) (by simp) (by simp) (by omega) x L1.out).mono ?_); rintro e w8 ⟨rfl, b8⟩)))
    all_goals
      go_split_ands
      have bz : Below w3.heap.size w3 w8 := by assumption
      go_wp2_with fail
      go_ret
      exact ⟨rfl, Below.step0 HB.out bz⟩
end Go.Proofs.Ytjgbhdidboofbaa
