/- The walk of FnOrderCountSum. -/
import Derived.Test.YtjgbhdidboofbaaFnExOrdC
import Derived.Test.YtjgbhdidboofbaaDrawO
import Derived.Deep.RegionHeld3
namespace Go.Proofs.Ytjgbhdidboofbaa
open Go.RowKit
set_option linter.unusedVariables false
set_option linter.unusedSimpArgs false

theorem lit_ints {w : World} {b : Nat} {z : Int} (h : w.cell? ⟨b, 0, none⟩ = some (.int .i64 z)) : Ints w (some ⟨b, 0, none⟩) 1 [z] := by
  refine ⟨rfl, .inr ⟨b, 0, rfl, World.block_lt_of_cell? w _ h, fun i hi => ?_⟩⟩
  obtain rfl : i = 0 := by simp at hi; omega
  exact h
theorem count_is (a b : Option Addr) (la ca lb cb : Nat) (A B : List Int) (w : World) (hla : la ≤ ca) (hma : ca ≤ maxLen) (hlb : lb ≤ cb) (hmb : cb ≤ maxLen) (h : Ints w a la A) (h' : Ints w b lb B) (ha : a ≠ none) (hb : b ≠ none) (hlim : la + lb ≤ 3000000) (v : Int) (hv : cntV A B = v) :
    Calls Try.prog 14 #[.slice a la ca, .slice b lb cb] w fun e w' => e = .returned (.int .i64 v) ∧ Below w.heap.size w w' := by
  subst hv; exact implCount_any a b la ca lb cb A B w hla hma hlb hmb h h' ha hb hlim
theorem cnt_one {A B : List Int} (hA : A.length = 1) (hB : B.length = 1) (hx : 0 ≤ it A 0 ∧ it A 0 ≤ 6) (hy : 0 ≤ it B 0 ∧ it B 0 ≤ 6) : okB A B = true ∧ cntV A B = ((ch (it A 0).toNat (it B 0).toNat : Nat) : Int) := by
  have ok : okB A B = true := ok_mk (by omega) (by omega) (by omega) (fun i hi => by obtain rfl : i = 0 := by omega
                                                                                     exact hx) (fun i hi => by obtain rfl : i = 0 := by omega
                                                                                                               exact hy)
  refine ⟨ok, ?_⟩
  rw [cntV_yes ok, hA]
  show ((1 * ch (ni A (0 + 0)) (ni B (0 + 0)) : Nat) : Int) = _
  rw [Nat.one_mul]
  rfl
theorem sum_law {A B : List Int} (hA : A.length = 1) (h : okB A B = true) (hx : it A 0 ≠ 0) (hy : it B 0 ≠ 0) : cntV [it A 0 - 1] B + cntV A [it B 0 - 1] = cntV A B ∧ (0 ≤ cntV [it A 0 - 1] B ∧ cntV [it A 0 - 1] B ≤ 1000000000000) ∧ (0 ≤ cntV A [it B 0 - 1] ∧ cntV A [it B 0 - 1] ≤ 1000000000000) := by
  obtain ⟨h1, h2, h3, h4, h5⟩ := ok_true h
  have a := h4 0 (by omega)
  have b := h5 0 (by omega)
  have e1 := cnt_one (A := [it A 0 - 1]) (B := B) rfl (by omega) (by show 0 ≤ it A 0 - 1 ∧ it A 0 - 1 ≤ 6; omega) b
  have e2 := cnt_one (A := A) (B := [it B 0 - 1]) hA rfl a (by show 0 ≤ it B 0 - 1 ∧ it B 0 - 1 ≤ 6; omega)
  have e3 := cnt_one (A := A) (B := B) hA (by omega) a b
  have b1 := cntV_bd e1.1
  have b2 := cntV_bd e2.1
  refine ⟨?_, by omega, by omega⟩
  rw [e1.2, e2.2, e3.2]
  show ((ch (it A 0 - 1).toNat (it B 0).toNat : Nat) : Int) + ((ch (it A 0).toNat (it B 0 - 1).toNat : Nat) : Int) = _
  have := ch_pascal (it A 0 - 1).toNat (it B 0 - 1).toNat
  rw [show (it A 0 - 1).toNat + 1 = (it A 0).toNat by omega, show (it B 0 - 1).toNat + 1 = (it B 0).toNat by omega] at this
  omega

set_option maxRecDepth 100000 in
set_option maxHeartbeats 3200000 in
theorem fnOrderCountSum_walk (a : Option Addr) (len cap : Nat) (zs : List Int) (w : World) (h : IsRow .u8 w a len cap zs) :
    Calls Try.prog 5 #[.slice a len cap] w fun e w' => e = .returned (.bool true) ∧ Below w.heap.size w w' := by
  obtain ⟨hc, hm⟩ := h.le
  have hm' := hm
  unfold maxLen at hm'
  have h0 := Lib.hid h.bytes
  clear h
  by_cases hl : 1048576 < len
  · go_enter Try.func5, Try.ntmps5
    go_wp2_with fail
    go_ret
    exact ⟨rfl, Below.refl _ _⟩
  · go_enter Try.func5, Try.ntmps5
    go_wp2_with fail
    refine (drawOC_any _ _ _ _ hc hm h0.out).mono ?_
    rintro e w1 ⟨g, g', n, m, c, c', A, B, rfl, n1, n3, m1, m2, hnc, hmc, hcm, hcm', hA, hB, bA, bB, O1, O2, hgg, b1⟩
    have x1 : c ≤ 9223372036854775807 := hcm
    have x2 : c' ≤ 9223372036854775807 := hcm'
    have HA := Lib.hid hA
    have HBL := Lib.hid hB
    have BA := Lib.hid bA
    have BB := Lib.hid bB
    have OA := Lib.hid O1
    have OB := Lib.hid O2
    have HB := Lib.hid b1
    clear hA hB bA bB O1 O2 b1 h0
    go_wp2_with fail
    refine (implCount_any _ _ _ _ _ _ A B _ hnc hcm hmc hcm' (OA.out.ints HA.out (fun _ _ => rfl)) (OB.out.ints HBL.out (fun _ _ => rfl)) (by simp) (by simp) (by omega)).mono ?_
    rintro e w2 ⟨rfl, b2⟩
    replace OA := Lib.hid (OA.out.below b2)
    replace OB := Lib.hid (OB.out.below b2)
    replace HB := Lib.hid (Below.step0 HB.out b2)
    clear b2
    go_wp2_with fail
    refine (specCount_b _ _ _ _ _ _ A B _ hnc hcm hmc hcm' (OA.out.ints HA.out (fun _ _ => rfl)) (OB.out.ints HBL.out (fun _ _ => rfl))).mono ?_
    rintro e w3 ⟨rfl, b3⟩
    replace OA := Lib.hid (OA.out.below b3)
    replace OB := Lib.hid (OB.out.below b3)
    replace HB := Lib.hid (Below.step0 HB.out b3)
    clear b3
    have t1 : (cntV A B != cntV A B) = false := by simp
    have t2 : (cntV A B == cntV A B) = true := by simp
    by_cases hok : okB A B = true
    rotate_left
    · have hok' : okB A B = false := by simpa using hok
      have c0 : cntV A B < 0 := by rw [cntV_no hok']; omega
      go_wp2_with fail
      go_ret
      exact ⟨rfl, HB.out⟩
    have CB := cntV_bd hok
    have HK := Lib.hid hok
    have CV := Lib.hid (cntV_yes hok)
    obtain rfl : m = n := by have := (ok_true hok).2.2.1; rw [HA.out, HBL.out] at this; exact this
    clear hok
    by_cases e1 : m = 1
    rotate_left
    · have t3 : ((m : Int) != 1) = true := by simp; omega
      clear CV
      go_wp2_with fail
      go_ret
      exact ⟨rfl, HB.out⟩
    subst e1
    have q0 := (OA.out.2 0 (by omega)).1
    have q1 := (OB.out.2 0 (by omega)).1
    have AR := ok_true HK.out
    have ax := AR.2.2.2.1 0 (by omega)
    have by' := AR.2.2.2.2 0 (by omega)
    have SL := Lib.hid (fun h1 h2 => sum_law HA.out HK.out h1 h2)
    generalize it A 0 = x at *
    generalize it B 0 = y at *
    have ax1 := ax.1
    have ax2 := ax.2
    have by1 := by'.1
    have by2 := by'.2
    clear AR ax by' CV
    by_cases hx : x = 0
    · subst hx
      go_wp2_with fail
      go_ret
      exact ⟨rfl, HB.out⟩
    by_cases hy : y = 0
    · subst hy
      have t3 : (x == 0) = false := by simp; exact hx
      go_wp2_with fail
      go_ret
      exact ⟨rfl, HB.out⟩
    have t3 : (x == 0) = false := by simp; exact hx
    have t4 : (y == 0) = false := by simp; exact hy
    obtain ⟨f1, f2, f3⟩ := SL.out hx hy
    obtain ⟨v1, V1⟩ : ∃ v, cntV [x - 1] B = v := ⟨_, rfl⟩
    obtain ⟨v2, V2⟩ : ∃ v, cntV A [y - 1] = v := ⟨_, rfl⟩
    rw [V1] at f1 f2
    rw [V2] at f1 f3
    have V1 := Lib.hid V1
    have V2 := Lib.hid V2
    obtain ⟨v21, v22⟩ := f2
    obtain ⟨v31, v32⟩ := f3
    have F := Lib.hid f1
    clear f1 SL hx hy
    go_wp2_with fail
    have wf1 : IntKind.i64.wrap (x - 1) = x - 1 := IntWalk.i64_in _ (by omega)
    have wf2 : IntKind.i64.wrap (y - 1) = y - 1 := IntWalk.i64_in _ (by omega)
    have PA := Lib.hid (show ∀ W, Below w3.heap.size w3 W → Ints W (some ⟨g, 0, none⟩) 1 A from fun W b => (OA.out.ints HA.out (fun _ _ => rfl)).below b)
    have PB := Lib.hid (show ∀ W, Below w3.heap.size w3 W → Ints W (some ⟨g', 0, none⟩) 1 B from fun W b => (OB.out.ints HBL.out (fun _ _ => rfl)).below b)
    go_region_held3 (fun w' => w'.cell? ⟨g, 0, none⟩ = some (.int .i64 x) ∧ w'.cell? ⟨g', 0, none⟩ = some (.int .i64 y) ∧ Below w3.heap.size w3 w')
      (first | exact ⟨q0, q1, (Below.refl _ _).drew⟩ | exact ⟨q0, q1, (Below.refl _ _)⟩ | (go_split_ands; exact keep2 q0 q1 (Below.step0 (by assumption) (by assumption))) | (go_split_ands; exact keep2 q0 q1 (Below.al (by assumption))) | (go_split_ands; exact keep2 q0 q1 (Below.al (Below.refl _ _).drew)))
      (first | ((go_at_call 14; go_split_ands; (with_reducible refine (count_is (some ⟨_, 0, none⟩) (some ⟨g', 0, none⟩) 1 1 1 c' [x - 1] B _ (Nat.le_refl _) (by unfold maxLen; omega) hmc hcm' (by (first | exact lit_ints (by simp [go_sem, wf1, wf2]) | exact lit_ints ((b8.cell (by simp [go_sem] <;> omega)).trans (by simp [go_sem, wf1, wf2])))) (PB.out _ (by first | assumption | (exact (Below.refl _ _).drew))) (by simp) (by simp) (by omega) v1 V1.out).mono ?_); rintro e w8 ⟨rfl, b8⟩)) | ((go_at_call 14; go_split_ands; (with_reducible refine (count_is (some ⟨g, 0, none⟩) (some ⟨_, 0, none⟩) 1 c 1 1 A [y - 1] _ hnc hcm (Nat.le_refl _) (by unfold maxLen; omega) (PA.out _ (by first | assumption | (exact (Below.refl _ _).drew))) (by (first | exact lit_ints (by simp [go_sem, wf1, wf2]) | exact lit_ints ((b8.cell (by simp [go_sem] <;> omega)).trans (by simp [go_sem, wf1, wf2])))) (by simp) (by simp) (by omega) v2 V2.out).mono ?_); rintro e w8 ⟨rfl, b8⟩)))
    all_goals
      go_split_ands
      have bz : Below w3.heap.size w3 w8 := by assumption
      go_wp2_with fail
      go_ret
      exact ⟨by rw [← F.out]; simp [IntWalk.i64_in (v1 + v2) (by omega)], Below.step0 HB.out bz⟩
end Go.Proofs.Ytjgbhdidboofbaa
