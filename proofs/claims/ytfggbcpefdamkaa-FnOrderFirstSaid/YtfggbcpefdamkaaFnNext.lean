/- The walk of FnOrderNext. -/
import Derived.Test.YtfggbcpefdamkaaDrawP
import Derived.Deep.RegionHeld3
namespace Go.Proofs.Ytfggbcpefdamkaa
open Go.RowKit
set_option linter.unusedVariables false
set_option linter.unusedSimpArgs false

theorem nth_is (a b : Option Addr) (la ca lb cb : Nat) (A B : List Int) (n : Int) (w : World) (hla : la ≤ ca) (hma : ca ≤ maxLen) (hlb : lb ≤ cb) (hmb : cb ≤ maxLen) (h : Ints w a la A) (h' : Ints w b lb B) (ha : a ≠ none) (hb : b ≠ none) (hlim : la + lb ≤ 3000000) {t : List UInt8} {p : Bool} (ht : nthT A B n = t) (hp : nthB A B n = p) :
    Calls Try.prog 9 #[.slice a la ca, .slice b lb cb, .int .i64 n] w fun e w' => e = .returned (.tuple #[.string (bs t), .bool p]) ∧ Below w.heap.size w w' := by
  subst ht hp; exact implNth_any a b la ca lb cb A B n w hla hma hlb hmb h h' ha hb hlim
theorem lx_less : ∀ l k : List UInt8, Op.bytesLess l k = lx l k
  | _, [] => by unfold Op.bytesLess lx; rfl
  | [], _ :: _ => rfl
  | x :: l, y :: k => by
    show (decide (x < y) || (x == y && Op.bytesLess l k)) = (decide (x < y) || (x == y && lx l k))
    rw [lx_less l k]
theorem nth_at {A B : List Int} {r : Nat} (h : okB A B = true) (hr : r < tl A B 0) : nthT A B (r : Int) = ordT A B r ∧ nthB A B (r : Int) = true := by
  have y := nthB_mk h hr
  exact ⟨nthT_yes y, y⟩
theorem nth_out {A B : List Int} {n : Int} (h : cntV A B ≤ n) : nthT A B n = [] ∧ nthB A B n = false := by
  have y := nthB_big h
  exact ⟨nthT_no y, y⟩

set_option maxRecDepth 100000 in
set_option maxHeartbeats 3200000 in
theorem fnOrderNext_walk (a : Option Addr) (len cap : Nat) (zs : List Int) (w : World) (h : IsRow .u8 w a len cap zs) :
    Calls Try.prog 5 #[.slice a len cap] w fun e w' => e = .returned (.bool true) ∧ Below w.heap.size w w' := by
  obtain ⟨hc, hm⟩ := h.le
  have hm' := hm
  unfold maxLen at hm'
  have h0 := Lib.hid h.bytes
  clear h
  by_cases hl : 1048576 < len
  · go_enter Try.func5, Try.ntmps5
    go_wp2_with fail
    go_ret
    exact ⟨rfl, Below.refl _ _⟩
  · go_enter Try.func5, Try.ntmps5
    go_wp2_with fail
    refine (drawON_any _ _ _ _ hc hm h0.out).mono ?_
    rintro e w1 ⟨g, g', n, m, c, c', A, B, v, rfl, n1, n3, m1, m2, hnc, hmc, hcm, hcm', hA, hB, bA, bB, O1, O2, hgg, v0, v5, b1⟩
    have x1 : c ≤ 9223372036854775807 := hcm
    have x2 : c' ≤ 9223372036854775807 := hcm'
    have HA := Lib.hid hA
    have HBL := Lib.hid hB
    have BA := Lib.hid bA
    have BB := Lib.hid bB
    have OA := Lib.hid O1
    have OB := Lib.hid O2
    have HB := Lib.hid b1
    clear hA hB bA bB O1 O2 b1 h0
    go_wp2_with fail
    refine (implNth_any _ _ _ _ _ _ A B v _ hnc hcm hmc hcm' (OA.out.ints HA.out (fun _ _ => rfl)) (OB.out.ints HBL.out (fun _ _ => rfl)) (by simp) (by simp) (by omega)).mono ?_
    rintro e w2 ⟨rfl, b2⟩
    replace OA := Lib.hid (OA.out.below b2)
    replace OB := Lib.hid (OB.out.below b2)
    replace HB := Lib.hid (Below.step0 HB.out b2)
    clear b2
    go_wp2_with fail
    refine (specNth_b _ _ _ _ _ _ A B v _ hnc hcm hmc hcm' (OA.out.ints HA.out (fun _ _ => rfl)) (OB.out.ints HBL.out (fun _ _ => rfl))).mono ?_
    rintro e w3 ⟨rfl, b3⟩
    replace OA := Lib.hid (OA.out.below b3)
    replace OB := Lib.hid (OB.out.below b3)
    replace HB := Lib.hid (Below.step0 HB.out b3)
    clear b3
    by_cases hno : nthB A B v = false
    · rw [hno, nthT_no hno]
      generalize bs [] = ss at *
      have t2 : (ss.toList == ss.toList) = true := by simp
      clear hno
      go_wp2_with fail
      go_ret
      exact ⟨rfl, HB.out⟩
    have hyes : nthB A B v = true := by simpa using hno
    obtain ⟨hok, r, rfl, hr⟩ := nthB_yes hyes
    have CB := cntV_bd hok
    have CT := cntV_tl hok
    have HK := Lib.hid hok
    have HR := Lib.hid hr
    have TN := nthT_yes hyes
    rw [hyes, TN]
    obtain rfl : m = n := by have := (ok_true hok).2.2.1; rw [HA.out, HBL.out] at this; exact this
    obtain ⟨s, hs⟩ : ∃ s, ordT A B (r : Int).toNat = s := ⟨_, rfl⟩
    rw [hs]
    have HS := Lib.hid (show ordT A B r = s from hs)
    have SL := Lib.hid (show s.length ≤ 13 * m by have := ordT_len hok r (k := A.length) (Nat.le_refl _); rw [HA.out] at this; rw [← hs]; exact HA.out ▸ this)
    clear hok hr hyes hno TN hs
    have a1 : IntKind.i64.wrap ((r : Int) + 1) = (r : Int) + 1 := IntWalk.i64_in _ (by omega)
    have t2 : ((bs s).toList == (bs s).toList) = true := by simp
    by_cases hn : r + 1 < tl A B 0
    · obtain ⟨y1, y2⟩ := nth_at HK.out hn
      have Y1 := Lib.hid (show nthT A B ((r : Int) + 1) = ordT A B (r + 1) from y1)
      have Y2 := Lib.hid (show nthB A B ((r : Int) + 1) = true from y2)
      have LX := Lib.hid (show Op.bytesLess (bs s).toList (bs (ordT A B (r + 1))).toList = true by rw [bs_list, bs_list, lx_less, ← HS.out]; exact ordT_next (by omega) hn)
      have LL := Lib.hid (show (bs (ordT A B (r + 1))).size = (bs s).size by rw [bs_size, bs_size, ← HS.out]; exact ordT_same _ _ _ _)
      clear y1 y2
      go_wp2_with fail
      refine (nth_is _ _ _ _ _ _ A B ((r : Int) + 1) _ hnc hcm hmc hcm' (OA.out.ints HA.out (fun _ _ => rfl)) (OB.out.ints HBL.out (fun _ _ => rfl)) (by simp) (by simp) (by omega) Y1.out Y2.out).mono ?_
      rintro e w4 ⟨rfl, b4⟩
      replace OA := Lib.hid (OA.out.below b4)
      replace OB := Lib.hid (OB.out.below b4)
      replace HB := Lib.hid (Below.step0 HB.out b4)
      clear b4
      generalize bs (ordT A B (r + 1)) = q at *
      have l1 := LX.out
      have l2 := LL.out
      have l3 : (((q.size : Nat) : Int) == ((bs s).size : Int)) = true := by rw [l2]; simp
      go_wp2_with fail
      go_ret
      exact ⟨rfl, HB.out⟩
    · obtain ⟨y1, y2⟩ := nth_out (A := A) (B := B) (n := (r : Int) + 1) (by omega)
      have Y1 := Lib.hid y1
      have Y2 := Lib.hid y2
      clear y1 y2
      go_wp2_with fail
      refine (nth_is _ _ _ _ _ _ A B ((r : Int) + 1) _ hnc hcm hmc hcm' (OA.out.ints HA.out (fun _ _ => rfl)) (OB.out.ints HBL.out (fun _ _ => rfl)) (by simp) (by simp) (by omega) Y1.out Y2.out).mono ?_
      rintro e w4 ⟨rfl, b4⟩
      replace OA := Lib.hid (OA.out.below b4)
      replace OB := Lib.hid (OB.out.below b4)
      replace HB := Lib.hid (Below.step0 HB.out b4)
      clear b4
      have e0 : (bs []).toList = [] := bs_list []
      go_wp2_with fail
      go_ret
      exact ⟨rfl, HB.out⟩
end Go.Proofs.Ytfggbcpefdamkaa
