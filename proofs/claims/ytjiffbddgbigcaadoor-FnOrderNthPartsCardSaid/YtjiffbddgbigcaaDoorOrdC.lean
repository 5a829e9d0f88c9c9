/- Parts are checked and counted: l24Ok, l24Count, OrderCount, partsValid. -/
import Derived.Test.YtjiffbddgbigcaaDoorChoC
import Derived.Test.YtjiffbddgbigcaaDoorConcatI
import Derived.Deep.QuietTactic
import Derived.BigQuiet
namespace Go.Proofs.YtjiffbddgbigcaaDoor
open Go.RowKit
set_option linter.unusedVariables false
set_option linter.unusedSimpArgs false

theorem l6In_eq (n lo hi : Int) (v : Bool) (w : World) (h : inB n lo hi = v) : Calls Tryd.prog 33 #[.int .i64 n, .int .i64 lo, .int .i64 hi] w fun e w' => e = .returned (.bool v) ∧ w = w' := by
  subst h; exact l6In_any n lo hi w
theorem ok_len1 {A B : List Int} (h : inB (A.length : Int) 1 4 = false) : okB A B = false := by
  unfold okB inB at *
  simp only [decide_eq_false_iff_not] at *
  rintro ⟨h1, h2, _⟩
  exact h ⟨by omega, by omega⟩
theorem ok_len2 {A B : List Int} (h : B.length ≠ A.length) : okB A B = false := by
  unfold okB
  simp only [decide_eq_false_iff_not]
  rintro ⟨_, _, h3, _⟩
  exact h h3
theorem ok_badA {A B : List Int} {k : Nat} (hk : k < A.length) (h : oaB (it A k) = false) : okB A B = false := by
  unfold okB
  simp only [decide_eq_false_iff_not]
  rintro ⟨_, _, _, h4, _⟩
  rw [h4 k hk] at h; cases h
theorem ok_badB {A B : List Int} {k : Nat} (hk : k < B.length) (h : oaB (it B k) = false) : okB A B = false := by
  unfold okB
  simp only [decide_eq_false_iff_not]
  rintro ⟨_, _, _, _, h5⟩
  rw [h5 k hk] at h; cases h
theorem oaAll_succ {A : List Int} {k : Nat} (h : oaAll A k) (h2 : oaB (it A k) = true) : oaAll A (k + 1) := fun i hi => if e : i = k then e ▸ h2 else h i (by omega)
theorem ok_all {A B : List Int} (h1 : inB (A.length : Int) 1 4 = true) (h2 : B.length = A.length) (h3 : oaAll A A.length) (h4 : oaAll B A.length) : okB A B = true := by
  unfold inB at h1
  simp only [decide_eq_true_eq] at h1
  unfold okB
  exact decide_eq_true ⟨by omega, by omega, h2, h3, by rw [h2]; exact h4⟩

set_option maxHeartbeats 1600000 in
theorem l24Ok_any (a b : Option Addr) (la ca lb cb : Nat) (A B : List Int) (w : World) (hla : la ≤ ca) (hma : ca ≤ maxLen) (hlb : lb ≤ cb) (hmb : cb ≤ maxLen) (h : Ints w a la A) (h' : Ints w b lb B) :
    Calls Tryd.prog 43 #[.slice a la ca, .slice b lb cb] w fun e w' => e = .returned (.bool (okB A B)) ∧ w = w' := by
  have hm1 : ca ≤ 9223372036854775807 := hma
  have hm2 : cb ≤ 9223372036854775807 := hmb
  have H := Lib.hid h
  have H' := Lib.hid h'
  clear h h'
  by_cases h1 : inB (la : Int) 1 4 = true
  rotate_left
  · have h1' : inB (la : Int) 1 4 = false := by simpa using h1
    have Z := Lib.hid (ok_len1 (A := A) (B := B) (by rw [H.out.1]; exact h1'))
    have H1 := Lib.hid h1'
    clear h1 h1'
    go_enter Tryd.func43, Tryd.ntmps43
    go_wp2_with fail
    refine (l6In_eq _ _ _ false _ H1.out).mono ?_
    rintro e w1 ⟨rfl, rfl⟩
    go_wp2_with fail
    go_ret
    exact ⟨by first | (rw [Z.out]; rfl) | rw [Z.out], rfl⟩
  by_cases h2 : lb = la
  rotate_left
  · have t0 : ((lb : Int) != (la : Int)) = true := by simp; omega
    have t0' : (lb != la) = true := by simpa using h2
    have Z := Lib.hid (ok_len2 (A := A) (B := B) (by rw [H.out.1, H'.out.1]; exact h2))
    have H1 := Lib.hid h1
    clear h1 h2
    go_enter Tryd.func43, Tryd.ntmps43
    go_wp2_with fail
    refine (l6In_eq _ _ _ true _ H1.out).mono ?_
    rintro e w1 ⟨rfl, rfl⟩
    go_wp2_with fail
    go_ret
    exact ⟨by first | (rw [Z.out]; rfl) | rw [Z.out], rfl⟩
  obtain rfl : la = lb := h2.symm
  have t0 : ((la : Int) != (la : Int)) = false := by simp
  have l14 : 1 ≤ la ∧ la ≤ 4 := by unfold inB at h1; simp at h1; omega
  obtain ⟨ba, oa, rfl, hba, hcA⟩ : ∃ bb off, a = some ⟨bb, off, none⟩ ∧ bb < w.heap.size ∧ IntsAt w bb off A := by
    rcases H.out.2 with q | ⟨bb, off, q1, q2, q3⟩
    · omega
    · exact ⟨bb, off, q1, q2, q3⟩
  obtain ⟨bb, ob, rfl, hbb, hcB⟩ : ∃ bb off, b = some ⟨bb, off, none⟩ ∧ bb < w.heap.size ∧ IntsAt w bb off B := by
    rcases H'.out.2 with q | ⟨bb, off, q1, q2, q3⟩
    · omega
    · exact ⟨bb, off, q1, q2, q3⟩
  have HL := Lib.hid H.out.1
  have HL' := Lib.hid H'.out.1
  have HCA := Lib.hid hcA
  have HCB := Lib.hid hcB
  have H1 := Lib.hid h1
  clear hcA hcB h1
  go_enter Tryd.func43, Tryd.ntmps43
  go_wp2_with fail
  refine (l6In_eq _ _ _ true _ H1.out).mono ?_
  rintro e w1 ⟨rfl, rfl⟩
  go_wp2_with fail
  go_loop [5] (fun i => ∃ k : Nat, i = .int .i64 k ∧ k ≤ la ∧ Hid (oaAll A k ∧ oaAll B k)) (fun i => la - (intOf i).toNat)
  case atStart => exact ⟨0, rfl, Nat.zero_le _, (⟨fun i hi => absurd hi (by omega), fun i hi => absurd hi (by omega)⟩ : oaAll A 0 ∧ oaAll B 0)⟩
  case round =>
    obtain ⟨k, rfl, hk, hall⟩ := hrel
    by_cases hlt : k < la
    · have e0 := HCA.out k (by rw [HL.out]; exact hlt)
      have e1 := HCB.out k (by rw [HL'.out]; exact hlt)
      have i1 : (0 : Int) ≤ (k : Int) := by omega
      have i2 : (k : Int) < (la : Int) := by omega
      have NA := Lib.hid (fun h => ok_badA (A := A) (B := B) (k := k) (by rw [HL.out]; exact hlt) h)
      have NB := Lib.hid (fun h => ok_badB (A := A) (B := B) (k := k) (by rw [HL'.out]; exact hlt) h)
      have YES := Lib.hid (fun (h1 : oaB (it A k) = true) (h2 : oaB (it B k) = true) => And.intro (oaAll_succ hall.out.1 h1) (oaAll_succ hall.out.2 h2))
      generalize it A k = x at *
      generalize it B k = y at *
      by_cases q1 : oaB x = true
      · by_cases q2 : oaB y = true
        · have Z := Lib.hid (YES.out q1 q2)
          have Q1 := Lib.hid (show inB x 0 6 = true from q1)
          have Q2 := Lib.hid (show inB y 0 6 = true from q2)
          clear q1 q2 NA NB YES
          go_wp2_with fail
          refine (l6In_eq _ _ _ true _ Q1.out).mono ?_
          rintro e w1 ⟨rfl, rfl⟩
          go_wp2_with fail
          refine (l6In_eq _ _ _ true _ Q2.out).mono ?_
          rintro e w1 ⟨rfl, rfl⟩
          go_wp2_with fail
          go_round
          case rel => exact ⟨k + 1, by go_num, by omega, Z⟩
          case measure => simp [intOf]; omega
        · have q2' : oaB y = false := by simpa using q2
          have Z := Lib.hid (NB.out q2')
          have Q1 := Lib.hid (show inB x 0 6 = true from q1)
          have Q2 := Lib.hid (show inB y 0 6 = false from q2')
          clear q1 q2 q2' NA NB YES
          go_wp2_with fail
          refine (l6In_eq _ _ _ true _ Q1.out).mono ?_
          rintro e w1 ⟨rfl, rfl⟩
          go_wp2_with fail
          refine (l6In_eq _ _ _ false _ Q2.out).mono ?_
          rintro e w1 ⟨rfl, rfl⟩
          go_wp2_with fail
          go_ret
          exact ⟨by first | (rw [Z.out]; rfl) | rw [Z.out], rfl⟩
      · have q1' : oaB x = false := by simpa using q1
        have Z := Lib.hid (NA.out q1')
        have Q1 := Lib.hid (show inB x 0 6 = false from q1')
        clear q1 q1' NA NB YES
        go_wp2_with fail
        refine (l6In_eq _ _ _ false _ Q1.out).mono ?_
        rintro e w1 ⟨rfl, rfl⟩
        go_wp2_with fail
        go_ret
        exact ⟨by first | (rw [Z.out]; rfl) | rw [Z.out], rfl⟩
    · obtain rfl : la = k := by omega
      have Z := Lib.hid (ok_all (A := A) (B := B) (by rw [HL.out]; exact H1.out) (by rw [HL.out, HL'.out]) (by rw [HL.out]; exact hall.out.1) (by rw [HL.out]; exact hall.out.2))
      go_wp2_with fail
      go_ret
      exact ⟨by first | (rw [Z.out]; rfl) | rw [Z.out], rfl⟩

set_option maxHeartbeats 1600000 in
theorem l24Count_any (a b : Option Addr) (la ca lb cb : Nat) (A B : List Int) (w : World) (hla : la ≤ ca) (hma : ca ≤ maxLen) (hlb : lb ≤ cb) (hmb : cb ≤ maxLen) (h : Ints w a la A) (h' : Ints w b lb B) (p : Nat) (hp : p ≤ la) (hok : okB A B = true) :
    Calls Tryd.prog 34 #[.slice a la ca, .slice b lb cb, .int .i64 p] w fun e w' => e = .returned (.int .i64 ((pd A B p (la - p) : Nat) : Int)) ∧ ∃ m, w' = w.drewN m := by
  have hm1 : ca ≤ 9223372036854775807 := hma
  have hm2 : cb ≤ 9223372036854775807 := hmb
  have H := Lib.hid h
  have H' := Lib.hid h'
  clear h h'
  obtain ⟨g1, g2, g3, g4, g5⟩ := ok_true hok
  have hL := H.out.1
  have hL' := H'.out.1
  have l1 : 1 ≤ la := by omega
  have l2 : la ≤ lb := by omega
  have l3 : lb ≤ la := by omega
  have HL := Lib.hid hL
  have HL' := Lib.hid hL'
  have OK := Lib.hid hok
  clear g1 g2 g3 g4 g5 hL hL' hok
  obtain ⟨ba, oa, rfl, hba, hcA⟩ : ∃ bb off, a = some ⟨bb, off, none⟩ ∧ bb < w.heap.size ∧ IntsAt w bb off A := by
    rcases H.out.2 with q | ⟨bb, off, q1, q2, q3⟩
    · omega
    · exact ⟨bb, off, q1, q2, q3⟩
  obtain ⟨bb, ob, rfl, hbb, hcB⟩ : ∃ bb off, b = some ⟨bb, off, none⟩ ∧ bb < w.heap.size ∧ IntsAt w bb off B := by
    rcases H'.out.2 with q | ⟨bb, off, q1, q2, q3⟩
    · omega
    · exact ⟨bb, off, q1, q2, q3⟩
  have HCA := Lib.hid hcA
  have HCB := Lib.hid hcB
  clear hcA hcB
  go_enter Tryd.func34, Tryd.ntmps34
  go_wp2_with fail
  go_loopw [7, 8] (fun v i wr => ∃ j : Nat, v = .int .i64 ((pd A B p j : Nat) : Int) ∧ i = .int .i64 ((p + j : Nat) : Int) ∧ p + j ≤ la ∧ ∃ m, wr = w.drewN m) (fun _ i _ => la - (intOf i).toNat)
  case atStart => exact ⟨0, rfl, rfl, hp, 0, rfl⟩
  case round =>
    obtain ⟨j, rfl, rfl, hj, m, hwr⟩ := hrel
    have HW := Lib.hid hwr
    obtain ⟨k, hkj⟩ : ∃ k, p + j = k := ⟨_, rfl⟩
    rw [hkj] at hj ⊢
    have HK := Lib.hid hkj
    by_cases hlt : k < la
    · obtain ⟨x, hx⟩ := Int.eq_ofNat_of_zero_le ((ok_true OK.out).2.2.2.1 k (by rw [HL.out]; exact hlt)).1
      obtain ⟨y, hy⟩ := Int.eq_ofNat_of_zero_le ((ok_true OK.out).2.2.2.2 k (by rw [HL.out]; exact hlt)).1
      have e0 : wr.cell? ⟨ba, oa + k, none⟩ = some (.int .i64 x) := by rw [hwr, cell_drewN, ← hx]; exact HCA.out k (by rw [HL.out]; exact hlt)
      have e1 : wr.cell? ⟨bb, ob + k, none⟩ = some (.int .i64 y) := by rw [hwr, cell_drewN, ← hy]; exact HCB.out k (by rw [HL'.out]; omega)
      have bd := ni_bd OK.out (i := k) (by rw [HL.out]; exact hlt)
      have nx : ni A k = x := by unfold ni; rw [hx]; rfl
      have ny : ni B k = y := by unfold ni; rw [hy]; rfl
      rw [nx, ny] at bd
      have E := Lib.hid (show pd A B p (j + 1) = pd A B p j * ch x y by show pd A B p j * ch (ni A (p + j)) (ni B (p + j)) = _; rw [hkj, nx, ny])
      have pb := pd_bd OK.out p (j + 1) (by rw [HL.out]; omega)
      rw [E.out] at pb
      have i1 : (0 : Int) ≤ (k : Int) := by omega
      have i2 : (k : Int) < (la : Int) := by omega
      have i3 : (k : Int) < (lb : Int) := by omega
      have a1 : IntKind.i64.wrap (((pd A B p j : Nat) : Int) * ((ch x y : Nat) : Int)) = ((pd A B p (j + 1) : Nat) : Int) := by
        rw [← Int.natCast_mul, ← E.out]; exact IntWalk.i64_in _ (by rw [E.out]; omega)
      have hxy : x + y ≤ 12 := by omega
      have HXY := Lib.hid (And.intro hx (And.intro hy (And.intro nx ny)))
      clear hwr hkj hx hy nx ny bd pb
      go_wp2_with fail
      go_quiet ((go_at_call 47; exact Calls.quiet_of_same (l24Choose_any x y hxy _)))
      clear a1
      go_wp2_with fail
      go_roundw
      case rel => exact ⟨j + 1, rfl, by rw [← HK.out]; go_num, by have := HK.out; omega, m + nq, by rw [HW.out, World.drewN_drewN]⟩
      case measure => simp [intOf]; omega
    · obtain rfl : la = k := by omega
      have Z := Lib.hid (show ((pd A B p j : Nat) : Int) = ((pd A B p (la - p) : Nat) : Int) by rw [show la - p = j by have := HK.out; omega])
      clear hwr hkj
      go_wp2_with fail
      go_ret
      exact ⟨ret_int Z.out, m, HW.out⟩

theorem specCount_any (a b : Option Addr) (la ca lb cb : Nat) (A B : List Int) (w : World) (hla : la ≤ ca) (hma : ca ≤ maxLen) (hlb : lb ≤ cb) (hmb : cb ≤ maxLen) (h : Ints w a la A) (h' : Ints w b lb B) :
    Calls Tryd.prog 28 #[.slice a la ca, .slice b lb cb] w fun e w' => e = .returned (.int .i64 (cntV A B)) ∧ ∃ m, w' = w.drewN m := by
  have H := Lib.hid h
  have H' := Lib.hid h'
  clear h h'
  go_enter Tryd.func28, Tryd.ntmps28
  go_wp2_with fail
  refine (l24Ok_any _ _ _ _ _ _ A B _ hla hma hlb hmb H.out H'.out).mono ?_
  rintro e w1 ⟨rfl, rfl⟩
  by_cases hok : okB A B = true
  · rw [hok]
    have Z := Lib.hid (show ((pd A B 0 (la - 0) : Nat) : Int) = cntV A B by rw [cntV_yes hok, H.out.1]; rfl)
    have OK := Lib.hid hok
    clear hok
    go_wp2_with fail
    refine (l24Count_any _ _ _ _ _ _ A B _ hla hma hlb hmb H.out H'.out 0 (Nat.zero_le _) OK.out).mono ?_
    rintro e w2 ⟨rfl, m, rfl⟩
    go_wp2_with fail
    go_ret
    exact ⟨ret_int Z.out, m, rfl⟩
  · have hok' : okB A B = false := by simpa using hok
    rw [hok']
    have Z := Lib.hid (cntV_no hok')
    clear hok hok'
    go_wp2_with fail
    go_ret
    exact ⟨ret_int Z.out.symm, 0, rfl⟩

end Go.Proofs.YtjiffbddgbigcaaDoor
