/- partsValid and impl.OrderCount. -/
import Derived.Test.YtjiffbddgbigcaaDoorOrdC
namespace Go.Proofs.YtjiffbddgbigcaaDoor
open Go.RowKit
set_option linter.unusedVariables false
set_option linter.unusedSimpArgs false

theorem it_app_l {A B : List Int} {i : Nat} (h : i < A.length) : it (A ++ B) i = it A i := by
  unfold it; rw [List.getD_eq_getElem?_getD, List.getD_eq_getElem?_getD, List.getElem?_append_left h]
theorem it_app_r (A B : List Int) (i : Nat) : it (A ++ B) (A.length + i) = it B i := by
  unfold it; rw [List.getD_eq_getElem?_getD, List.getD_eq_getElem?_getD, List.getElem?_append_right (by omega), show A.length + i - A.length = i by omega]
theorem ok_badAB {A B : List Int} {k : Nat} (hk : k < (A ++ B).length) (h : oaB (it (A ++ B) k) = false) : okB A B = false := by
  by_cases c : k < A.length
  · rw [it_app_l c] at h; exact ok_badA c h
  · obtain ⟨j, rfl⟩ : ∃ j, k = A.length + j := ⟨k - A.length, by omega⟩
    rw [it_app_r] at h
    exact ok_badB (by simp at hk; omega) h
theorem ok_allAB {A B : List Int} (h : oaAll (A ++ B) (A.length + B.length)) (h1 : B.length = A.length) (h2 : 1 ≤ A.length) (h3 : A.length ≤ 4) : okB A B = true := by
  unfold okB
  refine decide_eq_true ⟨h2, h3, h1, fun i hi => ?_, fun i hi => ?_⟩
  · rw [← it_app_l (B := B) hi]; exact h i (by omega)
  · rw [← it_app_r A B i]; exact h _ (by omega)
theorem ok_len0 {A B : List Int} (h : ¬ 1 ≤ A.length) : okB A B = false := by
  unfold okB
  simp only [decide_eq_false_iff_not]
  rintro ⟨h1, _⟩
  exact h h1
theorem ok_len5 {A B : List Int} (h : ¬ A.length ≤ 4) : okB A B = false := by
  unfold okB
  simp only [decide_eq_false_iff_not]
  rintro ⟨_, h1, _⟩
  exact h h1

set_option maxHeartbeats 1600000 in
theorem partsValid_any (a b : Option Addr) (la ca lb cb : Nat) (A B : List Int) (w : World) (hla : la ≤ ca) (hma : ca ≤ maxLen) (hlb : lb ≤ cb) (hmb : cb ≤ maxLen) (h : Ints w a la A) (h' : Ints w b lb B) (ha : a ≠ none) (hb : b ≠ none) (hlim : la + lb ≤ 3000000) :
    Calls Tryd.prog 38 #[.slice a la ca, .slice b lb cb] w fun e w' => e = .returned (.bool (okB A B)) ∧ Below w.heap.size w w' := by
  have hm1 : ca ≤ 9223372036854775807 := hma
  have hm2 : cb ≤ 9223372036854775807 := hmb
  have HLA := Lib.hid h.1
  have HLB := Lib.hid h'.1
  have H := Lib.hid h
  have H' := Lib.hid h'
  have HA := Lib.hid ha
  have HB' := Lib.hid hb
  clear h h' ha hb
  go_enter Tryd.func38, Tryd.ntmps38
  go_wp2_with fail
  refine (concatI2 w.heap.size a b la ca lb cb A B _ (by go_simp) (by go_simp) (H.out.below ((Below.refl _ _).alloc (Nat.le_refl _) _)) (H'.out.below ((Below.refl _ _).alloc (Nat.le_refl _) _)) HA.out HB'.out hlim).mono ?_
  rintro e w1 ⟨v, rfl, hL, o1, b1⟩
  have C1 := Lib.hid (Below.step1 (Below.refl _ _) b1)
  obtain ⟨n, hn⟩ : ∃ n, la + lb = n := ⟨_, rfl⟩
  rw [hn] at hL o1 hlim
  have HN := Lib.hid hn
  obtain ⟨a3, cp, rfl, hcp, hmp, hL3, hz⟩ := own_ints o1 hL
  have HZ := Lib.hid hz
  have NO := Lib.hid (fun k (hk : k < n) h => ok_badAB (A := A) (B := B) (k := k) (by rw [hL]; exact hk) h)
  generalize hM : A ++ B = M at *
  have hmp' : cp ≤ 9223372036854775807 := hmp
  have HLM := Lib.hid hL
  have HM := Lib.hid hM
  clear o1 hL hL3 hz b1 H H' HA HB' hn hM
  go_wp2_with fail
  go_loopw [6, 12] (fun _ i wr => ∃ k : Nat, i = .int .i64 k ∧ k ≤ n ∧ Hid (oaAll M k) ∧ Below w1.heap.size w1 wr) (fun _ i _ => n - (intOf i).toNat)
  case atStart => exact ⟨0, rfl, Nat.zero_le _, (fun i hi => absurd hi (by omega)), Below.refl _ _⟩
  case round =>
    obtain ⟨k, rfl, hk, hall, B0⟩ := hrel
    have HB := Lib.hid B0
    by_cases hlt : k < n
    · rcases HZ.out with hz | ⟨bk, off, rfl, hbk, hc⟩
      · omega
      · have e0 := (B0.cell (p := ⟨bk, off + k, none⟩) hbk).trans (hc k (by rw [HLM.out]; exact hlt))
        have NO' := Lib.hid (NO.out k hlt)
        have YES := Lib.hid (fun (h1 : oaB (it M k) = true) => oaAll_succ hall.out h1)
        have i1 : (0 : Int) ≤ (k : Int) := by omega
        have i2 : (k : Int) < (n : Int) := by omega
        clear hc B0
        generalize it M k = x at *
        by_cases h3 : x < 0
        · have A' := Lib.hid (NO'.out (by unfold oaB; simp; omega))
          clear NO NO' YES
          go_wp2_with fail
          go_ret
          exact ⟨by rw [A'.out]; rfl, C1.out.trans (HB.out.mono C1.out.size)⟩
        · by_cases h4 : 6 < x
          · have A' := Lib.hid (NO'.out (by unfold oaB; simp; omega))
            clear NO NO' YES
            go_wp2_with fail
            go_ret
            exact ⟨by rw [A'.out]; rfl, C1.out.trans (HB.out.mono C1.out.size)⟩
          · have A' := Lib.hid (YES.out (by unfold oaB; simp; omega))
            clear NO NO' YES
            go_wp2_with fail
            go_roundw
            case rel => exact ⟨k + 1, by go_num, by omega, A', HB.out⟩
            case measure => simp [intOf] <;> omega
    · obtain rfl : n = k := by omega
      clear B0
      by_cases c1 : lb = la
      · have t1 : ((la : Int) == (lb : Int)) = true := by simp; omega
        by_cases c2 : 1 ≤ la
        · have i3 : (1 : Int) ≤ (la : Int) := by omega
          by_cases c3 : la ≤ 4
          · have Z := Lib.hid (ok_allAB (A := A) (B := B) (by rw [HM.out, HLA.out, HLB.out, HN.out]; exact hall.out) (by rw [HLA.out, HLB.out]; exact c1) (by rw [HLA.out]; exact c2) (by rw [HLA.out]; exact c3))
            have i4 : (la : Int) ≤ 4 := by omega
            clear c1
            go_wp2_with fail
            go_ret
            exact ⟨by first | (rw [Z.out]; rfl) | rw [Z.out], C1.out.trans (HB.out.mono C1.out.size)⟩
          · have Z := Lib.hid (ok_len5 (A := A) (B := B) (by rw [HLA.out]; exact c3))
            have i4 : (4 : Int) < (la : Int) := by omega
            clear c1
            go_wp2_with fail
            go_ret
            exact ⟨by rw [Z.out]; show Ending.returned (.bool (decide ((la : Int) ≤ 4))) = _; rw [decide_eq_false (by omega)], C1.out.trans (HB.out.mono C1.out.size)⟩
        · have Z := Lib.hid (ok_len0 (A := A) (B := B) (by rw [HLA.out]; exact c2))
          have i3 : (la : Int) < 1 := by omega
          clear c1
          go_wp2_with fail
          go_ret
          exact ⟨by first | (rw [Z.out]; rfl) | rw [Z.out], C1.out.trans (HB.out.mono C1.out.size)⟩
      · have t1 : ((la : Int) == (lb : Int)) = false := by simp; omega
        have Z := Lib.hid (ok_len2 (A := A) (B := B) (by rw [HLA.out, HLB.out]; exact c1))
        clear c1
        go_wp2_with fail
        go_ret
        exact ⟨by first | (rw [Z.out]; rfl) | rw [Z.out], C1.out.trans (HB.out.mono C1.out.size)⟩

set_option maxHeartbeats 1600000 in
theorem implCount_any (a b : Option Addr) (la ca lb cb : Nat) (A B : List Int) (w : World) (hla : la ≤ ca) (hma : ca ≤ maxLen) (hlb : lb ≤ cb) (hmb : cb ≤ maxLen) (h : Ints w a la A) (h' : Ints w b lb B) (ha : a ≠ none) (hb : b ≠ none) (hlim : la + lb ≤ 3000000) :
    Calls Tryd.prog 15 #[.slice a la ca, .slice b lb cb] w fun e w' => e = .returned (.int .i64 (cntV A B)) ∧ Below w.heap.size w w' := by
  have hm1 : ca ≤ 9223372036854775807 := hma
  have hm2 : cb ≤ 9223372036854775807 := hmb
  have HLA := Lib.hid h.1
  have H := Lib.hid h
  have H' := Lib.hid h'
  clear h h'
  go_enter Tryd.func15, Tryd.ntmps15
  go_wp2_with fail
  refine (partsValid_any _ _ _ _ _ _ A B _ hla hma hlb hmb H.out H'.out ha hb hlim).mono ?_
  rintro e w1 ⟨rfl, b1⟩
  have C1 := Lib.hid b1
  by_cases hok : okB A B = true
  · rw [hok]
    have OK := Lib.hid hok
    obtain ⟨g1, g2, g3, g4, g5⟩ := ok_true hok
    have l1 : 1 ≤ la := by rw [← HLA.out]; exact g1
    have l2 : lb = la := by rw [← HLA.out, ← H'.out.1]; exact g3
    subst l2
    obtain ⟨ba, oa, rfl, hba, hcA⟩ : ∃ bb off, a = some ⟨bb, off, none⟩ ∧ bb < w.heap.size ∧ IntsAt w bb off A := by
      rcases H.out.2 with q | ⟨bb, off, q1, q2, q3⟩
      · omega
      · exact ⟨bb, off, q1, q2, q3⟩
    obtain ⟨bb, ob, rfl, hbb, hcB⟩ : ∃ bb off, b = some ⟨bb, off, none⟩ ∧ bb < w.heap.size ∧ IntsAt w bb off B := by
      rcases H'.out.2 with q | ⟨bb, off, q1, q2, q3⟩
      · omega
      · exact ⟨bb, off, q1, q2, q3⟩
    have HCA := Lib.hid hcA
    have HCB := Lib.hid hcB
    have HL' := Lib.hid H'.out.1
    clear hcA hcB hok g1 g2 g3 g4 g5 b1
    go_wp2_with fail
    go_loopw [5, 6, 13] (fun v _ i wr => ∃ j : Nat, v = .int .i64 ((pd A B 0 j : Nat) : Int) ∧ i = .int .i64 j ∧ j ≤ lb ∧ Below w.heap.size w wr) (fun _ _ i _ => lb - (intOf i).toNat)
    case atStart => exact ⟨0, rfl, rfl, Nat.zero_le _, C1.out⟩
    case round =>
      obtain ⟨k, rfl, rfl, hk, B0⟩ := hrel
      have HB := Lib.hid B0
      by_cases hlt : k < lb
      · obtain ⟨x, hx⟩ := Int.eq_ofNat_of_zero_le ((ok_true OK.out).2.2.2.1 k (by rw [HLA.out]; exact hlt)).1
        obtain ⟨y, hy⟩ := Int.eq_ofNat_of_zero_le ((ok_true OK.out).2.2.2.2 k (by rw [HLA.out]; exact hlt)).1
        have e0 : wr.cell? ⟨ba, oa + k, none⟩ = some (.int .i64 x) := by rw [B0.cell (p := ⟨ba, oa + k, none⟩) hba, ← hx]; exact HCA.out k (by rw [HLA.out]; exact hlt)
        have e1 : wr.cell? ⟨bb, ob + k, none⟩ = some (.int .i64 y) := by rw [B0.cell (p := ⟨bb, ob + k, none⟩) hbb, ← hy]; exact HCB.out k (by rw [HL'.out]; omega)
        have bd := ni_bd OK.out (i := k) (by rw [HLA.out]; exact hlt)
        have nx : ni A k = x := by unfold ni; rw [hx]; rfl
        have ny : ni B k = y := by unfold ni; rw [hy]; rfl
        rw [nx, ny] at bd
        have E := Lib.hid (show pd A B 0 (k + 1) = pd A B 0 k * ch x y by show pd A B 0 k * ch (ni A (0 + k)) (ni B (0 + k)) = _; rw [Nat.zero_add, nx, ny])
        have pb := pd_bd OK.out 0 (k + 1) (by rw [HLA.out]; omega)
        rw [E.out] at pb
        have i1 : (0 : Int) ≤ (k : Int) := by omega
        have i2 : (k : Int) < (lb : Int) := by omega
        have a1 : IntKind.i64.wrap (((pd A B 0 k : Nat) : Int) * ((cho (x + y) x : Nat) : Int)) = ((pd A B 0 (k + 1) : Nat) : Int) := by
          rw [show cho (x + y) x = ch x y from rfl, ← Int.natCast_mul, ← E.out]; exact IntWalk.i64_in _ (by rw [E.out]; omega)
        have a2 : IntKind.i64.wrap ((x : Int) + (y : Int)) = ((x + y : Nat) : Int) := by
          rw [← Int.natCast_add]; exact IntWalk.i64_in _ (by omega)
        have hxy : x + y ≤ 12 := by omega
        clear hx hy nx ny bd pb B0
        go_wp2_with fail
        go_quiet ((go_at_call 30; exact Calls.quiet_of_same (choose_any (x + y) x (by omega) hxy _)))
        clear a1 a2
        go_wp2_with fail
        go_roundw
        case rel => exact ⟨k + 1, by first | rfl | (show _ = Value.int .i64 ((pd A B 0 (k + 1) : Nat) : Int); assumption), by go_num, by omega, below_drewN HB.out _⟩
        case measure => simp [intOf] <;> omega
      · obtain rfl : lb = k := by omega
        have Z := Lib.hid (show ((pd A B 0 lb : Nat) : Int) = cntV A B by rw [cntV_yes OK.out, HLA.out])
        clear B0
        go_wp2_with fail
        go_ret
        exact ⟨ret_int Z.out, HB.out⟩
  · have hok' : okB A B = false := by simpa using hok
    rw [hok']
    have Z := Lib.hid (cntV_no hok')
    clear hok hok' b1
    go_wp2_with fail
    go_ret
    exact ⟨ret_int Z.out.symm, C1.out⟩

end Go.Proofs.YtjiffbddgbigcaaDoor
