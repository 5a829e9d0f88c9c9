/- impl.OrderBetween. -/
import Derived.Test.YtfggbcpefdamkaaBetS
namespace Go.Proofs.Ytfggbcpefdamkaa
open Go.RowKit
set_option linter.unusedVariables false
set_option linter.unusedSimpArgs false

theorem choose_v (s t : Int) (n k v : Nat) (hs : s = (n : Int)) (ht : t = (k : Int)) (hv : cho n k = v) (hk : k ≤ n) (hn : n ≤ 12) (w : World) : Calls Try.prog 20 #[.int .i64 s, .int .i64 t] w fun e w' => e = .returned (.int .i64 ((v : Nat) : Int)) ∧ w' = w := by
  subst hs ht hv; exact choose_any n k hk hn w

set_option maxHeartbeats 1200000 in
theorem implBet_any (a b : Option Addr) (la ca lb cb : Nat) (A B : List Int) (i k : Int) (w : World) (hla : la ≤ ca) (hma : ca ≤ maxLen) (hlb : lb ≤ cb) (hmb : cb ≤ maxLen) (i1 : -9223372036854775808 ≤ i) (i2 : i ≤ 9223372036854775807) (k1 : -9223372036854775808 ≤ k) (k2 : k ≤ 9223372036854775807) (h : Ints w a la A) (h' : Ints w b lb B) (ha : a ≠ none) (hb : b ≠ none) (hlim : la + lb ≤ 3000000) :
    Calls Try.prog 14 #[.slice a la ca, .slice b lb cb, .int .i64 i, .int .i64 k] w fun e w' => e = .returned (.int .i64 (betV A B i k)) ∧ Below w.heap.size w w' := by
  have hm1 : ca ≤ 9223372036854775807 := hma
  have hm2 : cb ≤ 9223372036854775807 := hmb
  have H := Lib.hid h
  have H' := Lib.hid h'
  clear h h'
  go_enter Try.func14, Try.ntmps14
  go_wp2_with fail
  refine (placeIn_any _ _ _ A i _ hla hma i1 i2 H.out).mono ?_
  rintro e w1 ⟨xx, pp, rfl, rfl, fA⟩
  have FA := Lib.hid fA
  clear fA
  go_wp2_with fail
  refine (placeIn_any _ _ _ B k _ hlb hmb k1 k2 H'.out).mono ?_
  rintro e w1 ⟨yy, qq, rfl, rfl, fB⟩
  have FB := Lib.hid fB
  clear fB
  go_wp2_with fail
  refine (implCount_any _ _ _ _ _ _ A B _ hla hma hlb hmb H.out H'.out ha hb hlim).mono ?_
  rintro e w1 ⟨rfl, b1⟩
  have C1 := Lib.hid b1
  by_cases hok : okB A B = true
  rotate_left
  · have hok' : okB A B = false := by simpa using hok
    have Z := Lib.hid (betV_no (i := i) (k := k) hok')
    have c0 : cntV A B < 0 := by rw [cntV_no hok']; omega
    clear hok hok' b1
    go_wp2_with fail
    go_ret
    exact ⟨ret_int Z.out.symm, C1.out⟩
  have OK := Lib.hid hok
  have CB0 := cntV_bd hok
  have CV := Lib.hid (cntV_yes hok)
  have ZB := Lib.hid (betV_yes (i := i) (k := k) hok)
  have VA := Lib.hid (ok_vA hok).1
  have VB := Lib.hid (ok_vA hok).2
  obtain ⟨g1, g2, g3, g4, g5⟩ := ok_true hok
  have HL := Lib.hid H.out.1
  have HL' := Lib.hid H'.out.1
  obtain rfl : lb = la := by rw [← HL.out, ← HL'.out]; exact g3
  have l1 : 1 ≤ lb := by rw [← HL.out]; exact g1
  obtain ⟨ba, oa, rfl, hba, hcA⟩ : ∃ bb off, a = some ⟨bb, off, none⟩ ∧ bb < w.heap.size ∧ IntsAt w bb off A := by
    rcases H.out.2 with q | ⟨bb, off, q1, q2, q3⟩
    · omega
    · exact ⟨bb, off, q1, q2, q3⟩
  obtain ⟨bb, ob, rfl, hbb, hcB⟩ : ∃ bb off, b = some ⟨bb, off, none⟩ ∧ bb < w.heap.size ∧ IntsAt w bb off B := by
    rcases H'.out.2 with q | ⟨bb, off, q1, q2, q3⟩
    · omega
    · exact ⟨bb, off, q1, q2, q3⟩
  have HCA := Lib.hid hcA
  have HCB := Lib.hid hcB
  obtain ⟨eP, eX⟩ := FA.out VA.out
  obtain ⟨eQ, eY⟩ := FB.out VB.out
  clear hcA hcB hok g1 g2 g3 g4 g5 b1 FA FB ha hb
  rw [← eP, ← eQ] at ZB
  rcases fp_cases VA.out i with ⟨p, hp, hin, e1, e2⟩ | ⟨e1, e2, _⟩
  rotate_left
  · have Z := Lib.hid (ZB.out.trans (bet_neg (.inl (by rw [eP, e1]; omega))))
    have n1 : pp < 0 := by rw [eP, e1]; omega
    clear e1 e2 eX eP eQ eY
    go_wp2_with fail
    go_ret
    exact ⟨ret_int Z.out.symm, C1.out⟩
  rcases fp_cases VB.out k with ⟨q, hq, hinq, f1, f2⟩ | ⟨f1, f2, _⟩
  rotate_left
  · have Z := Lib.hid (ZB.out.trans (bet_neg (.inr (by rw [eQ, f1]; omega))))
    have n1 : qq < 0 := by rw [eQ, f1]; omega
    have n2 : ¬ pp < 0 := by rw [eP, e1]; omega
    clear e1 e2 f1 f2 eX eP eQ eY
    go_wp2_with fail
    go_ret
    exact ⟨ret_int Z.out.symm, C1.out⟩
  rw [e1] at eP
  rw [f1] at eQ
  have eX2 := eX (by omega)
  have eY2 := eY (by omega)
  clear eX eY
  subst eX2
  subst eY2
  subst eP
  subst eQ
  rcases Nat.lt_trichotomy p q with c | c | c
  · have Z := Lib.hid (ZB.out.trans (bet_lt (by omega) (by omega)))
    have c2 : (p : Int) < (q : Int) := by omega
    clear e1 e2 f1 f2
    go_wp2_with fail
    go_ret
    exact ⟨ret_int Z.out.symm, C1.out⟩
  rotate_left
  · have Z := Lib.hid (ZB.out.trans (bet_gt (by omega) (by omega)))
    have c2 : ¬ (p : Int) < (q : Int) := by omega
    have c3 : (q : Int) < (p : Int) := by omega
    clear e1 e2 f1 f2
    go_wp2_with fail
    go_ret
    exact ⟨ret_int Z.out.symm, C1.out⟩
  subst c
  obtain ⟨X, α, x1, x2, x3, x4, x5⟩ := fd_nat VA.out hp hin
  obtain ⟨Y, β, y1, y2, y3, y4, y5⟩ := fd_nat VB.out hq hinq
  rw [x1] at e2
  rw [y1] at f2
  rw [e2, f2, bet_eq, x3, y3] at ZB
  have RB := rst_bd OK.out hp
  have RQ := rst_quo (A := A) (B := B) hp
  rw [x3, y3] at RB RQ
  have e0 := HCA.out p hp
  have e3 := HCB.out p hq
  rw [x2] at e0
  rw [y2] at e3
  have hp1 : (p : Int) < (lb : Int) := by have := HL.out; omega
  have hp0 : (0 : Int) ≤ (p : Int) := by omega
  have PV2 := Lib.hid (show cntV A B = ((rst A B p * ch α β : Nat) : Int) by rw [RB.1, CV.out])
  have RQ2 : (((rst A B p * ch α β : Nat) : Int)) / ((ch α β : Nat) : Int) = ((rst A B p : Nat) : Int) := by rw [RB.1]; exact RQ
  have BLE := Lib.hid (fun n (hn : n ≤ β) => bs_le α (by omega) β (by omega) X x4 n hn)
  have CB := ch_bd α (by omega) β (by omega)
  have CP := ch_pos α β
  have RB2 := RB.2.1
  have RB3 := RB.2.2
  rw [e2, f2]
  clear e1 e2 f1 f2 x1 x2 x3 y1 y2 y3 hin hinq RB RQ CV CB0
  generalize hr : rst A B p = r at *
  clear hr
  obtain ⟨pr, hpr⟩ : ∃ pr, r * ch α β = pr := ⟨_, rfl⟩
  rw [hpr] at PV2 RQ2 RB2
  have HPR := Lib.hid hpr
  have RQH := Lib.hid RQ2
  clear hpr RQ2
  rw [PV2.out]
  have v0 : w1.cell? ⟨ba, oa + p, none⟩ = some (.int .i64 α) := (C1.out.cell (p := ⟨ba, oa + p, none⟩) hba).trans e0
  have v1 : w1.cell? ⟨bb, ob + p, none⟩ = some (.int .i64 β) := (C1.out.cell (p := ⟨bb, ob + p, none⟩) hbb).trans e3
  have s1 : IntKind.i64.wrap ((α : Int) + (β : Int)) = (α : Int) + (β : Int) := IntWalk.i64_in _ (by omega)
  have E0 := Lib.hid e0
  have E3 := Lib.hid e3
  clear e0 e3
  go_wp2_with fail
  go_quiet ((go_at_call 20; exact Calls.quiet_of_same (choose_v _ _ (α + β) α (ch α β) (by omega) (by with_reducible rfl) rfl (by omega) (by omega) _)))
  clear v0 v1 s1
  go_wp2_with fail
  go_loopw [13, 14] (fun v j wr => ∃ n : Nat, v = .int .i64 ((bsN α β X n : Nat) : Int) ∧ j = .int .i64 n ∧ n ≤ Y + 1 ∧ Below w.heap.size w wr) (fun _ j _ => Y + 1 - (intOf j).toNat)
  case atStart => exact ⟨0, rfl, rfl, Nat.zero_le _, below_drewN C1.out _⟩
  case round =>
    obtain ⟨n, rfl, rfl, hn, hwr⟩ := hrel
    have HW := Lib.hid hwr
    have u0 : wr.cell? ⟨ba, oa + p, none⟩ = some (.int .i64 α) := (hwr.cell (p := ⟨ba, oa + p, none⟩) hba).trans E0.out
    have u1 : wr.cell? ⟨bb, ob + p, none⟩ = some (.int .i64 β) := (hwr.cell (p := ⟨bb, ob + p, none⟩) hbb).trans E3.out
    clear hwr
    have b1 := BLE.out n (by omega)
    by_cases hlt : n ≤ Y
    · obtain ⟨γ, hγ⟩ : ∃ γ : Nat, α - 1 - X = γ := ⟨_, rfl⟩
      obtain ⟨δ, hδ⟩ : ∃ δ : Nat, β - n = δ := ⟨_, rfl⟩
      have b2 := BLE.out (n + 1) (by omega)
      have E := Lib.hid (show bsN α β X (n + 1) = bsN α β X n + ch X n * ch γ δ by rw [← hγ, ← hδ]; rfl)
      rw [E.out] at b2
      have CH := Lib.hid (show cho (γ + δ) δ = ch γ δ by rw [ch_symm]; unfold ch; rw [Nat.add_comm])
      have s2 : IntKind.i64.wrap ((X : Int) + (n : Int)) = (X : Int) + (n : Int) := IntWalk.i64_in _ (by omega)
      have w1' : IntKind.i64.wrap ((α : Int) - 1) = (α : Int) - 1 := IntWalk.i64_in _ (by omega)
      have w2' : IntKind.i64.wrap ((α : Int) - 1 - (X : Int)) = (α : Int) - 1 - (X : Int) := IntWalk.i64_in _ (by omega)
      have w4' : IntKind.i64.wrap ((α : Int) - 1 - (X : Int) + (β : Int)) = (α : Int) - 1 - (X : Int) + (β : Int) := IntWalk.i64_in _ (by omega)
      have w5' : IntKind.i64.wrap ((α : Int) - 1 - (X : Int) + (β : Int) - (n : Int)) = (α : Int) - 1 - (X : Int) + (β : Int) - (n : Int) := IntWalk.i64_in _ (by omega)
      have w3' : IntKind.i64.wrap ((β : Int) - (n : Int)) = (β : Int) - (n : Int) := IntWalk.i64_in _ (by omega)
      have a1 : IntKind.i64.wrap (((ch X n : Nat) : Int) * ((ch γ δ : Nat) : Int)) = ((ch X n * ch γ δ : Nat) : Int) := by
        rw [← Int.natCast_mul]; exact IntWalk.i64_in _ (by omega)
      have a2 : IntKind.i64.wrap (((bsN α β X n : Nat) : Int) + ((ch X n * ch γ δ : Nat) : Int)) = ((bsN α β X (n + 1) : Nat) : Int) := by
        rw [← Int.natCast_add, ← E.out]; exact IntWalk.i64_in _ (by rw [E.out]; omega)
      have F3 := Lib.hid (show IntKind.i64.wrap (((bsN α β X n : Nat) : Int) + ((ch X n : Nat) : Int) * ((ch γ δ : Nat) : Int)) = ((bsN α β X (n + 1) : Nat) : Int) by rw [← Int.natCast_mul]; exact a2)
      have HG := Lib.hid hγ
      have HD := Lib.hid hδ
      have i1 : (n : Int) ≤ (Y : Int) := by omega
      clear hγ hδ b1 b2
      go_wp2_with fail
      go_quiet ((go_at_call 20; first | exact Calls.quiet_of_same (choose_v _ _ (X + n) X (ch X n) (by omega) (by with_reducible rfl) rfl (by omega) (by omega) _) | exact Calls.quiet_of_same (choose_v _ _ (γ + δ) δ (ch γ δ) (by have := HG.out; have := HD.out; omega) (by have := HD.out; omega) CH.out (by omega) (by have := HG.out; have := HD.out; omega) _)))
      go_wp2_with fail
      go_roundw
      case rel => exact ⟨n + 1, by first | rfl | (simp only [← IntWalk.i64_left, F3.out]) | (simp only [← IntWalk.i64_left, a1, a2, F3.out]), by go_num, by omega, below_drewN HW.out _⟩
      case measure => simp [intOf] <;> omega
    · obtain rfl : n = Y + 1 := by omega
      have F1 : ((r : Nat) : Int) * ((bsN α β X (Y + 1) : Nat) : Int) = ((r * bsN α β X (Y + 1) : Nat) : Int) := by rw [← Int.natCast_mul]
      have F2 : r * bsN α β X (Y + 1) ≤ pr := by rw [← HPR.out]; exact Nat.mul_le_mul_left _ b1
      have a1 := Lib.hid (show IntKind.i64.wrap (((r : Nat) : Int) * ((bsN α β X (Y + 1) : Nat) : Int)) = ((r * bsN α β X (Y + 1) : Nat) : Int) by rw [F1]; exact IntWalk.i64_in _ (by omega))
      have i1 : ¬ ((Y : Int) + 1 ≤ (Y : Int)) := by omega
      have nz : ((ch α β : Nat) : Int) ≠ 0 := by omega
      clear F1 F2 b1
      go_wp2_with fail
      go_ret
      exact ⟨ret_int (by rw [ZB.out]; first | rfl | (simp only [← IntWalk.i64_left, RQH.out, a1.out, IntWalk.i64_in ((r : Nat) : Int) (by omega)])), HW.out⟩

end Go.Proofs.Ytfggbcpefdamkaa
