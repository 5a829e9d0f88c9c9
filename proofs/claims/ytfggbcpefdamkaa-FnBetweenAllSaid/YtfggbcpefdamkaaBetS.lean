/- spec.OrderBetween. -/
import Derived.Test.YtfggbcpefdamkaaBetF
import Derived.Test.YtfggbcpefdamkaaOrdI
namespace Go.Proofs.Ytfggbcpefdamkaa
open Go.RowKit
set_option linter.unusedVariables false
set_option linter.unusedSimpArgs false

theorem l24Choose_i (s t : Int) (a b : Nat) (hs : s = (a : Int)) (ht : t = (b : Int)) (hab : a + b ≤ 12) (w : World) : Calls Try.prog 30 #[.int .i64 s, .int .i64 t] w fun e w' => e = .returned (.int .i64 ((ch a b : Nat) : Int)) ∧ w' = w := by
  subst hs ht; exact l24Choose_any a b hab w
/-- A part that is found, its index in the part, in numbers. -/
theorem fd_nat {A : List Int} (h : vA A) {k : Int} {q : Nat} (hq : q < A.length) (h1 : inP A k q) : ∃ X α : Nat, k - smI A q = (X : Int) ∧ it A q = (α : Int) ∧ ni A q = α ∧ X < α ∧ α ≤ 6 := by
  have b := h.2 q hq
  obtain ⟨h1, h2⟩ := h1
  exact ⟨(k - smI A q).toNat, (it A q).toNat, by omega, by omega, rfl, by omega, by omega⟩
theorem rst_bd {A B : List Int} (h : okB A B = true) {p : Nat} (hp : p < A.length) : rst A B p * ch (ni A p) (ni B p) = pd A B 0 A.length ∧ rst A B p * ch (ni A p) (ni B p) ≤ 728933458176 ∧ rst A B p ≤ 728933458176 := by
  have e := rst_mul (A := A) (B := B) hp
  have b := pd_bd h 0 A.length (by omega)
  have c := ch_pos (ni A p) (ni B p)
  refine ⟨e, by omega, ?_⟩
  have : rst A B p * 1 ≤ rst A B p * ch (ni A p) (ni B p) := Nat.mul_le_mul_left _ c
  omega
theorem rst_quo {A B : List Int} {p : Nat} (hp : p < A.length) : ((pd A B 0 A.length : Nat) : Int) / ((ch (ni A p) (ni B p) : Nat) : Int) = ((rst A B p : Nat) : Int) := by
  unfold rst; rfl

set_option maxHeartbeats 1200000 in
theorem specBet_any (a b : Option Addr) (la ca lb cb : Nat) (A B : List Int) (i k : Int) (w : World) (hla : la ≤ ca) (hma : ca ≤ maxLen) (hlb : lb ≤ cb) (hmb : cb ≤ maxLen) (i2 : i ≤ 9223372036854775807) (k2 : k ≤ 9223372036854775807) (h : Ints w a la A) (h' : Ints w b lb B) :
    Calls Try.prog 15 #[.slice a la ca, .slice b lb cb, .int .i64 i, .int .i64 k] w fun e w' => e = .returned (.int .i64 (betV A B i k)) ∧ ∃ m, w' = w.drewN m := by
  have hm1 : ca ≤ 9223372036854775807 := hma
  have hm2 : cb ≤ 9223372036854775807 := hmb
  have H := Lib.hid h
  have H' := Lib.hid h'
  clear h h'
  by_cases hok : okB A B = true
  rotate_left
  · have hok' : okB A B = false := by simpa using hok
    have Z := Lib.hid (betV_no (i := i) (k := k) hok')
    have OKF := Lib.hid hok'
    clear hok hok'
    go_enter Try.func15, Try.ntmps15
    go_wp2_with fail
    refine (l24Ok_any _ _ _ _ _ _ A B _ hla hma hlb hmb H.out H'.out).mono ?_
    rintro e w1 ⟨rfl, rfl⟩
    rw [OKF.out]
    go_wp2_with fail
    go_ret
    exact ⟨ret_int Z.out.symm, 0, rfl⟩
  have OK := Lib.hid hok
  have ZB := Lib.hid (betV_yes (i := i) (k := k) hok)
  have VA := Lib.hid (ok_vA hok).1
  have VB := Lib.hid (ok_vA hok).2
  obtain ⟨g1, g2, g3, g4, g5⟩ := ok_true hok
  have HL := Lib.hid H.out.1
  have HL' := Lib.hid H'.out.1
  obtain rfl : lb = la := by rw [← HL.out, ← HL'.out]; exact g3
  have l1 : 1 ≤ lb := by rw [← HL.out]; exact g1
  obtain ⟨ba, oa, rfl, hba, hcA⟩ : ∃ bb off, a = some ⟨bb, off, none⟩ ∧ bb < w.heap.size ∧ IntsAt w bb off A := by
    rcases H.out.2 with q | ⟨bb, off, q1, q2, q3⟩
    · omega
    · exact ⟨bb, off, q1, q2, q3⟩
  obtain ⟨bb, ob, rfl, hbb, hcB⟩ : ∃ bb off, b = some ⟨bb, off, none⟩ ∧ bb < w.heap.size ∧ IntsAt w bb off B := by
    rcases H'.out.2 with q | ⟨bb, off, q1, q2, q3⟩
    · omega
    · exact ⟨bb, off, q1, q2, q3⟩
  have HCA := Lib.hid hcA
  have HCB := Lib.hid hcB
  clear hcA hcB hok g1 g2 g3 g4 g5
  go_enter Try.func15, Try.ntmps15
  go_wp2_with fail
  refine (l24Ok_any _ _ _ _ _ _ A B _ hla hma hlb hmb H.out H'.out).mono ?_
  rintro e w1 ⟨rfl, rfl⟩
  rw [OK.out]
  go_wp2_with fail
  refine (l24Find_any _ _ _ A i _ hla hma i2 H.out VA.out).mono ?_
  rintro e w1 ⟨rfl, rfl⟩
  go_wp2_with fail
  refine (l24Find_any _ _ _ B k _ hlb hmb k2 H'.out VB.out).mono ?_
  rintro e w1 ⟨rfl, rfl⟩
  rcases fp_cases VA.out i with ⟨p, hp, hin, e1, e2⟩ | ⟨e1, e2, _⟩
  rotate_left
  · have Z := Lib.hid (ZB.out.trans (bet_neg (.inl (by rw [e1]; omega))))
    rw [e1, e2]
    clear e1 e2
    go_wp2_with fail
    go_ret
    exact ⟨ret_int Z.out.symm, 0, rfl⟩
  rcases fp_cases VB.out k with ⟨q, hq, hinq, f1, f2⟩ | ⟨f1, f2, _⟩
  rotate_left
  · have Z := Lib.hid (ZB.out.trans (bet_neg (.inr (by rw [f1]; omega))))
    rw [e1, f1, f2]
    clear e1 e2 f1 f2
    go_wp2_with fail
    go_ret
    exact ⟨ret_int Z.out.symm, 0, rfl⟩
  rw [e1, f1] at ZB
  have PV := Lib.hid (show ((pd A B 0 (lb - 0) : Nat) : Int) = cntV A B by rw [cntV_yes OK.out, HL.out]; rfl)
  rcases Nat.lt_trichotomy p q with c | c | c
  · have Z := Lib.hid (ZB.out.trans (bet_lt (by omega) (by omega)))
    have c2 : (p : Int) < (q : Int) := by omega
    have c3 : ((p : Int) != (q : Int)) = true := by simp; omega
    rw [e1, f1]
    clear e1 e2 f1 f2
    go_wp2_with fail
    refine (l24Count_any _ _ _ _ _ _ A B _ hla hma hlb hmb H.out H'.out 0 (Nat.zero_le _) OK.out).mono ?_
    rintro e w2 ⟨rfl, m, rfl⟩
    rw [PV.out]
    go_wp2_with fail
    go_ret
    exact ⟨ret_int Z.out.symm, m, rfl⟩
  rotate_left
  · have Z := Lib.hid (ZB.out.trans (bet_gt (by omega) (by omega)))
    have c2 : ¬ (p : Int) < (q : Int) := by omega
    have c3 : ((p : Int) != (q : Int)) = true := by simp; omega
    rw [e1, f1]
    clear e1 e2 f1 f2
    go_wp2_with fail
    refine (l24Count_any _ _ _ _ _ _ A B _ hla hma hlb hmb H.out H'.out 0 (Nat.zero_le _) OK.out).mono ?_
    rintro e w2 ⟨rfl, m, rfl⟩
    rw [PV.out]
    go_wp2_with fail
    go_ret
    exact ⟨ret_int Z.out.symm, m, rfl⟩
  subst c
  obtain ⟨X, α, x1, x2, x3, x4, x5⟩ := fd_nat VA.out hp hin
  obtain ⟨Y, β, y1, y2, y3, y4, y5⟩ := fd_nat VB.out hq hinq
  rw [x1] at e2
  rw [y1] at f2
  rw [e2, f2, bet_eq, x3, y3] at ZB
  have RB := rst_bd OK.out hp
  have RQ := rst_quo (A := A) (B := B) hp
  rw [x3, y3] at RB RQ
  have e0 := HCA.out p hp
  have e3 := HCB.out p hq
  rw [x2] at e0
  rw [y2] at e3
  have hp1 : (p : Int) < (lb : Int) := by have := HL.out; omega
  have hp0 : (0 : Int) ≤ (p : Int) := by omega
  have c3 : ((p : Int) != (p : Int)) = false := by simp
  have PV2 := Lib.hid (show ((pd A B 0 (lb - 0) : Nat) : Int) = ((rst A B p * ch α β : Nat) : Int) by rw [RB.1, HL.out]; rfl)
  have RQ2 : (((rst A B p * ch α β : Nat) : Int)) / ((ch α β : Nat) : Int) = ((rst A B p : Nat) : Int) := by rw [RB.1]; exact RQ
  have BLE := Lib.hid (fun n (hn : n ≤ β) => bs_le α (by omega) β (by omega) X x4 n hn)
  have CB := ch_bd α (by omega) β (by omega)
  have CP := ch_pos α β
  have RB2 := RB.2.1
  have RB3 := RB.2.2
  rw [e1, e2, f1, f2]
  clear e1 e2 f1 f2 x1 x2 x3 y1 y2 y3 hin hinq RB RQ PV
  generalize hr : rst A B p = r at *
  clear hr
  obtain ⟨pr, hpr⟩ : ∃ pr, r * ch α β = pr := ⟨_, rfl⟩
  rw [hpr] at PV2 RQ2 RB2
  have HPR := Lib.hid hpr
  have RQH := Lib.hid RQ2
  clear hpr RQ2
  go_wp2_with fail
  refine (l24Count_any _ _ _ _ _ _ A B _ hla hma hlb hmb H.out H'.out 0 (Nat.zero_le _) OK.out).mono ?_
  rintro e w2 ⟨rfl, m, rfl⟩
  rw [PV2.out]
  go_wp2_with fail
  go_loopw [14, 15] (fun v j wr => ∃ n : Nat, v = .int .i64 ((bsN α β X n : Nat) : Int) ∧ j = .int .i64 n ∧ n ≤ Y + 1 ∧ ∃ m, wr = w.drewN m) (fun _ j _ => Y + 1 - (intOf j).toNat)
  case atStart => exact ⟨0, rfl, rfl, Nat.zero_le _, m, rfl⟩
  case round =>
    obtain ⟨n, rfl, rfl, hn, m', hwr⟩ := hrel
    have HW := Lib.hid hwr
    have u0 : wr.cell? ⟨ba, oa + p, none⟩ = some (.int .i64 α) := by rw [hwr, cell_drewN]; exact e0
    have u1 : wr.cell? ⟨bb, ob + p, none⟩ = some (.int .i64 β) := by rw [hwr, cell_drewN]; exact e3
    clear hwr
    have b1 := BLE.out n (by omega)
    by_cases hlt : n ≤ Y
    · obtain ⟨γ, hγ⟩ : ∃ γ : Nat, α - 1 - X = γ := ⟨_, rfl⟩
      obtain ⟨δ, hδ⟩ : ∃ δ : Nat, β - n = δ := ⟨_, rfl⟩
      have b2 := BLE.out (n + 1) (by omega)
      have E := Lib.hid (show bsN α β X (n + 1) = bsN α β X n + ch X n * ch γ δ by rw [← hγ, ← hδ]; rfl)
      rw [E.out] at b2
      have w1' : IntKind.i64.wrap ((α : Int) - 1) = (α : Int) - 1 := IntWalk.i64_in _ (by omega)
      have w2' : IntKind.i64.wrap ((α : Int) - 1 - (X : Int)) = (α : Int) - 1 - (X : Int) := IntWalk.i64_in _ (by omega)
      have w3' : IntKind.i64.wrap ((β : Int) - (n : Int)) = (β : Int) - (n : Int) := IntWalk.i64_in _ (by omega)
      have a1 : IntKind.i64.wrap (((ch X n : Nat) : Int) * ((ch γ δ : Nat) : Int)) = ((ch X n * ch γ δ : Nat) : Int) := by
        rw [← Int.natCast_mul]; exact IntWalk.i64_in _ (by omega)
      have a2 : IntKind.i64.wrap (((bsN α β X n : Nat) : Int) + ((ch X n * ch γ δ : Nat) : Int)) = ((bsN α β X (n + 1) : Nat) : Int) := by
        rw [← Int.natCast_add, ← E.out]; exact IntWalk.i64_in _ (by rw [E.out]; omega)
      have F3 := Lib.hid (show IntKind.i64.wrap (((bsN α β X n : Nat) : Int) + ((ch X n : Nat) : Int) * ((ch γ δ : Nat) : Int)) = ((bsN α β X (n + 1) : Nat) : Int) by rw [← Int.natCast_mul]; exact a2)
      have HG := Lib.hid hγ
      have HD := Lib.hid hδ
      have i1 : (n : Int) ≤ (Y : Int) := by omega
      clear hγ hδ b1 b2
      go_wp2_with fail
      go_quiet ((go_at_call 30; first | exact Calls.quiet_of_same (l24Choose_i _ _ X n (by with_reducible rfl) (by with_reducible rfl) (by omega) _) | exact Calls.quiet_of_same (l24Choose_i _ _ γ δ (by have := HG.out; omega) (by have := HD.out; omega) (by have := HG.out; have := HD.out; omega) _)))
      go_wp2_with fail
      go_roundw
      case rel => exact ⟨n + 1, by first | rfl | (simp only [← IntWalk.i64_left, F3.out]) | (simp only [← IntWalk.i64_left, a1, a2, F3.out]), by go_num, by omega, m' + nq, by rw [HW.out, World.drewN_drewN]⟩
      case measure => simp [intOf] <;> omega
    · obtain rfl : n = Y + 1 := by omega
      have F1 : ((bsN α β X (Y + 1) : Nat) : Int) * ((r : Nat) : Int) = ((r * bsN α β X (Y + 1) : Nat) : Int) := by rw [← Int.natCast_mul, Nat.mul_comm]
      have F2 : r * bsN α β X (Y + 1) ≤ pr := by rw [← HPR.out]; exact Nat.mul_le_mul_left _ b1
      have a1 : IntKind.i64.wrap (((bsN α β X (Y + 1) : Nat) : Int) * ((r : Nat) : Int)) = ((r * bsN α β X (Y + 1) : Nat) : Int) := by rw [F1]; exact IntWalk.i64_in _ (by omega)
      have i1 : ¬ ((Y : Int) + 1 ≤ (Y : Int)) := by omega
      clear F1 F2 b1
      go_wp2_with fail
      go_quiet ((go_at_call 30; exact Calls.quiet_of_same (l24Choose_i _ _ α β (by with_reducible rfl) (by with_reducible rfl) (by omega) _)))
      go_wp2_with fail
      go_ret
      exact ⟨ret_int (by rw [ZB.out]; rw [RQH.out]; simp only [← IntWalk.i64_left]; rw [IntWalk.i64_in ((r : Nat) : Int) (by omega), a1]), m' + nq, by rw [HW.out, World.drewN_drewN]⟩

end Go.Proofs.Ytfggbcpefdamkaa
