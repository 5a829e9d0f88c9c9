/- The orders of a rank: the reference. -/
import Derived.Test.YtjiffbddgbigcaaDoorTxtI
import Derived.Test.YtjiffbddgbigcaaDoorOrdI

namespace Go.Proofs.YtjiffbddgbigcaaDoor
open Go.RowKit
set_option linter.unusedVariables false
set_option linter.unusedSimpArgs false

/-- The answer to a rank. -/
def nthB (A B : List Int) (n : Int) : Bool := okB A B && decide (0 ≤ n ∧ n < cntV A B)
def nthT (A B : List Int) (n : Int) : List UInt8 := if nthB A B n = true then ordT A B n.toNat else []
theorem nthT_no {A B : List Int} {n : Int} (h : nthB A B n = false) : nthT A B n = [] := by unfold nthT; rw [if_neg (by simp [h])]
theorem nthT_yes {A B : List Int} {n : Int} (h : nthB A B n = true) : nthT A B n = ordT A B n.toNat := by unfold nthT; rw [if_pos h]
theorem cntV_tl {A B : List Int} (h : okB A B = true) : cntV A B = ((tl A B 0 : Nat) : Int) := by
  rw [cntV_yes h]
  unfold tl
  rw [Nat.sub_zero]
theorem cntV_bd2 (A B : List Int) : -1 ≤ cntV A B ∧ cntV A B ≤ 728933458176 := by
  cases h : okB A B
  · rw [cntV_no h]; omega
  · have := cntV_bd h; omega
theorem nthB_yes {A B : List Int} {n : Int} (h : nthB A B n = true) : okB A B = true ∧ ∃ r : Nat, n = (r : Int) ∧ r < tl A B 0 := by
  unfold nthB at h
  simp only [Bool.and_eq_true, decide_eq_true_eq] at h
  refine ⟨h.1, n.toNat, by omega, ?_⟩
  have := h.2.2
  rw [cntV_tl h.1] at this
  omega
theorem nthB_mk {A B : List Int} {r : Nat} (h : okB A B = true) (hr : r < tl A B 0) : nthB A B (r : Int) = true := by
  unfold nthB
  rw [h, cntV_tl h]
  simp
  omega
theorem nthB_in {A B : List Int} {n : Int} (h : nthB A B n = true) : inB n 0 (cntV A B - 1) = true := by
  unfold nthB at h
  simp only [Bool.and_eq_true, decide_eq_true_eq] at h
  unfold inB
  simp
  omega
theorem nthB_no {A B : List Int} {n : Int} (h : nthB A B n = false) : inB n 0 (cntV A B - 1) = false := by
  cases hk : okB A B
  · unfold inB
    rw [cntV_no hk]
    simp
    omega
  · unfold nthB at h
    rw [hk] at h
    simp at h
    unfold inB
    simp
    omega
theorem tl_bd {A B : List Int} (h : okB A B = true) {k : Nat} (hk : k ≤ A.length) : 1 ≤ tl A B k ∧ tl A B k ≤ 728933458176 := pd_bd h k _ (by omega)
/-- A digit and what is left, in numbers. -/
theorem tl_nat {A B : List Int} {r : Nat} (h : okB A B = true) (hr : r < tl A B 0) {k : Nat} (hk : k < A.length) :
    1 ≤ tl A B (k + 1) ∧ tl A B (k + 1) ≤ 728933458176 ∧ r % tl A B k ≤ 728933458176 ∧ pd A B (k + 1) (A.length - (k + 1)) = tl A B (k + 1) ∧ r % tl A B k / tl A B (k + 1) = dg A B r k ∧ r % tl A B k % tl A B (k + 1) = r % tl A B (k + 1) := by
  have b := tl_bd h (k := k + 1) (by omega)
  have b0 := tl_bd h (k := 0) (by omega)
  have m := Nat.mod_le r (tl A B k)
  exact ⟨b.1, b.2, by omega, rfl, dg_up r hk, rest_up r hk⟩
theorem l24Count_i (a b : Option Addr) (la ca lb cb : Nat) (A B : List Int) (w : World) (hla : la ≤ ca) (hma : ca ≤ maxLen) (hlb : lb ≤ cb) (hmb : cb ≤ maxLen) (h : Ints w a la A) (h' : Ints w b lb B) (s : Int) (p : Nat) (hs : s = (p : Int)) (hp : p ≤ la) (hok : okB A B = true) (v : Int) (hv : ((pd A B p (la - p) : Nat) : Int) = v) :
    Calls Tryd.prog 34 #[.slice a la ca, .slice b lb cb, .int .i64 s] w fun e w' => e = .returned (.int .i64 v) ∧ ∃ m, w' = w.drewN m := by
  subst hs hv; exact l24Count_any a b la ca lb cb A B w hla hma hlb hmb h h' p hp hok
theorem l24Text_is (s t u : Int) (a b n : Nat) (q : List UInt8) (hs : s = (a : Int)) (ht : t = (b : Int)) (hu : u = (n : Int)) (ha : a ≤ 6) (hb : b ≤ 6) (hn : n < ch a b) (hq : txt (a + b) a b n = q) (w : World) :
    Calls Tryd.prog 35 #[.int .i64 s, .int .i64 t, .int .i64 u] w fun e w' => e = .returned (.string (bs q)) ∧ w' = w := by
  subst hs ht hu hq; exact l24Text_any a b n ha hb hn w
theorem ints_drewN {w : World} {a : Option Addr} {n : Nat} {A : List Int} (h : Ints w a n A) (m : Nat) : Ints (w.drewN m) a n A := h.below (below_drewN (Below.refl _ _) m)
set_option maxHeartbeats 1600000 in
theorem specNth_any (a b : Option Addr) (la ca lb cb : Nat) (A B : List Int) (n : Int) (w : World) (hla : la ≤ ca) (hma : ca ≤ maxLen) (hlb : lb ≤ cb) (hmb : cb ≤ maxLen) (h : Ints w a la A) (h' : Ints w b lb B) :
    Calls Tryd.prog 13 #[.slice a la ca, .slice b lb cb, .int .i64 n] w fun e w' => e = .returned (.tuple #[.string (bs (nthT A B n)), .bool (nthB A B n)]) ∧ ∃ m, w' = w.drewN m := by
  have hm1 : ca ≤ 9223372036854775807 := hma
  have hm2 : cb ≤ 9223372036854775807 := hmb
  have H := Lib.hid h
  have H' := Lib.hid h'
  clear h h'
  have cb9 := cntV_bd2 A B
  have a0 : IntKind.i64.wrap (cntV A B - 1) = cntV A B - 1 := IntWalk.i64_in _ (by omega)
  by_cases hno : nthB A B n = false
  · have IB := nthB_no hno
    have TN := nthT_no hno
    rw [hno, TN]
    go_enter Tryd.func13, Tryd.ntmps13
    go_wp2_with fail
    refine (specCount_any _ _ _ _ _ _ A B _ hla hma hlb hmb H.out H'.out).mono ?_
    rintro e w1 ⟨rfl, m, rfl⟩
    go_wp2_with fail
    refine (l6In_any _ _ _ _).mono ?_
    rintro e _ ⟨rfl, rfl⟩
    try rw [a0]
    rw [IB]
    go_wp2_with fail
    go_ret2
    exact ⟨rfl, m, rfl⟩
  have hyes : nthB A B n = true := by simpa using hno
  have IB := nthB_in hyes
  obtain ⟨hok, r, rfl, hr⟩ := nthB_yes hyes
  have OK := Lib.hid hok
  have HR := Lib.hid hr
  obtain ⟨g1, g2, g3, g4, g5⟩ := ok_true hok
  have TN := Lib.hid (nthT_yes hyes)
  have BI := Lib.hid IB
  have YB := Lib.hid hyes
  have HL := Lib.hid H.out.1
  obtain rfl : lb = la := by have := H'.out.1; have := H.out.1; omega
  have hl4 : lb ≤ 4 := by have := H.out.1; omega
  have hl1 : 1 ≤ lb := by have := H.out.1; omega
  obtain ⟨ba, oa, rfl, hba, hcA⟩ : ∃ bb off, a = some ⟨bb, off, none⟩ ∧ bb < w.heap.size ∧ IntsAt w bb off A := by
    rcases H.out.2 with q | ⟨bb, off, q1, q2, q3⟩
    · omega
    · exact ⟨bb, off, q1, q2, q3⟩
  obtain ⟨bb, ob, rfl, hbb, hcB⟩ : ∃ bb off, b = some ⟨bb, off, none⟩ ∧ bb < w.heap.size ∧ IntsAt w bb off B := by
    rcases H'.out.2 with q | ⟨bb, off, q1, q2, q3⟩
    · omega
    · exact ⟨bb, off, q1, q2, q3⟩
  have HCA := Lib.hid hcA
  have HCB := Lib.hid hcB
  have G4 := Lib.hid g4
  have G5 := Lib.hid g5
  have TS := Lib.hid (fun k (hk : k < lb) => tl_nat hok hr (k := k) (by rw [H.out.1]; exact hk))
  clear hcA hcB hok hr g1 g2 g3 g4 g5 hyes hno IB
  go_enter Tryd.func13, Tryd.ntmps13
  go_wp2_with fail
  refine (specCount_any _ _ _ _ _ _ A B _ hla hma hlb hmb H.out H'.out).mono ?_
  rintro e w1 ⟨rfl, m, rfl⟩
  go_wp2_with fail
  refine (l6In_any _ _ _ _).mono ?_
  rintro e _ ⟨rfl, rfl⟩
  try rw [a0]
  rw [BI.out]
  go_wp2_with fail
  go_loopw [2, 8, 9] (fun vn o i wr => ∃ k : Nat, vn = .int .i64 ((r % tl A B k : Nat) : Int) ∧ o = .string (bs (jn (pt A B r) k)) ∧ i = .int .i64 k ∧ k ≤ lb ∧ ∃ m, wr = w.drewN m) (fun _ _ i _ => lb - (intOf i).toNat)
  case atStart => exact ⟨0, by rw [Nat.mod_eq_of_lt HR.out], rfl, rfl, Nat.zero_le _, m, rfl⟩
  case round =>
    obtain ⟨k, rfl, rfl, rfl, hk, m', hwr⟩ := hrel
    have HW := Lib.hid hwr
    by_cases hlt : k < lb
    · obtain ⟨q1, q2, q3, q4, q5, q6⟩ := TS.out k hlt
      have bA := G4.out k (by rw [HL.out]; exact hlt)
      have bB := G5.out k (by rw [HL.out]; exact hlt)
      obtain ⟨α, hα, hα2⟩ : ∃ α : Nat, it A k = (α : Int) ∧ ni A k = α := ⟨(it A k).toNat, by omega, rfl⟩
      obtain ⟨β, hβ, hβ2⟩ : ∃ β : Nat, it B k = (β : Int) ∧ ni B k = β := ⟨(it B k).toNat, by omega, rfl⟩
      have u0 : wr.cell? ⟨ba, oa + k, none⟩ = some (.int .i64 α) := by rw [hwr, cell_drewN, ← hα]; exact HCA.out k (by rw [HL.out]; exact hlt)
      have u1 : wr.cell? ⟨bb, ob + k, none⟩ = some (.int .i64 β) := by rw [hwr, cell_drewN, ← hβ]; exact HCB.out k (by have := H'.out.1; omega)
      have J0 := jn (pt A B r) k
      have JL := ordT_len OK.out r (k := k) (by rw [HL.out]; omega)
      have PL := pt_len A B r k
      have DL := Lib.hid (show dg A B r k < ch α β by have := dg_lt A B r k; unfold cc at this; rw [hα2, hβ2] at this; exact this)
      have PT := Lib.hid (show txt (α + β) α β (dg A B r k) = pt A B r k by unfold pt; rw [hα2, hβ2])
      have HT := Lib.hid (H.out)
      have i0 : (0 : Int) ≤ (k : Int) := by omega
      have i1 : (k : Int) < (lb : Int) := by omega
      have a1 : IntKind.i64.wrap ((k : Int) + 1) = ((k + 1 : Nat) : Int) := by rw [IntWalk.i64_in _ (by omega)]; omega
      obtain ⟨ν, hν⟩ : ∃ ν, r % tl A B k = ν := ⟨_, rfl⟩
      obtain ⟨τ, hτ⟩ : ∃ τ, tl A B (k + 1) = τ := ⟨_, rfl⟩
      obtain ⟨δ, hδ⟩ : ∃ δ, dg A B r k = δ := ⟨_, rfl⟩
      rw [hν] at q3 q5 q6
      rw [hτ] at q1 q2 q4 q5 q6
      rw [hδ] at q5 DL PT
      rw [hν]
      have Q4 := Lib.hid (show ((pd A B (k + 1) (lb - (k + 1)) : Nat) : Int) = (τ : Int) by rw [← HL.out, q4])
      have q7 : (ν : Int) / (τ : Int) = (δ : Int) := by rw [← q5]; rfl
      have q8 : (ν : Int) % (τ : Int) = ((ν % τ : Nat) : Int) := rfl
      have q9 : (ν : Int).tmod (τ : Int) = ((ν % τ : Nat) : Int) := rfl
      have q10 : (ν : Int).tdiv (τ : Int) = (δ : Int) := by rw [← q5]; rfl
      have d9 : δ ≤ 924 := by have := ch_bd α (by omega) β (by omega); have := DL.out; omega
      have NT := Lib.hid (show ν % τ = r % tl A B (k + 1) by rw [q6, hτ])
      obtain ⟨ρ, hρ⟩ : ∃ ρ, ν % τ = ρ := ⟨_, rfl⟩
      rw [hρ] at q8 q9 NT
      have jn0 := Lib.hid (show 0 < k → jn (pt A B r) (k + 1) = (jn (pt A B r) k ++ [124]) ++ pt A B r k from fun h => jn_more _ h)
      have jn1 := Lib.hid (show ¬ 0 < k → jn (pt A B r) (k + 1) = jn (pt A B r) k ++ pt A B r k from fun h => by show (if 0 < k then _ else _) ++ _ = _; rw [if_neg h])
      rw [hα2, hβ2] at PL
      have PTE := PT.out
      generalize jn (pt A B r) k = p at *
      generalize pt A B r k = q at *
      have bl : α ≤ 6 ∧ β ≤ 6 := by omega
      obtain ⟨bl1, bl2⟩ := bl
      have A1 := fun W => run_bs_add Tryd.prog W p [124] (by simp; omega)
      have A2 := fun W => run_bs_add Tryd.prog W p q (by omega)
      have A3 := fun W => run_bs_add Tryd.prog W (p ++ [124]) q (by simp; omega)
      have e1 : bs [124] = ⟨#[124]⟩ := rfl
      rw [e1] at A1
      clear e1 hwr bA bB hα hα2 hβ hβ2 q3 q4 q5 q6 hν hτ hδ hρ J0 PTE
      by_cases hk0 : 0 < k
      · have E := Lib.hid (jn0.out hk0)
        have i2 : (0 : Int) < (k : Int) := by omega
        clear jn0 jn1 A2
        go_wp2_with fail
        refine (l24Count_i _ _ _ _ _ _ A B _ hla hma hlb hmb ?_ ?_ _ (k + 1) (by first | rfl | exact a1 | simp) (by omega) OK.out τ Q4.out).mono ?_
        · rw [HW.out]; exact ints_drewN H.out m'
        · rw [HW.out]; exact ints_drewN H'.out m'
        rintro e w2 ⟨rfl, m2, hw2⟩
        have v0 : w2.cell? ⟨ba, oa + k, none⟩ = some (.int .i64 α) := by rw [hw2, cell_drewN]; exact u0
        have v1 : w2.cell? ⟨bb, ob + k, none⟩ = some (.int .i64 β) := by rw [hw2, cell_drewN]; exact u1
        have HW2 := Lib.hid (show w2 = w.drewN (m' + m2) by rw [hw2, HW.out, World.drewN_drewN])
        clear hw2 u0 u1
        go_wp2_with fail
        go_quiet ((go_at_call 35; exact Calls.quiet_of_same (l24Text_is _ _ _ α β δ q rfl rfl (by first | rfl | exact q7) bl1 bl2 DL.out PT.out _)))
        go_wp2_with fail
        go_roundw
        case rel => exact ⟨k + 1, by rw [← NT.out], by first | (rw [E.out]; done) | (rw [E.out]; simp), by go_num, by omega, m' + m2 + nq, by rw [HW2.out, World.drewN_drewN]⟩
        case measure => simp [intOf] <;> omega
      · have E := Lib.hid (jn1.out hk0)
        have i2 : ¬ (0 : Int) < (k : Int) := by omega
        clear jn0 jn1 A1 A3
        go_wp2_with fail
        refine (l24Count_i _ _ _ _ _ _ A B _ hla hma hlb hmb ?_ ?_ _ (k + 1) (by first | rfl | exact a1 | simp) (by omega) OK.out τ Q4.out).mono ?_
        · rw [HW.out]; exact ints_drewN H.out m'
        · rw [HW.out]; exact ints_drewN H'.out m'
        rintro e w2 ⟨rfl, m2, hw2⟩
        have v0 : w2.cell? ⟨ba, oa + k, none⟩ = some (.int .i64 α) := by rw [hw2, cell_drewN]; exact u0
        have v1 : w2.cell? ⟨bb, ob + k, none⟩ = some (.int .i64 β) := by rw [hw2, cell_drewN]; exact u1
        have HW2 := Lib.hid (show w2 = w.drewN (m' + m2) by rw [hw2, HW.out, World.drewN_drewN])
        clear hw2 u0 u1
        go_wp2_with fail
        go_quiet ((go_at_call 35; exact Calls.quiet_of_same (l24Text_is _ _ _ α β δ q rfl rfl (by first | rfl | exact q7) bl1 bl2 DL.out PT.out _)))
        go_wp2_with fail
        go_roundw
        case rel => exact ⟨k + 1, by rw [← NT.out], by first | (rw [E.out]; done) | (rw [E.out]; simp), by go_num, by omega, m' + m2 + nq, by rw [HW2.out, World.drewN_drewN]⟩
        case measure => simp [intOf] <;> omega
    · obtain rfl : lb = k := by omega
      have E := Lib.hid (show bs (jn (pt A B r) lb) = bs (nthT A B r) by rw [TN.out, ← HL.out]; rfl)
      have YB2 := YB
      have i1 : ¬ (lb : Int) < (lb : Int) := by omega
      clear hwr
      go_wp2_with fail
      go_ret2
      exact ⟨by rw [E.out, YB.out]; rfl, m', HW.out⟩
end Go.Proofs.YtjiffbddgbigcaaDoor
