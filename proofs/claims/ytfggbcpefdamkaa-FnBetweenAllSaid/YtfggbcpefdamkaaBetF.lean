/- The part of a layer: placeIn, l24Find. -/
import Derived.Test.YtfggbcpefdamkaaBet
namespace Go.Proofs.Ytfggbcpefdamkaa
open Go.RowKit
set_option linter.unusedVariables false
set_option linter.unusedSimpArgs false

def IP (A : List Int) (k : Int) (j : Nat) (kk : Int) : Prop :=
  (0 ≤ k ∧ kk = k - smI A j ∧ 0 ≤ kk ∧ ∀ q, q < j → ¬ inP A k q) ∨ (k < 0 ∧ (kk < 0 ∨ 9223372036854775808 - 6 * (j : Int) ≤ kk) ∧ -9223372036854775808 ≤ kk ∧ kk ≤ 9223372036854775807)
theorem IP_start (A : List Int) {k : Int} (h1 : -9223372036854775808 ≤ k) (h2 : k ≤ 9223372036854775807) : IP A k 0 k := by
  unfold IP
  by_cases c : 0 ≤ k
  · exact .inl ⟨c, by show k = k - 0; omega, c, fun q hq => absurd hq (by omega)⟩
  · exact .inr ⟨by omega, .inl (by omega), h1, h2⟩
theorem IP_step {A : List Int} (h : vA A) {k : Int} (h2 : k ≤ 9223372036854775807) {j : Nat} {kk : Int} (hj : j < A.length) (hi : IP A k j kk) (hn : ¬ (0 ≤ kk ∧ kk < it A j)) : IP A k (j + 1) (IntKind.i64.wrap (kk - it A j)) := by
  have b := h.2 j hj
  have e : smI A (j + 1) = smI A j + it A j := rfl
  have l := h.1
  rcases hi with ⟨c, e1, e2, e3⟩ | ⟨c, e1, e2, e3⟩
  · have s := sm_bd h j (by omega)
    rw [IntWalk.i64_in _ (by omega)]
    refine .inl ⟨c, by omega, by omega, fun q hq => ?_⟩
    by_cases z : q = j
    · subst z; unfold inP; omega
    · exact e3 q (by omega)
  · refine .inr ⟨c, ?_⟩
    rw [IntKind.wrap_i64]
    omega
theorem IP_found {A : List Int} (h : vA A) {k : Int} {j : Nat} {kk : Int} (hj : j < A.length) (hi : IP A k j kk) (h0 : 0 ≤ kk) (h1 : kk < it A j) : fp A k = j ∧ fx A k = kk := by
  have b := h.2 j hj
  have l := h.1
  rcases hi with ⟨c, e1, e2, e3⟩ | ⟨c, e1, e2, e3⟩
  · have := fp_yes h hj (show inP A k j from ⟨by omega, by omega⟩)
    exact ⟨this.1, by omega⟩
  · omega
theorem fp_negk {A : List Int} (h : vA A) {k : Int} (c : k < 0) : fp A k = -1 ∧ fx A k = 0 :=
  fp_no (fun q hq => by have := sm_bd h q (by omega); unfold inP; omega)
theorem IP_end {A : List Int} (h : vA A) {k : Int} {kk : Int} (hi : IP A k A.length kk) : fp A k = -1 := by
  rcases hi with ⟨c, e1, e2, e3⟩ | ⟨c, e1, e2, e3⟩
  · exact (fp_no e3).1
  · exact (fp_negk h c).1

def PlaceP (A : List Int) (k : Int) (w : World) (e : Ending) (w' : World) : Prop := ∃ x p : Int, e = .returned (.tuple #[.int .i64 x, .int .i64 p]) ∧ w = w' ∧ (vA A → p = fp A k ∧ (0 ≤ p → x = fx A k))
set_option maxHeartbeats 800000 in
theorem placeIn_any (a : Option Addr) (n c : Nat) (A : List Int) (k : Int) (w : World) (hc : n ≤ c) (hm : c ≤ maxLen) (k1 : -9223372036854775808 ≤ k) (k2 : k ≤ 9223372036854775807) (h : Ints w a n A) :
    Calls Try.prog 27 #[.slice a n c, .int .i64 k] w (PlaceP A k w) := by
  have hm' : c ≤ 9223372036854775807 := hm
  have HL := Lib.hid h.1
  have HZ := Lib.hid h.2
  have I0 := Lib.hid (IP_start A k1 k2)
  have K2 := Lib.hid k2
  clear h k1 k2
  go_enter Try.func27, Try.ntmps27
  go_wp2_with fail
  go_loop [1, 6, 7, 10] (fun v _ _ i => ∃ (j : Nat) (kk : Int), v = .int .i64 kk ∧ i = .int .i64 j ∧ j ≤ n ∧ Hid (vA A → IP A k j kk)) (fun _ _ _ i => n - (intOf i).toNat)
  case atStart => exact ⟨0, k, rfl, rfl, Nat.zero_le _, fun _ => I0.out⟩
  case round =>
    obtain ⟨j, kk, rfl, rfl, hj, inv⟩ := hrel
    by_cases hlt : j < n
    · rcases HZ.out with hz | ⟨b, off, rfl, hb, hcc⟩
      · omega
      · have e0 := hcc j (by rw [HL.out]; exact hlt)
        have FND := Lib.hid (fun (hv : vA A) h0 h1 => IP_found hv (by rw [HL.out]; exact hlt) (inv.out hv) h0 h1)
        have STP := Lib.hid (fun (hv : vA A) h1 => IP_step hv K2.out (by rw [HL.out]; exact hlt) (inv.out hv) h1)
        generalize it A j = x at *
        have i1 : (0 : Int) ≤ (j : Int) := by omega
        have i2 : (j : Int) < (n : Int) := by omega
        clear hcc
        by_cases h3 : 0 ≤ kk
        · by_cases h4 : kk < x
          · have F := Lib.hid (fun hv => FND.out hv h3 h4)
            clear FND STP
            go_wp2_with fail
            go_ret2
            exact ⟨kk, j, rfl, rfl, fun hv => ⟨(F.out hv).1.symm, fun _ => (F.out hv).2.symm⟩⟩
          · have S := Lib.hid (fun hv => STP.out hv (by omega))
            clear FND STP
            go_wp2_with fail
            go_round
            case rel => exact ⟨j + 1, _, rfl, by go_num, by omega, by have := S.out; exact fun hv => by have := this hv; first | exact this | (rw [IntWalk.i64_left] at this; exact this)⟩
            case measure => simp [intOf] <;> omega
        · have S := Lib.hid (fun hv => STP.out hv (by omega))
          clear FND STP
          go_wp2_with fail
          go_round
          case rel => exact ⟨j + 1, _, rfl, by go_num, by omega, by have := S.out; exact fun hv => by have := this hv; first | exact this | (rw [IntWalk.i64_left] at this; exact this)⟩
          case measure => simp [intOf] <;> omega
    · obtain rfl : n = j := by omega
      have F := Lib.hid (fun (hv : vA A) => IP_end hv (by rw [HL.out]; exact inv.out hv))
      clear inv
      go_wp2_with fail
      go_ret2
      exact ⟨_, _, rfl, rfl, fun hv => ⟨(F.out hv).symm, fun h => absurd h (by omega)⟩⟩

set_option maxHeartbeats 800000 in
theorem l24Find_any (a : Option Addr) (n c : Nat) (A : List Int) (k : Int) (w : World) (hc : n ≤ c) (hm : c ≤ maxLen) (k2 : k ≤ 9223372036854775807) (h : Ints w a n A) (hv : vA A) :
    Calls Try.prog 29 #[.slice a n c, .int .i64 k] w fun e w' => e = .returned (.tuple #[.int .i64 (fp A k), .int .i64 (fx A k)]) ∧ w = w' := by
  have hm' : c ≤ 9223372036854775807 := hm
  have HL := Lib.hid h.1
  have HZ := Lib.hid h.2
  have HV := Lib.hid hv
  clear h hv
  by_cases hk : k < 0
  · have F := Lib.hid (fp_negk HV.out hk)
    go_enter Try.func29, Try.ntmps29
    go_wp2_with fail
    go_loop [1, 6] (fun v i => v = .int .i64 k ∧ i = .int .i64 0) (fun _ _ => 0)
    case atStart => exact ⟨rfl, rfl⟩
    case round =>
      obtain ⟨rfl, rfl⟩ := hrel
      by_cases hn : 0 < n
      · have hk' : ¬ 0 ≤ k := by omega
        go_wp2_with fail
        go_ret2
        exact ⟨by rw [F.out.1, F.out.2]; rfl, rfl⟩
      · obtain rfl : n = 0 := by omega
        go_wp2_with fail
        go_ret2
        exact ⟨by rw [F.out.1, F.out.2]; rfl, rfl⟩
  · have hk0 : 0 ≤ k := by omega
    go_enter Try.func29, Try.ntmps29
    go_wp2_with fail
    go_loop [1, 6] (fun v i => ∃ (j : Nat) (kk : Int), v = .int .i64 kk ∧ i = .int .i64 j ∧ j ≤ n ∧ kk = k - smI A j ∧ 0 ≤ kk ∧ Hid (∀ q, q < j → ¬ inP A k q)) (fun _ i => n - (intOf i).toNat)
    case atStart => exact ⟨0, k, rfl, rfl, Nat.zero_le _, by show k = k - 0; omega, hk0, fun q hq => absurd hq (by omega)⟩
    case round =>
      obtain ⟨j, kk, rfl, rfl, hj, hkk, kk0, inv⟩ := hrel
      by_cases hlt : j < n
      · rcases HZ.out with hz | ⟨b, off, rfl, hb, hcc⟩
        · omega
        · have e0 := hcc j (by rw [HL.out]; exact hlt)
          have b6 := HV.out.2 j (by rw [HL.out]; exact hlt)
          have s6 := sm_bd HV.out j (by rw [HL.out]; omega)
          have FND := Lib.hid (fun (h1 : kk < it A j) => fp_yes HV.out (q := j) (k := k) (by rw [HL.out]; exact hlt) ⟨by omega, by omega⟩)
          have STP := Lib.hid (fun (h1 : ¬ kk < it A j) => show (kk - it A j = k - smI A (j + 1)) ∧ ∀ q, q < j + 1 → ¬ inP A k q from ⟨by show _ = k - (smI A j + it A j); omega, fun q hq => by
            by_cases z : q = j
            · subst z; unfold inP; omega
            · exact inv.out q (by omega)⟩)
          have HKK := Lib.hid hkk
          clear hkk s6
          generalize it A j = x at *
          obtain ⟨b61, b62⟩ := b6
          have kk9 : kk ≤ 9223372036854775807 := by have := sm_bd HV.out j (by rw [HL.out]; omega); have := HKK.out; omega
          have i1 : (0 : Int) ≤ (j : Int) := by omega
          have i2 : (j : Int) < (n : Int) := by omega
          clear hcc
          by_cases h4 : kk < x
          · have F := Lib.hid (FND.out h4)
            clear FND STP
            go_wp2_with fail
            go_ret2
            exact ⟨by rw [F.out.1, F.out.2, ← HKK.out]; rfl, rfl⟩
          · have S := Lib.hid (STP.out h4)
            clear FND STP
            go_wp2_with fail
            go_round
            case rel => exact ⟨j + 1, _, rfl, by go_num, by omega, S.out.1, by omega, S.out.2⟩
            case measure => simp [intOf] <;> omega
      · obtain rfl : n = j := by omega
        have F := Lib.hid (fp_no (A := A) (k := k) (by rw [HL.out]; exact inv.out))
        clear inv hkk
        go_wp2_with fail
        go_ret2
        exact ⟨by rw [F.out.1, F.out.2]; rfl, rfl⟩

end Go.Proofs.Ytfggbcpefdamkaa
