/- sameWindows. -/
import Derived.Test.YteflaibcldknmaaWinS
import Derived.Test.YteflaibcldknmaaDrawN
namespace Go.Proofs.Yteflaibcldknmaa
open Go.RowKit
set_option linter.unusedVariables false
set_option linter.unusedSimpArgs false

theorem prs_ext {L L' : List (Int × Int)} (hl : L.length = L'.length) (h : ∀ j, j < L.length → pr L j = pr L' j) : L = L' := by
  apply List.ext_getElem hl
  intro i h1 h2
  have := h i h1
  unfold pr at this
  rw [List.getD_eq_getElem?_getD, List.getElem?_eq_getElem h1, List.getD_eq_getElem?_getD, List.getElem?_eq_getElem h2] at this
  exact this

def eqL (L L' : List (Int × Int)) : Bool := decide (L = L')
theorem eqL_self (L : List (Int × Int)) : eqL L L = true := by unfold eqL; simp
theorem eqL_no {L L' : List (Int × Int)} (h : L ≠ L') : eqL L L' = false := by unfold eqL; simp [h]
theorem eqL_yes {L L' : List (Int × Int)} (h : L = L') : eqL L L' = true := by unfold eqL; simp [h]

set_option maxHeartbeats 800000 in
theorem sameWindows_any (a a' : Option Addr) (n n' c c' : Nat) (L L' : List (Int × Int)) (w : World) (hc : n ≤ c) (hm : c ≤ maxLen) (hc' : n' ≤ c') (hm' : c' ≤ maxLen) (h : Prs w a n L) (h' : Prs w a' n' L') :
    Calls Try.prog 20 #[.slice a n c, .slice a' n' c'] w fun e w' => e = .returned (.bool (eqL L L')) ∧ ∃ m, w' = w.drewN m := by
  have hm1 : c ≤ 9223372036854775807 := hm
  have hm2 : c' ≤ 9223372036854775807 := hm'
  by_cases hn : n = n'
  rotate_left
  · have t0 : ((n : Int) != (n' : Int)) = true := by simp; omega
    have t0' : (n != n') = true := by simpa using hn
    have A := Lib.hid (eqL_no (L := L) (L' := L') (fun q => hn (by rw [← h.1, ← h'.1, q])))
    clear h h' hn
    go_enter Try.func20, Try.ntmps20
    go_wp2_with fail
    go_ret
    exact ⟨by rw [A.out]; rfl, 0, rfl⟩
  subst hn
  have t0 : ((n : Int) != (n : Int)) = false := by simp
  obtain ⟨hL, h2⟩ := h
  obtain ⟨hL', h3⟩ := h'
  have HL := Lib.hid hL
  have HL' := Lib.hid hL'
  clear hL hL'
  have main : ∀ b off b' off' : Nat, (a = some ⟨b, off, none⟩ ∧ a' = some ⟨b', off', none⟩ ∧ PrsAt w b off L ∧ PrsAt w b' off' L') ∨ n = 0 → Calls Try.prog 20 #[.slice a n c, .slice a' n c'] w fun e w' => e = .returned (.bool (eqL L L')) ∧ ∃ m, w' = w.drewN m := by
    intro b off b' off' hp
    have HP := Lib.hid hp
    clear hp
    go_enter Try.func20, Try.ntmps20
    go_wp2_with fail
    go_loopw [5] (fun i wr => ∃ k : Nat, i = .int .i64 k ∧ k ≤ n ∧ Hid (∀ j, j < k → pr L j = pr L' j) ∧ ∃ m, wr = w.drewN m) (fun i _ => n - (intOf i).toNat)
    case atStart => exact ⟨0, rfl, Nat.zero_le _, (fun j hj => absurd hj (by omega)), 0, rfl⟩
    case round =>
      obtain ⟨k, rfl, hk, hall, m, hwr⟩ := hrel
      have HW := Lib.hid hwr
      by_cases hlt : k < n
      · rcases HP.out with ⟨rfl, rfl, hcc, hcc'⟩ | h0
        · obtain ⟨c0, c1⟩ := hcc k (by rw [HL.out]; exact hlt)
          obtain ⟨d0, d1⟩ := hcc' k (by rw [HL'.out]; exact hlt)
          have e0 : wr.cell? ⟨b, off + k * 2, none⟩ = some (.int .i64 (pr L k).1) := by rw [hwr]; exact c0
          have e1 : wr.cell? ⟨b, off + k * 2 + 1, none⟩ = some (.int .i64 (pr L k).2) := by rw [hwr]; exact c1
          have g0 : wr.cell? ⟨b', off' + k * 2, none⟩ = some (.int .i64 (pr L' k).1) := by rw [hwr]; exact d0
          have g1 : wr.cell? ⟨b', off' + k * 2 + 1, none⟩ = some (.int .i64 (pr L' k).2) := by rw [hwr]; exact d1
          have nk : (k : Int) < (n : Int) := by omega
          have n0 : (0 : Int) ≤ (k : Int) := by omega
          have NO := Lib.hid (fun (h : pr L k ≠ pr L' k) => eqL_no (L := L) (L' := L') (fun q => h (by rw [q])))
          have YES := Lib.hid (fun (h : pr L k = pr L' k) j (hj : j < k + 1) => show pr L j = pr L' j from if e : j = k then e ▸ h else hall.out j (by omega))
          have PE : pr L k = ((pr L k).1, (pr L k).2) := rfl
          have PE' : pr L' k = ((pr L' k).1, (pr L' k).2) := rfl
          rw [PE, PE'] at NO YES
          clear PE PE' c0 c1 d0 d1 hcc hcc' hwr
          generalize (pr L k).1 = x1 at *
          generalize (pr L k).2 = x2 at *
          generalize (pr L' k).1 = y1 at *
          generalize (pr L' k).2 = y2 at *
          by_cases h1 : x1 = y1
          · subst h1
            by_cases h2 : x2 = y2
            · subst h2
              have A := Lib.hid (YES.out rfl)
              clear NO YES
              go_wp2_with fail
              go_quiet (fail)
              go_wp2_with fail
              go_roundw
              case rel => exact ⟨k + 1, by go_num, by omega, A, m + nq, by rw [HW.out, World.drewN_drewN]⟩
              case measure => simp [intOf] <;> omega
            · have A := Lib.hid (NO.out (fun q => h2 (Prod.ext_iff.1 q).2))
              have t2 : (x2 == y2) = false := by simpa using h2
              clear NO YES h2
              go_wp2_with fail
              go_quiet (fail)
              go_wp2_with fail
              go_ret
              exact ⟨by rw [A.out]; rfl, m + nq, by rw [HW.out, World.drewN_drewN]⟩
          · have A := Lib.hid (NO.out (fun q => h1 (Prod.ext_iff.1 q).1))
            have t1 : (x1 == y1) = false := by simpa using h1
            clear NO YES h1
            go_wp2_with fail
            go_quiet (fail)
            go_wp2_with fail
            go_ret
            exact ⟨by rw [A.out]; rfl, m + nq, by rw [HW.out, World.drewN_drewN]⟩
        · omega
      · obtain rfl : k = n := by omega
        have A := Lib.hid (eqL_yes (prs_ext (by rw [HL.out, HL'.out]) (fun j hj => hall.out j (by rw [HL.out] at hj; exact hj))))
        clear hwr
        go_wp2_with fail
        go_ret
        exact ⟨by rw [A.out]; rfl, m, HW.out⟩
  rcases h2 with h2 | ⟨b, off, e, _, hcc⟩
  · exact main 0 0 0 0 (.inr h2)
  · rcases h3 with h3 | ⟨b', off', e', _, hcc'⟩
    · exact main 0 0 0 0 (.inr h3)
    · exact main b off b' off' (.inl ⟨e, e', hcc, hcc'⟩)

theorem sameWindows_b (a a' : Option Addr) (n n' c c' : Nat) (L L' : List (Int × Int)) (w : World) (hc : n ≤ c) (hm : c ≤ maxLen) (hc' : n' ≤ c') (hm' : c' ≤ maxLen) (h : Prs w a n L) (h' : Prs w a' n' L') :
    Calls Try.prog 20 #[.slice a n c, .slice a' n' c'] w fun e w' => e = .returned (.bool (eqL L L')) ∧ Below w.heap.size w w' := by
  refine (sameWindows_any a a' n n' c c' L L' w hc hm hc' hm' h h').mono ?_
  rintro e w' ⟨rfl, m, rfl⟩
  exact ⟨rfl, below_drewN (Below.refl _ _) m⟩
end Go.Proofs.Yteflaibcldknmaa
