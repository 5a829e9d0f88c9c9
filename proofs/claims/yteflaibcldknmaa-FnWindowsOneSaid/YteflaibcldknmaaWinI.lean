/- impl.WindowsValid and the law FnExactWindowsValid. -/
import Derived.Test.YteflaibcldknmaaWinV
namespace Go.Proofs.Yteflaibcldknmaa
open Go.RowKit
set_option linter.unusedVariables false
set_option linter.unusedSimpArgs false

theorem rgAllB_app (L S : List (Int × Int)) : rgAllB (L ++ S) = (rgAllB L && rgAllB S) := by
  unfold rgAllB
  rw [Bool.eq_iff_iff]
  simp only [decide_eq_true_eq, Bool.and_eq_true]
  have e1 : ∀ i, i < L.length → pr (L ++ S) i = pr L i := fun i hi => by unfold pr; rw [List.getD_eq_getElem?_getD, List.getD_eq_getElem?_getD, List.getElem?_append_left hi]
  have e2 : ∀ i, pr (L ++ S) (L.length + i) = pr S i := fun i => by unfold pr; rw [List.getD_eq_getElem?_getD, List.getD_eq_getElem?_getD, List.getElem?_append_right (by omega), show L.length + i - L.length = i by omega]
  constructor
  · intro h
    refine ⟨fun i hi => ?_, fun i hi => ?_⟩
    · have := h i (by simp; omega); rwa [e1 i hi] at this
    · have := h (L.length + i) (by simp; omega); rwa [e2 i] at this
  · rintro ⟨h1, h2⟩ i hi
    by_cases c : i < L.length
    · rw [e1 i c]; exact h1 i c
    · have := h2 (i - L.length) (by simp at hi; omega)
      rw [← e2, show L.length + (i - L.length) = i by omega] at this
      exact this

theorem rg_parts (y o : Int) : rgB (y, o) = !(decide (y < 0) || (decide (o < y) || decide (o > 100000))) := by
  unfold rgB
  rw [Bool.eq_iff_iff]
  simp

set_option maxHeartbeats 1600000 in
theorem implValid_any (a a' : Option Addr) (len cap len' cap' : Nat) (L S : List (Int × Int)) (w : World) (hlc : len ≤ cap) (hm : cap ≤ maxLen) (hlc' : len' ≤ cap') (hm' : cap' ≤ maxLen) (h : Prs w a len L) (h' : Prs w a' len' S) (ha : a ≠ none) (ha' : a' ≠ none) :
    Calls Try.prog 16 #[.slice a len cap, .slice a' len' cap'] w fun e w' => e = .returned (.bool (wvB L S)) ∧ Below w.heap.size w w' := by
  have hm1 : cap ≤ 9223372036854775807 := hm
  have hm2 : cap' ≤ 9223372036854775807 := hm'
  have HD : wvB L S = (inB len 1 12 && (decide ((len' : Int) = (len : Int) - 1) && (rgAllB L && rgAllB S))) := by unfold wvB; rw [h.1, h'.1]
  have H := Lib.hid h
  have H' := Lib.hid h'
  have HA := Lib.hid ha
  have HA' := Lib.hid ha'
  clear h h' ha ha'
  by_cases h1 : len < 1
  · have A := Lib.hid (HD.trans (by rw [show inB len 1 12 = false by unfold inB; simp; omega]; simp : _ = false))
    clear HD
    have t1 : (len : Int) < 1 := by omega
    clear h1
    go_enter Try.func16, Try.ntmps16
    go_wp2_with fail
    go_ret
    exact ⟨by rw [A.out]; rfl, Below.refl _ _⟩
  · by_cases h2 : 12 < len
    · have A := Lib.hid (HD.trans (by rw [show inB len 1 12 = false by unfold inB; simp; omega]; simp : _ = false))
      clear HD
      go_enter Try.func16, Try.ntmps16
      go_wp2_with fail
      go_ret
      exact ⟨by rw [A.out]; rfl, Below.refl _ _⟩
    · by_cases h3 : (len' : Int) = (len : Int) - 1
      · have t3 : ((len' : Int) != (len : Int) - 1) = false := by simp [h3]
        have A := Lib.hid (HD.trans (by rw [show inB len 1 12 = true by unfold inB; simp; omega, decide_eq_true h3, rgAllB_app]; simp : _ = rgAllB (L ++ S)))
        have HL' : len' + 1 = len := by omega
        have HL' := Lib.hid HL'
        clear HD h3
        go_enter Try.func16, Try.ntmps16
        go_wp2_with fail
        refine (concat2 w.heap.size a a' len cap len' cap' L S _ (by go_simp) (by go_simp) (H.out.below ((Below.refl _ _).alloc (Nat.le_refl _) _)) (H'.out.below ((Below.refl _ _).alloc (Nat.le_refl _) _)) HA.out HA'.out (by omega) (by have := HL'.out; omega)).mono ?_
        rintro e w1 ⟨v, rfl, hL, o1, b1⟩
        have C1 := Lib.hid (Below.step1 (Below.refl _ _) b1)
        have hn1 : 1 ≤ len + len' := by omega
        have hn2 : len + len' ≤ 1000 := by have := HL'.out; omega
        generalize hn : len + len' = n at *
        obtain ⟨a3, cp, rfl, hcp, hmp, hL3, hz | ⟨b, off, rfl, hb, hc⟩⟩ := own_prs o1 hL
        · omega
        generalize hM : L ++ S = M at *
        have hmp' : cp ≤ 9223372036854775807 := hmp
        have HC := Lib.hid hc
        have HLM := Lib.hid hL
        clear o1 hL hL3 hc b1 H H' HA HA' HL' hn hM
        go_wp2_with fail
        go_loopw [6, 28] (fun _ i wr => ∃ k : Nat, i = .int .i64 k ∧ k ≤ n ∧ Hid (rgAll M k) ∧ Below w1.heap.size w1 wr) (fun _ i _ => n - (intOf i).toNat)
        case atStart => exact ⟨0, rfl, Nat.zero_le _, (fun i hi => absurd hi (by omega)), Below.refl _ _⟩
        case round =>
          obtain ⟨k, rfl, hk, hall, B⟩ := hrel
          by_cases hlt : k < n
          · obtain ⟨c0, c1⟩ := HC.out k (by rw [HLM.out]; exact hlt)
            have e0 := (B.cell (p := ⟨b, off + k * 2, none⟩) hb).trans c0
            have e1 := (B.cell (p := ⟨b, off + k * 2 + 1, none⟩) hb).trans c1
            have HB := Lib.hid B
            have NO := Lib.hid (fun h => rg_no (L := M) (k := k) (by rw [HLM.out]; exact hlt) h)
            have YES := Lib.hid (fun (h : rgB (pr M k) = true) => show rgAll M (k + 1) from fun i hi => by
              by_cases e : i = k
              · subst e; exact h
              · exact hall.out i (by omega))
            have RG := Lib.hid (rg_parts (pr M k).1 (pr M k).2)
            have PE : pr M k = ((pr M k).1, (pr M k).2) := rfl
            rw [PE] at NO YES
            clear PE c0 c1 B
            generalize (pr M k).1 = y at *
            generalize (pr M k).2 = o at *
            by_cases h3 : y < 0
            · have A' := Lib.hid (NO.out (RG.out.trans (by rw [decide_eq_true h3]; rfl)))
              clear NO YES RG
              go_wp2_with fail
              go_ret
              exact ⟨by rw [A.out, A'.out]; rfl, C1.out.trans ((HB.out.alloc HB.out.size _).mono C1.out.size)⟩
            · by_cases h4 : o < y
              · have A' := Lib.hid (NO.out (RG.out.trans (by rw [decide_eq_true h4]; simp)))
                clear NO YES RG
                go_wp2_with fail
                go_ret
                exact ⟨by rw [A.out, A'.out]; rfl, C1.out.trans ((HB.out.alloc HB.out.size _).mono C1.out.size)⟩
              · by_cases h5 : o > 100000
                · have A' := Lib.hid (NO.out (RG.out.trans (by rw [decide_eq_true h5]; simp)))
                  clear NO YES RG
                  go_wp2_with fail
                  go_ret
                  exact ⟨by rw [A.out, A'.out]; rfl, C1.out.trans ((HB.out.alloc HB.out.size _).mono C1.out.size)⟩
                · have A' := Lib.hid (YES.out (RG.out.trans (by rw [decide_eq_false h3, decide_eq_false h4, decide_eq_false h5]; rfl)))
                  clear NO YES RG
                  go_wp2_with fail
                  go_roundw
                  case rel => exact ⟨k + 1, by go_num, by omega, A', HB.out.alloc HB.out.size _⟩
                  case measure => simp [intOf] <;> omega
          · obtain rfl : k = n := by omega
            have A' := Lib.hid (show rgAllB M = true by unfold rgAllB; rw [HLM.out]; exact decide_eq_true hall.out)
            have HB := Lib.hid B
            clear B
            go_wp2_with fail
            go_ret
            exact ⟨by rw [A.out, A'.out]; rfl, C1.out.trans (HB.out.mono C1.out.size)⟩
      · have t3 : ((len' : Int) != (len : Int) - 1) = true := by simpa using h3
        have A := Lib.hid (HD.trans (by rw [decide_eq_false h3]; simp : _ = false))
        clear HD h3
        go_enter Try.func16, Try.ntmps16
        go_wp2_with fail
        go_ret
        exact ⟨by rw [A.out]; rfl, Below.refl _ _⟩
end Go.Proofs.Yteflaibcldknmaa
