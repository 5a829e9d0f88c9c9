/- The walk of FnMixSame. -/
import Derived.Test.YtkblbppemjnpdaaMixP
import Derived.Test.YtkblbppemjnpdaaFnTwice
namespace Go.Proofs.Ytkblbppemjnpdaa
open Go.RowKit
set_option linter.unusedVariables false

theorem ps_mono {L : List (Int × Int)} {n : Nat} (h : mxAll L n) : ∀ k, k < n → (pr L k).1 ≤ psA L n := by
  induction n with
  | zero => intro k hk; omega
  | succ n ih =>
    intro k hk
    have hn : mxAll L n := fun i hi => h i (by omega)
    obtain ⟨q1, _⟩ := ps_bd hn
    obtain ⟨p1, _⟩ := wv_bd' (h n (by omega))
    show (pr L k).1 ≤ psA L n + (pr L n).1
    by_cases e : k = n
    · subst e; omega
    · have := ih hn k (by omega); omega

/-- A water twice. -/
theorem mx_two {p q : Int} (hv : wvB p q = true) : (mxOk [(p, q), (p, q)] = false ∧ mxA [(p, q), (p, q)] = 0 ∧ mxH [(p, q), (p, q)] = 0) ∨
    (mxOk [(p, q), (p, q)] = true ∧ wrOk (mxA [(p, q), (p, q)]) (mxH [(p, q), (p, q)]) = true ∧ wrN (mxA [(p, q), (p, q)]) (mxH [(p, q), (p, q)]) = wrN p q ∧ wrD (mxA [(p, q), (p, q)]) (mxH [(p, q), (p, q)]) = wrD p q) := by
  have hall : mxAll [(p, q), (p, q)] [(p, q), (p, q)].length := by
    intro i hi
    match i, hi with
    | 0, _ => exact hv
    | 1, _ => exact hv
  have hs := mx_sum (L := [(p, q), (p, q)]) (by simp) (by simp) hall
  have e1 : psA [(p, q), (p, q)] [(p, q), (p, q)].length = 2 * p := by show (0 + p) + p = 2 * p; omega
  have e2 : psH [(p, q), (p, q)] [(p, q), (p, q)].length = 2 * q := by show (0 + q) + q = 2 * q; omega
  rw [e1, e2] at hs
  cases ho : mxOk [(p, q), (p, q)] with
  | false => obtain ⟨a1, a2, _⟩ := mx_no ho; exact .inl ⟨rfl, a1, a2⟩
  | true =>
    obtain ⟨a1, a2, _⟩ := mx_yes ho
    rw [e1] at a1
    rw [e2] at a2
    refine .inr ⟨rfl, ?_⟩
    rw [a1, a2]
    rcases ratio_twice hv with ⟨b1, _⟩ | ⟨_, b2, b3, b4⟩
    · rw [ho] at hs
      have := wv_bd' hs.symm
      omega
    · exact ⟨b2, b3, b4⟩

theorem prs_two {w : World} {p q : Int} {t : TypeId} {g : Nat} (hg : g = w.heap.size) : Prs (w.alloc (.cells #[.int .i64 p, .int .i64 q, .int .i64 p, .int .i64 q] t)) (some ⟨g, 0, none⟩) 2 [(p, q), (p, q)] := by
  subst hg
  refine ⟨rfl, .inr ⟨w.heap.size, 0, rfl, by simp, fun i hi => ?_⟩⟩
  match i, hi with
  | 0, _ => simp [pr, go_sem]
  | 1, _ => simp [pr, go_sem]

set_option maxHeartbeats 1600000 in
theorem fnMixSame_walk (a : Option Addr) (len cap : Nat) (zs : List Int) (a2 : Option Addr) (mlen mcap : Nat) (zs2 : List Int) (w : World) (h : IsRow .u8 w a len cap zs) (h' : IsRow .u8 w a2 mlen mcap zs2) :
    Calls Try.prog 11 #[.slice a len cap, .slice a2 mlen mcap] w fun e w' => e = .returned (.bool true) ∧ Below w.heap.size w w' := by
  obtain ⟨hc, hm⟩ := h.le
  have hm' := hm
  unfold maxLen at hm'
  obtain ⟨hc', hn⟩ := h'.le
  have hn' := hn
  unfold maxLen at hn'
  have h0 := Lib.hid h.bytes
  clear h h'
  by_cases hl : 1048576 < len
  · have d1 : decide ((1048576 : Int) < (len : Int)) = true := by simp; omega
    go_enter Try.func11, Try.ntmps11
    go_wp2_with fail
    go_ret
    exact ⟨rfl, Below.refl _ _⟩
  · have d1 : decide ((1048576 : Int) < (len : Int)) = false := by simp; omega
    by_cases hl' : 1048576 < mlen
    · have d2 : decide ((1048576 : Int) < (mlen : Int)) = true := by simp; omega
      go_enter Try.func11, Try.ntmps11
      go_wp2_with fail
      go_ret
      exact ⟨rfl, Below.refl _ _⟩
    · have d2 : decide ((1048576 : Int) < (mlen : Int)) = false := by simp; omega
      go_enter Try.func11, Try.ntmps11
      go_wp2_with fail
      refine (drawWaterMix_any _ _ _ _ hc hm h0.out).mono ?_
      rintro e w1 ⟨a', n, cp, L, rfl, n7, hnc, hcm, P1, b1⟩
      have HP1 := Lib.hid P1
      clear P1
      go_wp2_with fail
      refine (waterMix_any _ _ _ L _ hnc hcm HP1.out).mono ?_
      rintro e w2 ⟨rfl, b2⟩
      have C2 := Below.step0 b1 b2
      have HP2 := Lib.hid ((HP1.out.below b2).below ((Below.refl _ _).alloc (Nat.le_refl _) (.cells #[.int .i64 (mxA L), .int .i64 (mxH L)] 25)))
      clear HP1 b2
      go_wp2_with fail
      refine (specWaterMix_any _ _ _ L _ hnc hcm HP2.out).mono ?_
      rintro e w3 ⟨rfl, b3⟩
      have C3 := Below.al (o := .cells #[.int .i64 (mxA L), .int .i64 (mxH L)] 25) (Below.step1 C2 b3)
      obtain ⟨k0, k1, l0⟩ := blk_cells b3
      have HP3 := Lib.hid ((HP2.out.below b3).below ((Below.refl _ _).alloc (Nat.le_refl _) (.cells #[.int .i64 (mxA L), .int .i64 (mxH L)] 25)))
      clear HP2 C2
      have D3 := Lib.hid b3
      have HC := Lib.hid C3
      clear b3 C3
      by_cases hok : mxOk L = true
      rotate_left
      · have hok' : mxOk L = false := by simpa using hok
        rw [hok']
        clear hok hok'
        go_wp2_with fail
        go_ret
        exact ⟨rfl, HC.out⟩
      rw [hok]
      obtain ⟨hL, hP⟩ := HP3.out
      have T := Lib.hid (mx_true hok)
      obtain ⟨b, off, rfl, hb, hcell⟩ : ∃ b off : Nat, a' = some ⟨b, off, none⟩ ∧ b < (w3.alloc (.cells #[.int .i64 (mxA L), .int .i64 (mxH L)] 25)).heap.size ∧ PrsAt (w3.alloc (.cells #[.int .i64 (mxA L), .int .i64 (mxH L)] 25)) b off L := by
        rcases hP with hP | hP
        · have := T.out.1; omega
        · exact hP
      have HL := Lib.hid hL
      have HCell := Lib.hid hcell
      have V := Lib.hid (mx_yes hok)
      have n1 : 1 ≤ n := by have := T.out.1; rw [HL.out] at this; exact this
      have n6 : n ≤ 6 := by have := T.out.2.1; rw [HL.out] at this; exact this
      clear hok hL hcell HP3
      have hmod : mlen % n < n := Nat.mod_lt _ (by omega)
      obtain ⟨e0, e1⟩ := HCell.out (mlen % n) (by rw [HL.out]; exact hmod)
      have hv := T.out.2.2.1 (mlen % n) (by rw [HL.out]; exact hmod)
      have hge := ps_mono T.out.2.2.1 (mlen % n) (by rw [HL.out]; exact hmod)
      rw [← V.out.1] at hge
      generalize pr L (mlen % n) = pq at *
      obtain ⟨p, q⟩ := pq
      dsimp only at e0 e1 hv hge
      have M := Lib.hid (mx_two hv)
      have HV := Lib.hid hv
      clear hv
      go_wp2_with fail
      have P4 := prs_two (w := (w3.alloc (.cells #[.int .i64 (mxA L), .int .i64 (mxH L)] 25)).alloc (.cells #[.int .i64 p, .int .i64 q] 25)) (p := p) (q := q) (t := 25) (g := w3.heap.size + 1 + 1) (by simp)
      refine (waterMix_any _ 2 2 [(p, q), (p, q)] _ (Nat.le_refl _) (by unfold maxLen; omega) P4).mono ?_
      rintro e w4 ⟨rfl, b4⟩
      -- the blocks: out at w2, w at w3 + 1
      have hblk := b4.cell (p := ⟨w3.heap.size + 1, 0, none⟩) (by simp)
      have hblk1 := b4.cell (p := ⟨w3.heap.size + 1, 1, none⟩) (by simp)
      have u0 : w4.cell? ⟨w3.heap.size + 1, 0, none⟩ = some (.int .i64 p) := hblk.trans (by simp [go_sem])
      have u1 : w4.cell? ⟨w3.heap.size + 1, 1, none⟩ = some (.int .i64 q) := hblk1.trans (by simp [go_sem])
      have v0 : w4.cell? ⟨w2.heap.size, 0, none⟩ = some (.int .i64 (mxA L)) := (b4.cell (p := ⟨w2.heap.size, 0, none⟩) (by simp; omega)).trans (by simp [go_sem, l0, k0, Nat.lt_succ_of_lt l0])
      have C4 := Lib.hid (Below.step2 HC.out b4)
      clear hblk hblk1 b4 P4 e0 e1 k0 k1
      generalize mxA [(p, q), (p, q)] = s at *
      generalize mxH [(p, q), (p, q)] = t at *
      generalize mxOk [(p, q), (p, q)] = ok at *
      go_wp2_with fail
      refine (waterRatio_any _ _ _).mono ?_
      rintro e w5 ⟨rfl, b5⟩
      have z5 := Below.lt1 b5
      have u0 := (Below.cell (Below.step1 (Below.refl _ w4) b5) (World.block_lt_of_cell? _ _ u0)).trans u0
      have u1 := (Below.cell (Below.step1 (Below.refl _ w4) b5) (World.block_lt_of_cell? _ _ u1)).trans u1
      have v0 := (Below.cell (Below.step1 (Below.refl _ w4) b5) (World.block_lt_of_cell? _ _ v0)).trans v0
      have C5 := Lib.hid (Below.step1 C4.out b5)
      have hu := World.block_lt_of_cell? _ _ u0
      have hv := World.block_lt_of_cell? _ _ v0
      dsimp only at hu hv
      clear b5 C4
      go_wp2_with fail
      refine (waterRatio_any _ _ _).mono ?_
      rintro e w6 ⟨rfl, b6⟩
      obtain ⟨r0, r1, l5⟩ := blk_cells b6
      have u0 := (Below.cell (Below.step1 (Below.refl _ w5) b6) hu).trans u0
      have v0 := (Below.cell (Below.step1 (Below.refl _ w5) b6) hv).trans v0
      have C6 := Lib.hid (Below.al (o := .cells #[.int .i64 (wrN p q), .int .i64 (wrD p q)] 43) (Below.step1 C5.out b6))
      have hu := World.block_lt_of_cell? _ _ u0
      have hv := World.block_lt_of_cell? _ _ v0
      dsimp only at hu hv
      clear b6 C5 u1
      rw [(wr_facts HV.out).1]
      have t1 : decide (p ≤ mxA L) = true := by simpa using hge
      rcases M.out with ⟨rfl, _, _⟩ | ⟨rfl, o2, o3, o4⟩
      · clear M
        go_wp2_with fail
        go_ret
        exact ⟨rfl, C6.out⟩
      · rw [o2]
        rw [o3] at r0
        rw [o4] at r1
        clear o2 o3 o4 M
        go_wp2_with fail
        go_ret
        exact ⟨rfl, C6.out⟩
end Go.Proofs.Ytkblbppemjnpdaa
