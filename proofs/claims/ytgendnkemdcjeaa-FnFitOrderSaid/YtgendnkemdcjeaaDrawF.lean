/- Drawn windows and ages: DrawWindowsFit. -/
import Derived.Test.YtgendnkemdcjeaaDrawT
import Derived.Test.YtgendnkemdcjeaaYoung
import Derived.Test.YtgendnkemdcjeaaLast
import Derived.Deep.OwnRows
namespace Go.Proofs.Ytgendnkemdcjeaa
open Go.RowKit
set_option linter.unusedVariables false
set_option linter.unusedSimpArgs false

def DrawFP (w : World) (e : Ending) (w' : World) : Prop := ∃ (g g' g3 n m c c' c3 : Nat) (L S : List (Int × Int)) (A : List Int), e = .returned (.tuple #[.slice (some ⟨g, 0, none⟩) n c, .slice (some ⟨g', 0, none⟩) m c', .slice (some ⟨g3, 0, none⟩) n c3]) ∧ 1 ≤ n ∧ n ≤ 5 ∧ m ≤ 6 ∧ n ≤ c ∧ m ≤ c' ∧ n ≤ c3 ∧ c ≤ maxLen ∧ c' ≤ maxLen ∧ c3 ≤ maxLen ∧ L.length = n ∧ S.length = m ∧ A.length = n ∧
  OwnF w' g n (pr L) ∧ OwnF w' g' m (pr S) ∧ OwnI w' g3 n (it A) ∧ Below w.heap.size w w'

theorem grown_of_below {w w' : World} (b : Below w.heap.size w w') : w.grownBy w' none := ⟨b.os, b.tape, b.output, b.size, fun i hi _ => b.block i hi⟩
theorem OwnI.kept' {w w' : World} {g n : Nat} {f : Nat → Int} {R : Nat} (h : OwnI w g n f) (hg : w.grownBy w' (some R)) (hR : R < g) : OwnI w' g n f := by
  obtain ⟨c, k⟩ := gk hg g h.1 (by omega)
  refine ⟨Nat.lt_of_lt_of_le h.1 hg.size, fun i hi => ?_⟩
  obtain ⟨q1, q2⟩ := h.2 i hi
  exact ⟨(c _).trans q1, (k _).trans q2⟩
theorem made_own (W : World) (n : Nat) : OwnI (W.alloc (.cells (madeCells #[.int .i64 0] n) 3)) W.heap.size n (it (List.replicate n 0)) := by
  refine ⟨by simp, fun i hi => ⟨?_, by simp⟩⟩
  have e : it (List.replicate n (0 : Int)) i = 0 := by unfold it; simp [hi]
  rw [e]
  have h : (madeCells #[Value.int .i64 0] n)[i]? = some (.int .i64 0) := by
    have := toList_madeCells_one (.int .i64 0) n
    rw [← Array.getElem?_toList, this]; simp [hi]
  rw [World.cell?_alloc_at _ _ _ _ rfl]
  exact h

set_option maxHeartbeats 1600000 in
theorem drawFit_any (a : Option Addr) (len cap : Nat) (w : World) (hc : len ≤ cap) (hm : cap ≤ maxLen) (h : IsBytes w a len) : Calls Try.prog 18 #[.slice a len cap] w (DrawFP w) := by
  have h0 := Lib.hid h
  clear h
  go_enter Try.func18, Try.ntmps18
  go_wp2_with fail
  refine (l6Open_any _ _ _ _ hc hm h0.out).mono ?_
  rintro e w1 ⟨rfl, r1, b1, s1⟩
  have HB := Lib.hid b1
  have HS1 := Lib.hid s1
  clear b1 s1
  go_wp2_with fail
  refine (l92Windows_any _ 0 _ r1 (by omega)).mono ?_
  rintro e w2 ⟨g, g', n, m, c, c', L, S, rfl, n1, n5, m6, hnc, hmc, hcm, hcm', hL, hS, O1, O2, hgg, hg, hg', r2, g2⟩
  have HL := Lib.hid hL
  have HS := Lib.hid hS
  replace HB := Lib.hid (HB.out.trans (Below.of_grown g2 (B := w.heap.size) (by have := HS1.out; omega) (Nat.le_refl _)))
  have s2 := HS1.out
  have hgw : w.heap.size < g := by omega
  have hgw' : w.heap.size < g' := by omega
  have OL := Lib.hid O1
  have OS := Lib.hid O2
  clear hL hS O1 O2 g2 r1 HS1 s2
  have x3 : c ≤ 9223372036854775807 := hcm
  have x4 : c' ≤ 9223372036854775807 := hcm'
  go_wp2_with fail
  refine (specYoung_any _ _ _ _ _ _ L S _ hnc hcm hmc hcm' (OL.out.prs HL.out (fun _ _ => rfl)) (OS.out.prs HS.out (fun _ _ => rfl))).mono ?_
  rintro e w3 ⟨a3, n3, c3, rfl, R3, hc3, hm3, b3, y3⟩
  have x5 : c3 ≤ 9223372036854775807 := hm3
  have hl2 := OL.out.1
  have hl2' := OS.out.1
  have z23 := b3.size
  replace OL := Lib.hid (OL.out.below b3)
  replace OS := Lib.hid (OS.out.below b3)
  have s3 := HB.out.size
  replace HB := Lib.hid (Below.step0 HB.out b3)
  have r3 := r2.kept (grown_of_below b3) (by simp)
  clear r2
  by_cases hk : tkB L S = true
  rotate_left
  · have hk' : tkB L S = false := by simpa using hk
    rw [hk']
    have hmk : ∀ W : World, (Instr.makeSlice 23 (.int .i64 (n : Int)) (.int .i64 (n : Int))).run Try.prog W = .ok (.slice (some ⟨W.heap.size, 0, none⟩) n n) (W.alloc (.cells (madeCells #[.int .i64 0] n) 3)) := fun W => run_make_row' 23 3 (.int .i64 0) 8 Try.underlying23 infoInt rfl .i64 .i64 n (by omega) (by omega) W
    have Z := Lib.hid (show DrawFP w (.returned (.tuple #[.slice (some ⟨g, 0, none⟩) n c, .slice (some ⟨g', 0, none⟩) m c', .slice (some ⟨w3.heap.size, 0, none⟩) n n])) ((w3.alloc (.cells (madeCells #[.int .i64 0] n) 3)).drew) from
      ⟨g, g', w3.heap.size, n, m, c, c', n, L, S, List.replicate n 0, rfl, n1, n5, m6, hnc, hmc, Nat.le_refl _, hcm, hcm', by unfold maxLen; omega, HL.out, HS.out, by simp, OL.out.alloc _, OS.out.alloc _, made_own w3 n, (HB.out.alloc HB.out.size _).drew⟩)
    clear R3 y3 b3 hk hk' r3 s3 hgw hgw' hg hg' hgg
    go_wp2_with fail
    go_region
    all_goals
      go_wp2_with fail
      go_ret3
      exact Z.out
  obtain ⟨gy, rfl, hn3, hgy, oy⟩ := y3 hk
  rw [yRes_yes hk] at R3 oy
  rw [HL.out] at oy
  obtain rfl : n = n3 := (hn3.trans HL.out).symm
  have OY := Lib.hid oy
  have BDY := Lib.hid (fun i (hi : i < n) => show 0 ≤ it (yg L S) i ∧ it (yg L S) i ≤ 1200000 by
    rw [yg_it L S i (by rw [HL.out]; exact hi)]
    have := tw_bd (tk_true hk).1 i (by rw [HL.out]; exact hi)
    omega)
  have hgyw : w.heap.size < gy := by omega
  have hgs : gy ≠ g := by omega
  have hgs' : gy ≠ g' := by omega
  have HK := Lib.hid hk
  rw [hk]
  clear y3 oy R3 b3 hn3 hk
  go_wp2_with fail
  refine (specOld_any _ _ _ _ _ _ L S _ hnc hcm hmc hcm' (OL.out.prs HL.out (fun _ _ => rfl)) (OS.out.prs HS.out (fun _ _ => rfl))).mono ?_
  rintro e w4 ⟨a4, n4, c4, rfl, R4, hc4, hm4, b4, y4⟩
  have x6 : c4 ≤ 9223372036854775807 := hm4
  obtain ⟨go, rfl, hn4, hgo, oo⟩ := y4 HK.out
  rw [oRes_yes HK.out] at R4 oo
  rw [HL.out] at oo
  obtain rfl : n = n4 := (hn4.trans HL.out).symm
  have OO := Lib.hid oo
  have hgow : w.heap.size < go := by omega
  replace OL := Lib.hid (OL.out.below b4)
  replace OS := Lib.hid (OS.out.below b4)
  replace OY := Lib.hid (OY.out.below b4)
  replace HB := Lib.hid (Below.step0 HB.out b4)
  have r4 := r3.kept (grown_of_below b4) (by simp)
  rw [HK.out]
  clear y4 oo R4 b4 hn4 r3
  go_wp2_with fail
  refine (pick_any _ _ _ _ r4 (by omega) (by omega)).mono ?_
  rintro e w5 ⟨m5, m50, m51, rfl, r5, g5, s5⟩
  replace OL := Lib.hid (OL.out.kept' g5 hgw)
  replace OS := Lib.hid (OS.out.kept' g5 hgw')
  replace OY := Lib.hid (OY.out.kept' g5 hgyw)
  replace OO := Lib.hid (OO.out.kept' g5 hgow)
  replace HB := Lib.hid (HB.out.trans (Below.of_grown g5 (B := w.heap.size) HB.out.size (Nat.le_refl _)))
  clear g5 s5 r4
  by_cases e0 : m5 = 0
  · subst e0
    go_wp2_with fail
    refine (pick_any _ _ _ _ r5 (by omega) (by omega)).mono ?_
    rintro e w6 ⟨m6', m60, m61, rfl, r6, g6, s6⟩
    obtain ⟨k, rfl⟩ := Int.eq_ofNat_of_zero_le m60
    have hkn : k < n := by omega
    replace OL := Lib.hid (OL.out.kept' g6 hgw)
    replace OS := Lib.hid (OS.out.kept' g6 hgw')
    replace OY := Lib.hid (OY.out.kept' g6 hgyw)
    replace HB := Lib.hid (HB.out.trans (Below.of_grown g6 (B := w.heap.size) HB.out.size (Nat.le_refl _)))
    clear g6 s6 r5
    obtain ⟨q1, q2⟩ := OY.out.2 k hkn
    have BX := BDY.out k hkn
    have LY := Lib.hid (show (yg L S).length = n by rw [yg_len]; exact HL.out)
    generalize hx : it (yg L S) k = x at *
    have i1 : (0 : Int) ≤ (k : Int) := by omega
    have i2 : (k : Int) < (n : Int) := by omega
    clear hx
    go_wp2_with fail
    refine wp_region_last (fun w' => w'.cell? ⟨gy, k, none⟩ = some (.int .i64 x)) 10 (by decide) (by kernel_rfl) (by kernel_rfl) (by kernel_rfl) (by kernel_rfl) q1 (fun hHeld => ?_)
    simp only [List.take_succ_cons, List.take_zero, List.getElem_cons_succ, List.getElem_cons_zero]
    refine wpAnyH_take (i := 0) (v := ?va0) rfl (by kernel_rfl) (by kernel_rfl) (by kernel_rfl) (fun _ _ _ h => h) (Or.inl ⟨by rfl, ?ya0⟩) (by assumption) ?ra0
    case ya0 => intro w hSw; (try dsimp only at hSw); go_simp; try with_reducible rfl
    try simp only [Act.put, List.setIfInBounds_toArray, List.set_cons_zero, List.set_cons_succ]
    refine wpAnyH_take (i := 1) (v := ?va1) rfl (by kernel_rfl) (by kernel_rfl) (by kernel_rfl) (fun _ _ _ h => h) (Or.inl ⟨by rfl, ?ya1⟩) (by assumption) ?ra1
    case ya1 => intro w hSw; (try dsimp only at hSw); go_simp; try with_reducible rfl
    try simp only [Act.put, List.setIfInBounds_toArray, List.set_cons_zero, List.set_cons_succ]
    refine wpAnyH_take (i := 2) (v := ?va2) rfl (by kernel_rfl) (by kernel_rfl) (by kernel_rfl) (fun _ _ _ h => h) (Or.inl ⟨by rfl, ?ya2⟩) (by assumption) ?ra2
    case ya2 => intro w hSw; (try dsimp only at hSw); go_simp; try with_reducible rfl
    try simp only [Act.put, List.setIfInBounds_toArray, List.set_cons_zero, List.set_cons_succ]
    refine wpAnyH_take (i := 3) (v := ?va3) rfl (by kernel_rfl) (by kernel_rfl) (by kernel_rfl) (fun _ _ _ h => h) (Or.inl ⟨by rfl, ?ya3⟩) (by assumption) ?ra3
    case ya3 => intro w hSw; (try dsimp only at hSw); go_simp; try with_reducible rfl
    try simp only [Act.put, List.setIfInBounds_toArray, List.set_cons_zero, List.set_cons_succ]
    refine wpAnyH_take (i := 4) (v := ?va4) rfl (by kernel_rfl) (by kernel_rfl) (by kernel_rfl) (fun _ _ _ h => h) (Or.inl ⟨by rfl, ?ya4⟩) (by assumption) ?ra4
    case ya4 => intro w hSw; (try dsimp only at hSw); go_simp; try with_reducible rfl
    try simp only [Act.put, List.setIfInBounds_toArray, List.set_cons_zero, List.set_cons_succ]
    refine wpAnyH_take (i := 5) (v := ?va5) rfl (by kernel_rfl) (by kernel_rfl) (by kernel_rfl) (fun _ _ _ h => h) (Or.inl ⟨by rfl, ?ya5⟩) (by assumption) ?ra5
    case ya5 => intro w hSw; (try dsimp only at hSw); go_simp; try with_reducible rfl
    try simp only [Act.put, List.setIfInBounds_toArray, List.set_cons_zero, List.set_cons_succ]
    refine wpAnyH_take (i := 6) (v := ?va6) rfl (by kernel_rfl) (by kernel_rfl) (by kernel_rfl) (fun _ _ _ h => h) (Or.inl ⟨by rfl, ?ya6⟩) (by assumption) ?ra6
    case ya6 => intro w hSw; (try dsimp only at hSw); go_simp; try with_reducible rfl
    try simp only [Act.put, List.setIfInBounds_toArray, List.set_cons_zero, List.set_cons_succ]
    refine wpAnyH_ready (rs := [7]) (by kernel_rfl) (by simp) ?_
    refine AllReadyH.cons (i := 7) rfl (fun K hK => ?_) AllReadyH.nil
    go_simp
    refine (pick_any _ _ _ _ (Rd.drew r6) (by omega) (by omega)).mono ?_
    rintro e w7 ⟨m7, m70, m71, rfl, r7, g7, s7⟩
    have O7 := OY.out.drew.kept' g7 hgyw
    have B7 := Lib.hid (HB.out.drew.trans (Below.of_grown g7 (B := w.heap.size) HB.out.size (Nat.le_refl _)))
    have L7 := Lib.hid ((show OwnF w6.drew g n (pr L) from OL.out).kept' g7 hgw)
    have S7 := Lib.hid ((show OwnF w6.drew g' m (pr S) from OS.out).kept' g7 hgw')
    have q1' : w7.cell? ⟨gy, k, none⟩ = some (.int .i64 x) := ((gk g7 gy OY.out.1 (by omega)).1 k).trans q1
    have q2' := (O7.2 k hkn).2
    have HO7 := Lib.hid (O7.put LY.out k hkn (x + m7))
    refine hK.out _ _ q1' (fun hHeld2 => ?_)
    have a1 : IntKind.i64.wrap (x + m7) = x + m7 := IntWalk.i64_in _ (by omega)
    clear hK K hHeld
    refine wpAnyH_take (i := 8) (v := ?va8) rfl (by kernel_rfl) (by kernel_rfl) (by kernel_rfl) (fun _ _ _ h => h) (Or.inl ⟨by rfl, ?ya8⟩) (by assumption) ?ra8
    case ya8 => intro w hSw; (try dsimp only at hSw); go_simp; try with_reducible rfl
    try simp only [Act.put, List.setIfInBounds_toArray, List.set_cons_zero, List.set_cons_succ]
    refine wpAnyH_take (i := 9) (v := ?va9) rfl (by kernel_rfl) (by kernel_rfl) (by kernel_rfl) (fun _ _ _ h => h) (Or.inl ⟨by rfl, ?ya9⟩) (by assumption) ?ra9
    case ya9 => intro w hSw; (try dsimp only at hSw); go_simp; try with_reducible rfl
    try simp only [Act.put, List.setIfInBounds_toArray, List.set_cons_zero, List.set_cons_succ]
    clear a1 hHeld2 g7 s7 O7 OL OS OY HB BDY
    have hgl7 : gy < w7.heap.size := World.block_lt_of_cell? _ _ q1'
    refine wpAnyH_done (by kernel_rfl) ?_ _
    dsimp only [LastQ]
    go_wp2_with fail
    go_ret3
    exact ⟨g, g', gy, n, m, c, c', c3, L, S, _, rfl, n1, n5, m6, hnc, hmc, hc3, hcm, hcm', hm3, HL.out, HS.out, by rw [List.length_set]; exact LY.out, L7.out.far hgs _, S7.out.far hgs' _, HO7.out, B7.out.setCell (Nat.le_of_lt hgyw) _⟩
  · have d0 : (m5 == 0) = false := by simpa using e0
    by_cases e1 : m5 = 1
    · subst e1
      go_wp2_with fail
      go_ret3
      exact ⟨g, g', go, n, m, c, c', c4, L, S, od L S, rfl, n1, n5, m6, hnc, hmc, hc4, hcm, hcm', hm4, HL.out, HS.out, by rw [od_len]; exact HL.out, OL.out, OS.out, OO.out, HB.out⟩
    · have d1 : (m5 == 1) = false := by simpa using e1
      go_wp2_with fail
      go_ret3
      exact ⟨g, g', gy, n, m, c, c', c3, L, S, yg L S, rfl, n1, n5, m6, hnc, hmc, hc3, hcm, hcm', hm3, HL.out, HS.out, by rw [yg_len]; exact HL.out, OL.out, OS.out, OY.out, HB.out⟩
end Go.Proofs.Ytgendnkemdcjeaa
