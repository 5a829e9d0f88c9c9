/- spec.l22Both and spec.WindowsTight. -/
import Derived.Test.YteflaibcldknmaaWinV
import Derived.Test.YteflaibcldknmaaTightB
import Derived.Test.YteflaibcldknmaaDrawN
import Derived.Deep.RegionHeld3
import Derived.Test.YteflaibcldknmaaLast
namespace Go.Proofs.Yteflaibcldknmaa
open Go.RowKit
set_option linter.unusedVariables false
set_option linter.unusedSimpArgs false

theorem l22Both_any (a b lo hi : Int) (w : World) :
    Calls Try.prog 36 #[.agg #[.int .i64 a, .int .i64 b], .int .i64 lo, .int .i64 hi] w fun e w' => e = .returned (.agg #[.int .i64 (max a lo), .int .i64 (min b hi)]) ∧ Below w.heap.size w w' := by
  have hb : ∀ x y : Value, Below w.heap.size w ((w.alloc (.cells #[.int .i64 a, .int .i64 b] 35)).alloc (.cells #[x, y] 35)) :=
    fun x y => ((Below.refl _ _).alloc (Nat.le_refl _) _).alloc (by simp) _
  by_cases h1 : a < lo
  · by_cases h2 : hi < b
    · rw [show max a lo = lo by omega, show min b hi = hi by omega]
      go_enter Try.func36, Try.ntmps36
      go_wp2_with fail
      exact bodyPost_ret (v := .agg #[.int .i64 lo, .int .i64 hi]) (by simp [results, Try.results36, go_sem]) rfl ⟨rfl, hb _ _⟩
    · rw [show max a lo = lo by omega, show min b hi = b by omega]
      go_enter Try.func36, Try.ntmps36
      go_wp2_with fail
      exact bodyPost_ret (v := .agg #[.int .i64 lo, .int .i64 b]) (by simp [results, Try.results36, go_sem]) rfl ⟨rfl, hb _ _⟩
  · by_cases h2 : hi < b
    · rw [show max a lo = a by omega, show min b hi = hi by omega]
      go_enter Try.func36, Try.ntmps36
      go_wp2_with fail
      exact bodyPost_ret (v := .agg #[.int .i64 a, .int .i64 hi]) (by simp [results, Try.results36, go_sem]) rfl ⟨rfl, hb _ _⟩
    · rw [show max a lo = a by omega, show min b hi = b by omega]
      go_enter Try.func36, Try.ntmps36
      go_wp2_with fail
      exact bodyPost_ret (v := .agg #[.int .i64 a, .int .i64 b]) (by simp [results, Try.results36, go_sem]) rfl ⟨rfl, hb _ _⟩

theorem cell_alloc_of {w : World} {p : Addr} {u : Value} {o : Obj} (h : w.cell? p = some u) : (w.alloc o).cell? p = some u :=
  (((Below.refl w.heap.size w).alloc (Nat.le_refl _) o).cell (World.block_lt_of_cell? w _ h)).trans h

set_option maxRecDepth 100000 in
set_option maxHeartbeats 3200000 in
theorem specTight_any (a a' : Option Addr) (len cap len' cap' : Nat) (L S : List (Int × Int)) (w : World) (hlc : len ≤ cap) (hm : cap ≤ maxLen) (hlc' : len' ≤ cap') (hm' : cap' ≤ maxLen) (h : Prs w a len L) (h' : Prs w a' len' S) :
    Calls Try.prog 25 #[.slice a len cap, .slice a' len' cap'] w (TightPost w L S) := by
  have hm1 : cap ≤ 9223372036854775807 := hm
  have hm2 : cap' ≤ 9223372036854775807 := hm'
  have H := Lib.hid h
  have H' := Lib.hid h'
  clear h h'
  obtain ⟨i0, hi, hz0, hz1, hz2⟩ := info_parts infoWindow
  by_cases hw : wdB L S = true
  · obtain ⟨w1, w12, wls, wL, wS⟩ := wd_true hw
    have hW := Lib.hid hw
    obtain ⟨ad, rfl, hn⟩ : ∃ ad, a = some ad ∧ ∀ j u, (fl L)[j]? = some u → w.cell? (ad.add j) = some u := by
      obtain ⟨q1, q2⟩ := H.out
      rcases q2 with q2 | ⟨b, off, rfl, _, hc⟩
      · omega
      · exact ⟨_, rfl, prs_news hc⟩
    obtain ⟨b', off', ha', hb', hS⟩ : ∃ b' off', (len' = 0 ∨ a' = some ⟨b', off', none⟩) ∧ (len' = 0 ∨ b' < w.heap.size) ∧ (len' = 0 ∨ PrsAt w b' off' S) := by
      rcases H'.out.2 with q | ⟨b, off, q1, q2, q3⟩
      · exact ⟨0, 0, .inl q, .inl q, .inl q⟩
      · exact ⟨b, off, .inr q1, .inr q2, .inr q3⟩
    have hl := H.out.1
    have hl' := H'.out.1
    have HN := Lib.hid hn
    have HS := Lib.hid (And.intro ha' (And.intro hb' hS))
    have HL := Lib.hid hl
    have HL' := Lib.hid hl'
    have wls' : len' + 1 ≤ len := by omega
    have wls2 : len ≤ len' + 1 := by omega
    have l1 : 1 ≤ len := by omega
    have l12 : len ≤ 12 := by omega
    have WLS := Lib.hid (And.intro wL wS)
    clear hn ha' hb' hS hl hl' wls w1 w12 wL wS hw
    go_enter Try.func25, Try.ntmps25
    go_wp2_with fail
    refine (specValid_any _ _ _ _ _ _ L S _ hlc hm hlc' hm' H.out H'.out).mono ?_
    rintro e w1 ⟨rfl, m1, rfl⟩
    rw [wv_wd, hW.out]
    have o0 := World.ownsRow_lit (base := w.heap.size) (e := 35) (size := 2) (w.drewN m1) #[] 0 (by rw [size_drewN]; exact Nat.le_refl _) (by unfold maxLen; omega) (by simp)
    go_wp2_with (at_builtin; refine wpList_append_own _ rfl _ _ 25 rfl w.heap.size 35 i0 (.agg #[.int .i64 0, .int .i64 0]) 2 16 Try.underlying25 hi hz0 hz1 hz2 rfl (by decide) _ _ _ rfl o0 ad _ _ (fl L) rfl (by rw [fl_len, HL.out]) ?c1 (fl_one _) (by unfold maxLen; omega) (by omega) (by simp [size_drewN]) ?_)
    case c1 => intro j u hj; exact cell_alloc_of (by rw [cell_drewN]; exact HN.out j u hj)
    intro v1 w1 o1 g1 _
    have b1 := ((below_drewN (Below.refl w.heap.size w) m1).alloc (by rw [size_drewN]; exact Nat.le_refl _) (.cells #[] 35)).grown g1 (by simp [size_drewN]) (fun j hj => (o0.lt j hj).1)
    have o2 : w1.ownsRow w.heap.size 35 2 v1 len (fl L) := by simpa using o1
    obtain ⟨g, c, rfl, hc, hcm, O, hg⟩ := own_val o2 HL.out (row_some o2 l1)
    have hcm' : c ≤ 9223372036854775807 := hcm
    have HO := Lib.hid O
    have HB := Lib.hid b1
    clear o0 o1 o2 g1 b1 O
    go_wp2_with fail
    go_loopw [7] (fun i wr => ∃ p : Nat, i = .int .i64 (p + 1) ∧ p + 1 ≤ len ∧ OwnF wr g len (fun j => if j < p + 1 then fw L S j else pr L j) ∧ Below w.heap.size w wr) (fun i _ => len - (intOf i).toNat)
    case atStart => exact ⟨0, rfl, l1, HO.out.congr (fun i hi => by
      by_cases e : i < 0 + 1
      · rw [if_pos e]; obtain rfl : i = 0 := by omega
        rfl
      · rw [if_neg e]), HB.out⟩
    case round =>
      obtain ⟨p, rfl, hp, O, B⟩ := hrel
      by_cases hlt : p + 1 < len
      · have hlt' : (p : Int) + 1 < (len : Int) := by omega
        rcases HS.out.1 with q | rfl
        · omega
        rcases HS.out.2.1 with q | hb'
        · omega
        rcases HS.out.2.2 with q | hcS
        · omega
        obtain ⟨c0, c1⟩ := hcS p (by rw [HL'.out]; omega)
        have e0 := (B.cell (p := ⟨b', off' + p * 2, none⟩) hb').trans c0
        have e1 := (B.cell (p := ⟨b', off' + p * 2 + 1, none⟩) hb').trans c1
        obtain ⟨q1, q2, q3, q4⟩ := O.2 p (by omega)
        obtain ⟨r1, r2, r3, r4⟩ := O.2 (p + 1) (by omega)
        dsimp only at q1 q2 r1 r2
        rw [if_pos (by omega)] at q1 q2
        rw [if_neg (by omega)] at r1 r2
        have F := fw_bd hW.out p (by rw [HL.out]; omega)
        have G := rg_bd (WLS.out.2 p (by rw [HL'.out]; omega))
        have E := Lib.hid (show fw L S (p + 1) = (max (pr L (p + 1)).1 ((fw L S p).1 + (pr S p).1), min (pr L (p + 1)).2 ((fw L S p).2 + (pr S p).2)) from rfl)
        generalize (fw L S p).1 = x1 at *
        generalize (fw L S p).2 = x2 at *
        generalize (pr S p).1 = y1 at *
        generalize (pr S p).2 = y2 at *
        generalize (pr L (p + 1)).1 = z1 at *
        generalize (pr L (p + 1)).2 = z2 at *
        have bd : x1 ≤ 10000000 := by omega
        have a1 : IntKind.i64.wrap (x1 + y1) = x1 + y1 := IntWalk.i64_in _ (by omega)
        have a2 : IntKind.i64.wrap (x2 + y2) = x2 + y2 := IntWalk.i64_in _ (by omega)
        have a3 : IntKind.i64.wrap ((p : Int) + 1 - 1) = p := by rw [IntWalk.i64_in _ (by omega)]; omega
        have a9 : IntKind.i64.wrap (p : Int) = p := IntWalk.i64_in _ (by omega)
        have a4 : ((p : Int) + 1).toNat = p + 1 := by omega
        have a5 : (0 : Int) ≤ (p : Int) + 1 := by omega
        have a6 : (0 : Int) ≤ (p : Int) := by omega
        have a7 : (p : Int) < len := by omega
        have a8 : (p : Int) < len' := by omega
        have HO2 := Lib.hid O
        have HB2 := Lib.hid B
        have hgl := O.1
        clear O B F G c0 c1 hcS
        go_wp2_with fail
        refine wp_region_last (fun w' => w'.cell? ⟨g, (p + 1) * 2, none⟩ = some (.int .i64 z1) ∧ w'.cell? ⟨g, (p + 1) * 2 + 1, none⟩ = some (.int .i64 z2) ∧ w'.cell? ⟨g, p * 2, none⟩ = some (.int .i64 x1) ∧ w'.cell? ⟨g, p * 2 + 1, none⟩ = some (.int .i64 x2) ∧ w'.cell? ⟨b', off' + p * 2, none⟩ = some (.int .i64 y1) ∧ w'.cell? ⟨b', off' + p * 2 + 1, none⟩ = some (.int .i64 y2) ∧ Below wr.heap.size wr w') 34 (by decide) (by kernel_rfl) (by kernel_rfl) (by kernel_rfl) (by kernel_rfl) ⟨r1, r2, q1, q2, e0, e1, (Below.refl _ _).drew⟩ (fun hHeld => ?_)
        simp only [List.take_succ_cons, List.take_zero, List.getElem_cons_succ, List.getElem_cons_zero]
        refine wpAnyH_take (i := 0) (v := ?va0) rfl (by kernel_rfl) (by kernel_rfl) (by kernel_rfl) (fun _ _ _ h => h) (Or.inl ⟨by rfl, ?ya0⟩) (by assumption) ?ra0
        case ya0 => intro w hSw; (try dsimp only at hSw); go_simp; try with_reducible rfl
        try simp only [Act.put, List.setIfInBounds_toArray, List.set_cons_zero, List.set_cons_succ]
        refine wpAnyH_take (i := 1) (v := ?va1) rfl (by kernel_rfl) (by kernel_rfl) (by kernel_rfl) (fun _ _ _ h => h) (Or.inl ⟨by rfl, ?ya1⟩) (by assumption) ?ra1
        case ya1 => intro w hSw; (try dsimp only at hSw); go_simp; try with_reducible rfl
        try simp only [Act.put, List.setIfInBounds_toArray, List.set_cons_zero, List.set_cons_succ]
        refine wpAnyH_take (i := 2) (v := ?va2) rfl (by kernel_rfl) (by kernel_rfl) (by kernel_rfl) (fun _ _ _ h => h) (Or.inl ⟨by rfl, ?ya2⟩) (by assumption) ?ra2
        case ya2 => intro w hSw; (try dsimp only at hSw); go_simp; try with_reducible rfl
        try simp only [Act.put, List.setIfInBounds_toArray, List.set_cons_zero, List.set_cons_succ]
        refine wpAnyH_take (i := 3) (v := ?va3) rfl (by kernel_rfl) (by kernel_rfl) (by kernel_rfl) (fun _ _ _ h => h) (Or.inl ⟨by rfl, ?ya3⟩) (by assumption) ?ra3
        case ya3 => intro w hSw; (try dsimp only at hSw); go_simp; try with_reducible rfl
        try simp only [Act.put, List.setIfInBounds_toArray, List.set_cons_zero, List.set_cons_succ]
        refine wpAnyH_take (i := 4) (v := ?va4) rfl (by kernel_rfl) (by kernel_rfl) (by kernel_rfl) (fun _ _ _ h => h) (Or.inl ⟨by rfl, ?ya4⟩) (by assumption) ?ra4
        case ya4 => intro w hSw; (try dsimp only at hSw); go_simp; try with_reducible rfl
        try simp only [Act.put, List.setIfInBounds_toArray, List.set_cons_zero, List.set_cons_succ]
        refine wpAnyH_take (i := 5) (v := ?va5) rfl (by kernel_rfl) (by kernel_rfl) (by kernel_rfl) (fun _ _ _ h => h) (Or.inl ⟨by rfl, ?ya5⟩) (by assumption) ?ra5
        case ya5 => intro w hSw; (try dsimp only at hSw); go_simp; try with_reducible rfl
        try simp only [Act.put, List.setIfInBounds_toArray, List.set_cons_zero, List.set_cons_succ]
        refine wpAnyH_take (i := 6) (v := ?va6) rfl (by kernel_rfl) (by kernel_rfl) (by kernel_rfl) (fun _ _ _ h => h) (Or.inl ⟨by rfl, ?ya6⟩) (by assumption) ?ra6
        case ya6 => intro w hSw; (try dsimp only at hSw); go_simp; try with_reducible rfl
        try simp only [Act.put, List.setIfInBounds_toArray, List.set_cons_zero, List.set_cons_succ]
        refine wpAnyH_take (i := 7) (v := ?va7) rfl (by kernel_rfl) (by kernel_rfl) (by kernel_rfl) (fun _ _ _ h => h) (Or.inl ⟨by rfl, ?ya7⟩) (by assumption) ?ra7
        case ya7 => intro w hSw; (try dsimp only at hSw); go_simp; try with_reducible rfl
        try simp only [Act.put, List.setIfInBounds_toArray, List.set_cons_zero, List.set_cons_succ]
        refine wpAnyH_take (i := 8) (v := ?va8) rfl (by kernel_rfl) (by kernel_rfl) (by kernel_rfl) (fun _ _ _ h => h) (Or.inl ⟨by rfl, ?ya8⟩) (by assumption) ?ra8
        case ya8 => intro w hSw; (try dsimp only at hSw); go_simp; try with_reducible rfl
        try simp only [Act.put, List.setIfInBounds_toArray, List.set_cons_zero, List.set_cons_succ]
        refine wpAnyH_take (i := 9) (v := ?va9) rfl (by kernel_rfl) (by kernel_rfl) (by kernel_rfl) (fun _ _ _ h => h) (Or.inl ⟨by rfl, ?ya9⟩) (by assumption) ?ra9
        case ya9 => intro w hSw; (try dsimp only at hSw); go_simp; try with_reducible rfl
        try simp only [Act.put, List.setIfInBounds_toArray, List.set_cons_zero, List.set_cons_succ]
        refine wpAnyH_take (i := 10) (v := ?va10) rfl (by kernel_rfl) (by kernel_rfl) (by kernel_rfl) (fun _ _ _ h => h) (Or.inl ⟨by rfl, ?ya10⟩) (by assumption) ?ra10
        case ya10 => intro w hSw; (try dsimp only at hSw); go_simp; try with_reducible rfl
        try simp only [Act.put, List.setIfInBounds_toArray, List.set_cons_zero, List.set_cons_succ]
        refine wpAnyH_take (i := 11) (v := ?va11) rfl (by kernel_rfl) (by kernel_rfl) (by kernel_rfl) (fun _ _ _ h => h) (Or.inl ⟨by rfl, ?ya11⟩) (by assumption) ?ra11
        case ya11 => intro w hSw; (try dsimp only at hSw); go_simp; try with_reducible rfl
        try simp only [Act.put, List.setIfInBounds_toArray, List.set_cons_zero, List.set_cons_succ]
        refine wpAnyH_take (i := 12) (v := ?va12) rfl (by kernel_rfl) (by kernel_rfl) (by kernel_rfl) (fun _ _ _ h => h) (Or.inl ⟨by rfl, ?ya12⟩) (by assumption) ?ra12
        case ya12 => intro w hSw; (try dsimp only at hSw); go_simp; try with_reducible rfl
        try simp only [Act.put, List.setIfInBounds_toArray, List.set_cons_zero, List.set_cons_succ]
        refine wpAnyH_take (i := 13) (v := ?va13) rfl (by kernel_rfl) (by kernel_rfl) (by kernel_rfl) (fun _ _ _ h => h) (Or.inl ⟨by rfl, ?ya13⟩) (by assumption) ?ra13
        case ya13 => intro w hSw; (try dsimp only at hSw); go_simp; try with_reducible rfl
        try simp only [Act.put, List.setIfInBounds_toArray, List.set_cons_zero, List.set_cons_succ]
        refine wpAnyH_take (i := 14) (v := ?va14) rfl (by kernel_rfl) (by kernel_rfl) (by kernel_rfl) (fun _ _ _ h => h) (Or.inl ⟨by rfl, ?ya14⟩) (by assumption) ?ra14
        case ya14 => intro w hSw; (try dsimp only at hSw); go_simp; try with_reducible rfl
        try simp only [Act.put, List.setIfInBounds_toArray, List.set_cons_zero, List.set_cons_succ]
        refine wpAnyH_take (i := 15) (v := ?va15) rfl (by kernel_rfl) (by kernel_rfl) (by kernel_rfl) (fun _ _ _ h => h) (Or.inl ⟨by rfl, ?ya15⟩) (by assumption) ?ra15
        case ya15 => intro w hSw; (try dsimp only at hSw); go_simp; try with_reducible rfl
        try simp only [Act.put, List.setIfInBounds_toArray, List.set_cons_zero, List.set_cons_succ]
        refine wpAnyH_take (i := 16) (v := ?va16) rfl (by kernel_rfl) (by kernel_rfl) (by kernel_rfl) (fun _ _ _ h => h) (Or.inl ⟨by rfl, ?ya16⟩) (by assumption) ?ra16
        case ya16 => intro w hSw; (try dsimp only at hSw); go_simp; try with_reducible rfl
        try simp only [Act.put, List.setIfInBounds_toArray, List.set_cons_zero, List.set_cons_succ]
        refine wpAnyH_take (i := 17) (v := ?va17) rfl (by kernel_rfl) (by kernel_rfl) (by kernel_rfl) (fun _ _ _ h => h) (Or.inl ⟨by rfl, ?ya17⟩) (by assumption) ?ra17
        case ya17 => intro w hSw; (try dsimp only at hSw); go_simp; try with_reducible rfl
        try simp only [Act.put, List.setIfInBounds_toArray, List.set_cons_zero, List.set_cons_succ]
        refine wpAnyH_take (i := 18) (v := ?va18) rfl (by kernel_rfl) (by kernel_rfl) (by kernel_rfl) (fun _ _ _ h => h) (Or.inl ⟨by rfl, ?ya18⟩) (by assumption) ?ra18
        case ya18 => intro w hSw; (try dsimp only at hSw); go_simp; try with_reducible rfl
        try simp only [Act.put, List.setIfInBounds_toArray, List.set_cons_zero, List.set_cons_succ]
        refine wpAnyH_take (i := 19) (v := ?va19) rfl (by kernel_rfl) (by kernel_rfl) (by kernel_rfl) (fun _ _ _ h => h) (Or.inl ⟨by rfl, ?ya19⟩) (by assumption) ?ra19
        case ya19 => intro w hSw; (try dsimp only at hSw); go_simp; try with_reducible rfl
        try simp only [Act.put, List.setIfInBounds_toArray, List.set_cons_zero, List.set_cons_succ]
        refine wpAnyH_take (i := 20) (v := ?va20) rfl (by kernel_rfl) (by kernel_rfl) (by kernel_rfl) (fun _ _ _ h => h) (Or.inl ⟨by rfl, ?ya20⟩) (by assumption) ?ra20
        case ya20 => intro w hSw; (try dsimp only at hSw); go_simp; try with_reducible rfl
        try simp only [Act.put, List.setIfInBounds_toArray, List.set_cons_zero, List.set_cons_succ]
        refine wpAnyH_take (i := 21) (v := ?va21) rfl (by kernel_rfl) (by kernel_rfl) (by kernel_rfl) (fun _ _ _ h => h) (Or.inl ⟨by rfl, ?ya21⟩) (by assumption) ?ra21
        case ya21 => intro w hSw; (try dsimp only at hSw); go_simp; try with_reducible rfl
        try simp only [Act.put, List.setIfInBounds_toArray, List.set_cons_zero, List.set_cons_succ]
        refine wpAnyH_take (i := 22) (v := ?va22) rfl (by kernel_rfl) (by kernel_rfl) (by kernel_rfl) (fun _ _ _ h => h) (Or.inl ⟨by rfl, ?ya22⟩) (by assumption) ?ra22
        case ya22 => intro w hSw; (try dsimp only at hSw); go_simp; try with_reducible rfl
        try simp only [Act.put, List.setIfInBounds_toArray, List.set_cons_zero, List.set_cons_succ]
        refine wpAnyH_take (i := 23) (v := ?va23) rfl (by kernel_rfl) (by kernel_rfl) (by kernel_rfl) (fun _ _ _ h => h) (Or.inl ⟨by rfl, ?ya23⟩) (by assumption) ?ra23
        case ya23 => intro w hSw; (try dsimp only at hSw); go_simp; try with_reducible rfl
        try simp only [Act.put, List.setIfInBounds_toArray, List.set_cons_zero, List.set_cons_succ]
        refine wpAnyH_take (i := 24) (v := ?va24) rfl (by kernel_rfl) (by kernel_rfl) (by kernel_rfl) (fun _ _ _ h => h) (Or.inl ⟨by rfl, ?ya24⟩) (by assumption) ?ra24
        case ya24 => intro w hSw; (try dsimp only at hSw); go_simp; try with_reducible rfl
        try simp only [Act.put, List.setIfInBounds_toArray, List.set_cons_zero, List.set_cons_succ]
        refine wpAnyH_take (i := 25) (v := ?va25) rfl (by kernel_rfl) (by kernel_rfl) (by kernel_rfl) (fun _ _ _ h => h) (Or.inl ⟨by rfl, ?ya25⟩) (by assumption) ?ra25
        case ya25 => intro w hSw; (try dsimp only at hSw); go_simp; try with_reducible rfl
        try simp only [Act.put, List.setIfInBounds_toArray, List.set_cons_zero, List.set_cons_succ]
        refine wpAnyH_take (i := 26) (v := ?va26) rfl (by kernel_rfl) (by kernel_rfl) (by kernel_rfl) (fun _ _ _ h => h) (Or.inl ⟨by rfl, ?ya26⟩) (by assumption) ?ra26
        case ya26 => intro w hSw; (try dsimp only at hSw); go_simp; try with_reducible rfl
        try simp only [Act.put, List.setIfInBounds_toArray, List.set_cons_zero, List.set_cons_succ]
        refine wpAnyH_take (i := 27) (v := ?va27) rfl (by kernel_rfl) (by kernel_rfl) (by kernel_rfl) (fun _ _ _ h => h) (Or.inl ⟨by rfl, ?ya27⟩) (by assumption) ?ra27
        case ya27 => intro w hSw; (try dsimp only at hSw); go_simp; try with_reducible rfl
        try simp only [Act.put, List.setIfInBounds_toArray, List.set_cons_zero, List.set_cons_succ]
        refine wpAnyH_take (i := 28) (v := ?va28) rfl (by kernel_rfl) (by kernel_rfl) (by kernel_rfl) (fun _ _ _ h => h) (Or.inl ⟨by rfl, ?ya28⟩) (by assumption) ?ra28
        case ya28 => intro w hSw; (try dsimp only at hSw); go_simp; try with_reducible rfl
        try simp only [Act.put, List.setIfInBounds_toArray, List.set_cons_zero, List.set_cons_succ]
        refine wpAnyH_take (i := 29) (v := ?va29) rfl (by kernel_rfl) (by kernel_rfl) (by kernel_rfl) (fun _ _ _ h => h) (Or.inl ⟨by rfl, ?ya29⟩) (by assumption) ?ra29
        case ya29 => intro w hSw; (try dsimp only at hSw); go_simp; try with_reducible rfl
        try simp only [Act.put, List.setIfInBounds_toArray, List.set_cons_zero, List.set_cons_succ]
        refine wpAnyH_take (i := 30) (v := ?va30) rfl (by kernel_rfl) (by kernel_rfl) (by kernel_rfl) (fun _ _ _ h => h) (Or.inl ⟨by rfl, ?ya30⟩) (by assumption) ?ra30
        case ya30 => intro w hSw; (try dsimp only at hSw); go_simp; try with_reducible rfl
        try simp only [Act.put, List.setIfInBounds_toArray, List.set_cons_zero, List.set_cons_succ]
        refine wpAnyH_take (i := 31) (v := ?va31) rfl (by kernel_rfl) (by kernel_rfl) (by kernel_rfl) (fun _ _ _ h => h) (Or.inl ⟨by rfl, ?ya31⟩) (by assumption) ?ra31
        case ya31 => intro w hSw; (try dsimp only at hSw); go_simp; try with_reducible rfl
        try simp only [Act.put, List.setIfInBounds_toArray, List.set_cons_zero, List.set_cons_succ]
        refine wpAnyH_ready (rs := [32]) (by kernel_rfl) (by simp) ?_
        refine AllReadyH.cons (i := 32) rfl (fun K hK => ?_) AllReadyH.nil
        go_simp
        refine (l22Both_any _ _ _ _ _).mono ?_
        rintro e w2 ⟨rfl, b2⟩
        refine hK.out _ _ (keep6 r1 r2 q1 q2 e0 e1 (Below.und b2)) (fun hHeld2 => ?_)
        refine wpAnyH_take (i := 33) (v := ?va33) rfl (by kernel_rfl) (by kernel_rfl) (by kernel_rfl) (fun _ _ _ h => h) (Or.inl ⟨by rfl, ?ya33⟩) (by assumption) ?ra33
        case ya33 => intro w hSw; (try dsimp only at hSw); go_simp; try with_reducible rfl
        try simp only [Act.put, List.setIfInBounds_toArray, List.set_cons_zero, List.set_cons_succ]
        clear hK K hHeld hHeld2 a1 a2 a3 a9 e0 e1 r1 r2 r3 r4
        have O3 := HO2.out.below (Below.und b2)
        have B3 := Lib.hid (Below.step0 HB2.out (Below.und b2))
        obtain ⟨q1, q2, q3, q4⟩ := O3.2 (p + 1) (by omega)
        have HO3 := Lib.hid O3
        clear O3 b2 HO2 HB2
        refine wpAnyH_done (by kernel_rfl) ?_ _
        dsimp only [LastQ]
        go_wp2_with fail
        go_roundw
        case rel =>
          refine ⟨p + 1, by go_num, by omega, (HO3.out.set (p + 1) (max z1 (x1 + y1), min z2 (x2 + y2))).congr (fun j hj => ?_), (B3.out.setCell hg _).setCell hg _⟩
          by_cases e : j = p + 1
          · subst e; rw [if_pos rfl, if_pos (by omega), E.out]
          · rw [if_neg e]
            by_cases e2 : j < p + 1
            · rw [if_pos e2, if_pos (by omega)]
            · rw [if_neg e2, if_neg (by omega)]
        case measure => simp [intOf]; omega
      · obtain ⟨n1, rfl⟩ : ∃ n1, len = n1 + 1 := ⟨len - 1, by omega⟩
        obtain rfl : p = n1 := by omega
        have O' := O.congr (f' := fun j => if p ≤ j then tw L S (p + 1) j else fw L S j) (fun j hj => by
          rw [if_pos hj]
          by_cases e : p ≤ j
          · obtain rfl : j = p := by omega
            rw [if_pos e]; exact (tw_last L S (j + 1)).symm
          · rw [if_neg e])
        have HO := Lib.hid O'
        have HB := Lib.hid B
        clear O O' B hlt hp
        have i1 : (0 : Int) ≤ (p : Int) := by omega
        go_wp2_with fail
        go_loopw [8] (fun i wr => ∃ (q : Nat) (x : Int), i = .int .i64 x ∧ x ≤ (q : Int) - 1 ∧ (q : Int) - 1 ≤ x ∧ q ≤ p ∧ OwnF wr g (p + 1) (fun j => if q ≤ j then tw L S (p + 1) j else fw L S j) ∧ Below w.heap.size w wr) (fun i _ => (intOf i + 1).toNat)
        case atStart => exact ⟨p, _, rfl, by omega, by omega, Nat.le_refl _, HO.out, HB.out⟩
        case round =>
          obtain ⟨q, x, rfl, hx1, hx2, hq, O, B⟩ := hrel
          by_cases h0 : q = 0
          · obtain rfl := h0
            obtain rfl : x = -1 := by omega
            have O' := O.congr (f' := tw L S (p + 1)) (fun j hj => by rw [if_pos (by omega)])
            have HO := Lib.hid O'
            have HB := Lib.hid B
            clear O O' B hx1 hx2
            go_wp2_with fail
            go_loopw [9] (fun i wq => ∃ k : Nat, i = .int .i64 k ∧ k ≤ p + 1 ∧ Hid (∀ j, j < k → (tw L S (p + 1) j).1 ≤ (tw L S (p + 1) j).2) ∧ ∃ m, wq = wr.drewN m) (fun i _ => p + 1 - (intOf i).toNat)
            case atStart => exact ⟨0, rfl, Nat.zero_le _, (fun j hj => absurd hj (by omega)), 0, rfl⟩
            case round =>
              obtain ⟨k, rfl, hk, hall, m, rfl⟩ := hrel
              by_cases hlt : k < p + 1
              · obtain ⟨q1, q2, q3, q4⟩ := HO.out.2 k hlt
                have BAD := Lib.hid (fun (h : (tw L S (p + 1) k).2 < (tw L S (p + 1) k).1) => tk_bad (L := L) (S := S) (i := k) (by rw [HL.out]; exact hlt) (by rw [HL.out]; exact h))
                have GOOD := Lib.hid (fun (h : (tw L S (p + 1) k).1 ≤ (tw L S (p + 1) k).2) j (hj : j < k + 1) => show (tw L S (p + 1) j).1 ≤ (tw L S (p + 1) j).2 from if e : j = k then e ▸ h else hall.out j (by omega))
                generalize (tw L S (p + 1) k).1 = x1 at *
                generalize (tw L S (p + 1) k).2 = x2 at *
                have n0 : (0 : Int) ≤ (k : Int) := by omega
                have n1 : (k : Int) < (p : Int) + 1 := by omega
                by_cases hc : x2 < x1
                · have A := Lib.hid (BAD.out hc)
                  have t1 : decide (x2 < x1) = true := by simpa using hc
                  clear BAD GOOD hc
                  go_wp2_with fail
                  go_quiet (fail)
                  go_wp2_with fail
                  go_ret2
                  exact TightPost.no A.out ((below_drewN HB.out _).alloc (by have := HB.out.size; simpa [size_drewN] using this) _)
                · have A := Lib.hid (GOOD.out (by omega))
                  have t1 : decide (x2 < x1) = false := by simpa using hc
                  clear BAD GOOD hc
                  go_wp2_with fail
                  go_quiet (fail)
                  go_wp2_with fail
                  go_roundw
                  case rel => exact ⟨k + 1, by go_num, by omega, A, m + nq, rfl⟩
                  case measure => simp [intOf] <;> omega
              · obtain rfl : k = p + 1 := by omega
                have A := Lib.hid (tk_mk hW.out (show TwOk L S L.length by rw [HL.out]; exact hall.out))
                go_wp2_with fail
                go_ret2
                exact TightPost.yes' HL.out A.out hc hcm hg (HO.out.below (below_drewN (Below.refl _ _) m)) (below_drewN HB.out m)
          · obtain ⟨r, rfl⟩ : ∃ r, q = r + 1 := ⟨q - 1, by omega⟩
            obtain rfl : x = (r : Int) := by omega
            rcases HS.out.1 with q | rfl
            · omega
            rcases HS.out.2.1 with q | hb'
            · omega
            rcases HS.out.2.2 with q | hcS
            · omega
            obtain ⟨c0, c1⟩ := hcS r (by rw [HL'.out]; omega)
            have e0 := (B.cell (p := ⟨b', off' + r * 2, none⟩) hb').trans c0
            have e1 := (B.cell (p := ⟨b', off' + r * 2 + 1, none⟩) hb').trans c1
            obtain ⟨q1, q2, q3, q4⟩ := O.2 (r + 1) (by omega)
            obtain ⟨r1, r2, r3, r4⟩ := O.2 r (by omega)
            dsimp only at q1 q2 r1 r2
            rw [if_pos (by omega)] at q1 q2
            rw [if_neg (by omega)] at r1 r2
            have F := fw_bd hW.out r (by rw [HL.out]; omega)
            have F2 := tw_bd hW.out (r + 1) (by rw [HL.out]; omega)
            have G := rg_bd (WLS.out.2 r (by rw [HL'.out]; omega))
            rw [HL.out] at F2
            have E := Lib.hid (show tw L S (p + 1) r = (max (fw L S r).1 ((tw L S (p + 1) (r + 1)).1 - (pr S r).2), min (fw L S r).2 ((tw L S (p + 1) (r + 1)).2 - (pr S r).1)) from tw_step L S (p + 1) r (by omega))
            generalize (tw L S (p + 1) (r + 1)).1 = x1 at *
            generalize (tw L S (p + 1) (r + 1)).2 = x2 at *
            generalize (pr S r).1 = y1 at *
            generalize (pr S r).2 = y2 at *
            generalize (fw L S r).1 = z1 at *
            generalize (fw L S r).2 = z2 at *
            have a1 : IntKind.i64.wrap (x1 - y2) = x1 - y2 := IntWalk.i64_in _ (by omega)
            have a2 : IntKind.i64.wrap (x2 - y1) = x2 - y1 := IntWalk.i64_in _ (by omega)
            have a3 : IntKind.i64.wrap ((r : Int) + 1) = (r : Int) + 1 := IntWalk.i64_in _ (by omega)
            have a4 : ((r : Int) + 1).toNat = r + 1 := by omega
            have a5 : (0 : Int) ≤ (r : Int) + 1 := by omega
            have a6 : (0 : Int) ≤ (r : Int) := by omega
            have a7 : (r : Int) < (p : Int) + 1 := by omega
            have a10 : (r : Int) + 1 < (p : Int) + 1 := by omega
            have a8 : (r : Int) < len' := by omega
            have HO2 := Lib.hid O
            have HB2 := Lib.hid B
            have hgl := O.1
            clear O B F F2 G c0 c1 hcS hx1 hx2 h0
            go_wp2_with fail
            refine wp_region_last (fun w' => w'.cell? ⟨g, r * 2, none⟩ = some (.int .i64 z1) ∧ w'.cell? ⟨g, r * 2 + 1, none⟩ = some (.int .i64 z2) ∧ w'.cell? ⟨g, (r + 1) * 2, none⟩ = some (.int .i64 x1) ∧ w'.cell? ⟨g, (r + 1) * 2 + 1, none⟩ = some (.int .i64 x2) ∧ w'.cell? ⟨b', off' + r * 2, none⟩ = some (.int .i64 y1) ∧ w'.cell? ⟨b', off' + r * 2 + 1, none⟩ = some (.int .i64 y2) ∧ Below wr.heap.size wr w') 32 (by decide) (by kernel_rfl) (by kernel_rfl) (by kernel_rfl) (by kernel_rfl) ⟨r1, r2, q1, q2, e0, e1, (Below.refl _ _).drew⟩ (fun hHeld => ?_)
            simp only [List.take_succ_cons, List.take_zero, List.getElem_cons_succ, List.getElem_cons_zero]
            refine wpAnyH_take (i := 0) (v := ?vb0) rfl (by kernel_rfl) (by kernel_rfl) (by kernel_rfl) (fun _ _ _ h => h) (Or.inl ⟨by rfl, ?yb0⟩) (by assumption) ?rb0
            case yb0 => intro w hSw; (try dsimp only at hSw); go_simp; try with_reducible rfl
            try simp only [Act.put, List.setIfInBounds_toArray, List.set_cons_zero, List.set_cons_succ]
            refine wpAnyH_take (i := 1) (v := ?vb1) rfl (by kernel_rfl) (by kernel_rfl) (by kernel_rfl) (fun _ _ _ h => h) (Or.inl ⟨by rfl, ?yb1⟩) (by assumption) ?rb1
            case yb1 => intro w hSw; (try dsimp only at hSw); go_simp; try with_reducible rfl
            try simp only [Act.put, List.setIfInBounds_toArray, List.set_cons_zero, List.set_cons_succ]
            refine wpAnyH_take (i := 2) (v := ?vb2) rfl (by kernel_rfl) (by kernel_rfl) (by kernel_rfl) (fun _ _ _ h => h) (Or.inl ⟨by rfl, ?yb2⟩) (by assumption) ?rb2
            case yb2 => intro w hSw; (try dsimp only at hSw); go_simp; try with_reducible rfl
            try simp only [Act.put, List.setIfInBounds_toArray, List.set_cons_zero, List.set_cons_succ]
            refine wpAnyH_take (i := 3) (v := ?vb3) rfl (by kernel_rfl) (by kernel_rfl) (by kernel_rfl) (fun _ _ _ h => h) (Or.inl ⟨by rfl, ?yb3⟩) (by assumption) ?rb3
            case yb3 => intro w hSw; (try dsimp only at hSw); go_simp; try with_reducible rfl
            try simp only [Act.put, List.setIfInBounds_toArray, List.set_cons_zero, List.set_cons_succ]
            refine wpAnyH_take (i := 4) (v := ?vb4) rfl (by kernel_rfl) (by kernel_rfl) (by kernel_rfl) (fun _ _ _ h => h) (Or.inl ⟨by rfl, ?yb4⟩) (by assumption) ?rb4
            case yb4 => intro w hSw; (try dsimp only at hSw); go_simp; try with_reducible rfl
            try simp only [Act.put, List.setIfInBounds_toArray, List.set_cons_zero, List.set_cons_succ]
            refine wpAnyH_take (i := 5) (v := ?vb5) rfl (by kernel_rfl) (by kernel_rfl) (by kernel_rfl) (fun _ _ _ h => h) (Or.inl ⟨by rfl, ?yb5⟩) (by assumption) ?rb5
            case yb5 => intro w hSw; (try dsimp only at hSw); go_simp; try with_reducible rfl
            try simp only [Act.put, List.setIfInBounds_toArray, List.set_cons_zero, List.set_cons_succ]
            refine wpAnyH_take (i := 6) (v := ?vb6) rfl (by kernel_rfl) (by kernel_rfl) (by kernel_rfl) (fun _ _ _ h => h) (Or.inl ⟨by rfl, ?yb6⟩) (by assumption) ?rb6
            case yb6 => intro w hSw; (try dsimp only at hSw); go_simp; try with_reducible rfl
            try simp only [Act.put, List.setIfInBounds_toArray, List.set_cons_zero, List.set_cons_succ]
            refine wpAnyH_take (i := 7) (v := ?vb7) rfl (by kernel_rfl) (by kernel_rfl) (by kernel_rfl) (fun _ _ _ h => h) (Or.inl ⟨by rfl, ?yb7⟩) (by assumption) ?rb7
            case yb7 => intro w hSw; (try dsimp only at hSw); go_simp; try with_reducible rfl
            try simp only [Act.put, List.setIfInBounds_toArray, List.set_cons_zero, List.set_cons_succ]
            refine wpAnyH_take (i := 8) (v := ?vb8) rfl (by kernel_rfl) (by kernel_rfl) (by kernel_rfl) (fun _ _ _ h => h) (Or.inl ⟨by rfl, ?yb8⟩) (by assumption) ?rb8
            case yb8 => intro w hSw; (try dsimp only at hSw); go_simp; try with_reducible rfl
            try simp only [Act.put, List.setIfInBounds_toArray, List.set_cons_zero, List.set_cons_succ]
            refine wpAnyH_take (i := 9) (v := ?vb9) rfl (by kernel_rfl) (by kernel_rfl) (by kernel_rfl) (fun _ _ _ h => h) (Or.inl ⟨by rfl, ?yb9⟩) (by assumption) ?rb9
            case yb9 => intro w hSw; (try dsimp only at hSw); go_simp; try with_reducible rfl
            try simp only [Act.put, List.setIfInBounds_toArray, List.set_cons_zero, List.set_cons_succ]
            refine wpAnyH_take (i := 10) (v := ?vb10) rfl (by kernel_rfl) (by kernel_rfl) (by kernel_rfl) (fun _ _ _ h => h) (Or.inl ⟨by rfl, ?yb10⟩) (by assumption) ?rb10
            case yb10 => intro w hSw; (try dsimp only at hSw); go_simp; try with_reducible rfl
            try simp only [Act.put, List.setIfInBounds_toArray, List.set_cons_zero, List.set_cons_succ]
            refine wpAnyH_take (i := 11) (v := ?vb11) rfl (by kernel_rfl) (by kernel_rfl) (by kernel_rfl) (fun _ _ _ h => h) (Or.inl ⟨by rfl, ?yb11⟩) (by assumption) ?rb11
            case yb11 => intro w hSw; (try dsimp only at hSw); go_simp; try with_reducible rfl
            try simp only [Act.put, List.setIfInBounds_toArray, List.set_cons_zero, List.set_cons_succ]
            refine wpAnyH_take (i := 12) (v := ?vb12) rfl (by kernel_rfl) (by kernel_rfl) (by kernel_rfl) (fun _ _ _ h => h) (Or.inl ⟨by rfl, ?yb12⟩) (by assumption) ?rb12
            case yb12 => intro w hSw; (try dsimp only at hSw); go_simp; try with_reducible rfl
            try simp only [Act.put, List.setIfInBounds_toArray, List.set_cons_zero, List.set_cons_succ]
            refine wpAnyH_take (i := 13) (v := ?vb13) rfl (by kernel_rfl) (by kernel_rfl) (by kernel_rfl) (fun _ _ _ h => h) (Or.inl ⟨by rfl, ?yb13⟩) (by assumption) ?rb13
            case yb13 => intro w hSw; (try dsimp only at hSw); go_simp; try with_reducible rfl
            try simp only [Act.put, List.setIfInBounds_toArray, List.set_cons_zero, List.set_cons_succ]
            refine wpAnyH_take (i := 14) (v := ?vb14) rfl (by kernel_rfl) (by kernel_rfl) (by kernel_rfl) (fun _ _ _ h => h) (Or.inl ⟨by rfl, ?yb14⟩) (by assumption) ?rb14
            case yb14 => intro w hSw; (try dsimp only at hSw); go_simp; try with_reducible rfl
            try simp only [Act.put, List.setIfInBounds_toArray, List.set_cons_zero, List.set_cons_succ]
            refine wpAnyH_take (i := 15) (v := ?vb15) rfl (by kernel_rfl) (by kernel_rfl) (by kernel_rfl) (fun _ _ _ h => h) (Or.inl ⟨by rfl, ?yb15⟩) (by assumption) ?rb15
            case yb15 => intro w hSw; (try dsimp only at hSw); go_simp; try with_reducible rfl
            try simp only [Act.put, List.setIfInBounds_toArray, List.set_cons_zero, List.set_cons_succ]
            refine wpAnyH_take (i := 16) (v := ?vb16) rfl (by kernel_rfl) (by kernel_rfl) (by kernel_rfl) (fun _ _ _ h => h) (Or.inl ⟨by rfl, ?yb16⟩) (by assumption) ?rb16
            case yb16 => intro w hSw; (try dsimp only at hSw); go_simp; try with_reducible rfl
            try simp only [Act.put, List.setIfInBounds_toArray, List.set_cons_zero, List.set_cons_succ]
            refine wpAnyH_take (i := 17) (v := ?vb17) rfl (by kernel_rfl) (by kernel_rfl) (by kernel_rfl) (fun _ _ _ h => h) (Or.inl ⟨by rfl, ?yb17⟩) (by assumption) ?rb17
            case yb17 => intro w hSw; (try dsimp only at hSw); go_simp; try with_reducible rfl
            try simp only [Act.put, List.setIfInBounds_toArray, List.set_cons_zero, List.set_cons_succ]
            refine wpAnyH_take (i := 18) (v := ?vb18) rfl (by kernel_rfl) (by kernel_rfl) (by kernel_rfl) (fun _ _ _ h => h) (Or.inl ⟨by rfl, ?yb18⟩) (by assumption) ?rb18
            case yb18 => intro w hSw; (try dsimp only at hSw); go_simp; try with_reducible rfl
            try simp only [Act.put, List.setIfInBounds_toArray, List.set_cons_zero, List.set_cons_succ]
            refine wpAnyH_take (i := 19) (v := ?vb19) rfl (by kernel_rfl) (by kernel_rfl) (by kernel_rfl) (fun _ _ _ h => h) (Or.inl ⟨by rfl, ?yb19⟩) (by assumption) ?rb19
            case yb19 => intro w hSw; (try dsimp only at hSw); go_simp; try with_reducible rfl
            try simp only [Act.put, List.setIfInBounds_toArray, List.set_cons_zero, List.set_cons_succ]
            refine wpAnyH_take (i := 20) (v := ?vb20) rfl (by kernel_rfl) (by kernel_rfl) (by kernel_rfl) (fun _ _ _ h => h) (Or.inl ⟨by rfl, ?yb20⟩) (by assumption) ?rb20
            case yb20 => intro w hSw; (try dsimp only at hSw); go_simp; try with_reducible rfl
            try simp only [Act.put, List.setIfInBounds_toArray, List.set_cons_zero, List.set_cons_succ]
            refine wpAnyH_take (i := 21) (v := ?vb21) rfl (by kernel_rfl) (by kernel_rfl) (by kernel_rfl) (fun _ _ _ h => h) (Or.inl ⟨by rfl, ?yb21⟩) (by assumption) ?rb21
            case yb21 => intro w hSw; (try dsimp only at hSw); go_simp; try with_reducible rfl
            try simp only [Act.put, List.setIfInBounds_toArray, List.set_cons_zero, List.set_cons_succ]
            refine wpAnyH_take (i := 22) (v := ?vb22) rfl (by kernel_rfl) (by kernel_rfl) (by kernel_rfl) (fun _ _ _ h => h) (Or.inl ⟨by rfl, ?yb22⟩) (by assumption) ?rb22
            case yb22 => intro w hSw; (try dsimp only at hSw); go_simp; try with_reducible rfl
            try simp only [Act.put, List.setIfInBounds_toArray, List.set_cons_zero, List.set_cons_succ]
            refine wpAnyH_take (i := 23) (v := ?vb23) rfl (by kernel_rfl) (by kernel_rfl) (by kernel_rfl) (fun _ _ _ h => h) (Or.inl ⟨by rfl, ?yb23⟩) (by assumption) ?rb23
            case yb23 => intro w hSw; (try dsimp only at hSw); go_simp; try with_reducible rfl
            try simp only [Act.put, List.setIfInBounds_toArray, List.set_cons_zero, List.set_cons_succ]
            refine wpAnyH_take (i := 24) (v := ?vb24) rfl (by kernel_rfl) (by kernel_rfl) (by kernel_rfl) (fun _ _ _ h => h) (Or.inl ⟨by rfl, ?yb24⟩) (by assumption) ?rb24
            case yb24 => intro w hSw; (try dsimp only at hSw); go_simp; try with_reducible rfl
            try simp only [Act.put, List.setIfInBounds_toArray, List.set_cons_zero, List.set_cons_succ]
            refine wpAnyH_take (i := 25) (v := ?vb25) rfl (by kernel_rfl) (by kernel_rfl) (by kernel_rfl) (fun _ _ _ h => h) (Or.inl ⟨by rfl, ?yb25⟩) (by assumption) ?rb25
            case yb25 => intro w hSw; (try dsimp only at hSw); go_simp; try with_reducible rfl
            try simp only [Act.put, List.setIfInBounds_toArray, List.set_cons_zero, List.set_cons_succ]
            refine wpAnyH_take (i := 26) (v := ?vb26) rfl (by kernel_rfl) (by kernel_rfl) (by kernel_rfl) (fun _ _ _ h => h) (Or.inl ⟨by rfl, ?yb26⟩) (by assumption) ?rb26
            case yb26 => intro w hSw; (try dsimp only at hSw); go_simp; try with_reducible rfl
            try simp only [Act.put, List.setIfInBounds_toArray, List.set_cons_zero, List.set_cons_succ]
            refine wpAnyH_take (i := 27) (v := ?vb27) rfl (by kernel_rfl) (by kernel_rfl) (by kernel_rfl) (fun _ _ _ h => h) (Or.inl ⟨by rfl, ?yb27⟩) (by assumption) ?rb27
            case yb27 => intro w hSw; (try dsimp only at hSw); go_simp; try with_reducible rfl
            try simp only [Act.put, List.setIfInBounds_toArray, List.set_cons_zero, List.set_cons_succ]
            refine wpAnyH_take (i := 28) (v := ?vb28) rfl (by kernel_rfl) (by kernel_rfl) (by kernel_rfl) (fun _ _ _ h => h) (Or.inl ⟨by rfl, ?yb28⟩) (by assumption) ?rb28
            case yb28 => intro w hSw; (try dsimp only at hSw); go_simp; try with_reducible rfl
            try simp only [Act.put, List.setIfInBounds_toArray, List.set_cons_zero, List.set_cons_succ]
            refine wpAnyH_take (i := 29) (v := ?vb29) rfl (by kernel_rfl) (by kernel_rfl) (by kernel_rfl) (fun _ _ _ h => h) (Or.inl ⟨by rfl, ?yb29⟩) (by assumption) ?rb29
            case yb29 => intro w hSw; (try dsimp only at hSw); go_simp; try with_reducible rfl
            try simp only [Act.put, List.setIfInBounds_toArray, List.set_cons_zero, List.set_cons_succ]
            refine wpAnyH_ready (rs := [30]) (by kernel_rfl) (by simp) ?_
            refine AllReadyH.cons (i := 30) rfl (fun K hK => ?_) AllReadyH.nil
            go_simp
            refine (l22Both_any _ _ _ _ _).mono ?_
            rintro e w2 ⟨rfl, b2⟩
            refine hK.out _ _ (keep6 r1 r2 q1 q2 e0 e1 (Below.und b2)) (fun hHeld2 => ?_)
            refine wpAnyH_take (i := 31) (v := ?vb31) rfl (by kernel_rfl) (by kernel_rfl) (by kernel_rfl) (fun _ _ _ h => h) (Or.inl ⟨by rfl, ?yb31⟩) (by assumption) ?rb31
            case yb31 => intro w hSw; (try dsimp only at hSw); go_simp; try with_reducible rfl
            try simp only [Act.put, List.setIfInBounds_toArray, List.set_cons_zero, List.set_cons_succ]
            clear hK K hHeld hHeld2 a1 a2 a3 e0 e1 q1 q2 q3 q4 r1 r2 r3 r4
            have O3 := HO2.out.below (Below.und b2)
            have B3 := Lib.hid (Below.step0 HB2.out (Below.und b2))
            obtain ⟨q1, q2, q3, q4⟩ := O3.2 r (by omega)
            have HO3 := Lib.hid O3
            clear O3 b2 HO2 HB2
            refine wpAnyH_done (by kernel_rfl) ?_ _
            dsimp only [LastQ]
            go_wp2_with fail
            go_roundw
            case rel =>
              refine ⟨r, _, rfl, by omega, by omega, by omega, (HO3.out.set r (max z1 (x1 - y2), min z2 (x2 - y1))).congr (fun j hj => ?_), (B3.out.setCell hg _).setCell hg _⟩
              by_cases e : j = r
              · subst e; rw [if_pos rfl, if_pos (by omega), E.out]
              · rw [if_neg e]
                by_cases e2 : r + 1 ≤ j
                · rw [if_pos e2, if_pos (by omega)]
                · rw [if_neg e2, if_neg (by omega)]
            case measure => simp [intOf] <;> omega
  · have hw' : wdB L S = false := by simpa using hw
    have HW := Lib.hid hw'
    clear hw hw'
    go_enter Try.func25, Try.ntmps25
    go_wp2_with fail
    refine (specValid_any _ _ _ _ _ _ L S _ hlc hm hlc' hm' H.out H'.out).mono ?_
    rintro e w1 ⟨rfl, m1, rfl⟩
    rw [wv_wd, HW.out]
    go_wp2_with fail
    go_ret2
    exact TightPost.no (tk_wd HW.out) ((below_drewN (Below.refl _ _) m1).alloc (by simp [size_drewN]) _)
end Go.Proofs.Yteflaibcldknmaa
