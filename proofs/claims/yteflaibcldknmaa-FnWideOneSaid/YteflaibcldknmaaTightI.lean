/- narrow, slices.Clone at windows, impl.WindowsTight. -/
import Derived.Test.YteflaibcldknmaaWinI
import Derived.Test.YteflaibcldknmaaTightB
import Derived.Test.YteflaibcldknmaaDrawN
import Derived.RegionTactic
import Derived.BigRegion
import Derived.WalkSpells
import Derived.StillTailTactics
namespace Go.Proofs.Yteflaibcldknmaa
open Go.RowKit
set_option linter.unusedVariables false
set_option linter.unusedSimpArgs false

def NarPost (w : World) (g o : Nat) (x y : Int) (e : Ending) (w' : World) : Prop := e = .returned (.tuple #[]) ∧ w' = ((w.setCell ⟨g, o, none⟩ (.int .i64 x)).setCell ⟨g, o + 1, none⟩ (.int .i64 y)).drew

theorem narrow_any (g o : Nat) (y z lo hi : Int) (w : World) (h0 : w.cell? ⟨g, o, none⟩ = some (.int .i64 y)) (h1 : w.cell? ⟨g, o + 1, none⟩ = some (.int .i64 z)) (f0 : w.frozen? ⟨g, o, none⟩ = false) (f1 : w.frozen? ⟨g, o + 1, none⟩ = false) :
    Calls Try.prog 31 #[.pointer (some ⟨g, o, none⟩), .int .i64 lo, .int .i64 hi] w (NarPost w g o (max y lo) (min z hi)) := by
  by_cases c1 : y < lo
  · by_cases c2 : hi < z
    · rw [show max y lo = lo by omega, show min z hi = hi by omega]
      go_enter Try.func31, Try.ntmps31
      go_wp2_with fail
      go_region
      all_goals (go_end0; exact ⟨rfl, rfl⟩)
    · rw [show max y lo = lo by omega, show min z hi = z by omega]
      go_enter Try.func31, Try.ntmps31
      go_wp2_with fail
      go_region
      all_goals (go_end0; exact ⟨rfl, rfl⟩)
  · by_cases c2 : hi < z
    · rw [show max y lo = y by omega, show min z hi = hi by omega]
      go_enter Try.func31, Try.ntmps31
      go_wp2_with fail
      go_region
      all_goals (go_end0; exact ⟨rfl, rfl⟩)
    · rw [show max y lo = y by omega, show min z hi = z by omega]
      go_enter Try.func31, Try.ntmps31
      go_wp2_with fail
      go_region
      all_goals (go_end0; exact ⟨rfl, rfl⟩)

def ClonePost (w : World) (len : Nat) (L : List (Int × Int)) (e : Ending) (w' : World) : Prop := ∃ g c : Nat, e = .returned (.slice (some ⟨g, 0, none⟩) len c) ∧ len ≤ c ∧ c ≤ maxLen ∧ OwnF w' g len (pr L) ∧ w.heap.size ≤ g ∧ Below w.heap.size w w'

theorem prs_src {w : World} {ad : Addr} {n : Nat} {L : List (Int × Int)} (h : Prs w (some ad) n L) (h1 : 1 ≤ n) : ∀ j u, (fl L)[j]? = some u → w.cell? (ad.add j) = some u := by
  obtain ⟨_, q | ⟨b, off, e, _, hc⟩⟩ := h
  · omega
  · cases e; exact prs_news hc

theorem cell_alloc_of {w : World} {p : Addr} {u : Value} {o : Obj} (h : w.cell? p = some u) : (w.alloc o).cell? p = some u :=
  (((Below.refl w.heap.size w).alloc (Nat.le_refl _) o).cell (World.block_lt_of_cell? w _ h)).trans h

set_option maxHeartbeats 400000 in
theorem cloneW_any (ad : Addr) (len cap : Nat) (L : List (Int × Int)) (w : World) (h : Prs w (some ad) len L) (h1 : 1 ≤ len) (hlim : len ≤ 1000) :
    Calls Try.prog 30 #[.slice (some ad) len cap] w (ClonePost w len L) := by
  obtain ⟨i0, hi, hz0, hz1, hz2⟩ := info_parts infoWindow
  have HN := Lib.hid (prs_src h h1)
  have HL := Lib.hid h.1
  clear h
  have o0 := World.ownsRow_lit (base := w.heap.size) (e := 35) (size := 2) w #[] 0 (Nat.le_refl _) (by unfold maxLen; omega) (by simp)
  have HO0 := Lib.hid o0
  clear o0
  have q : ∀ (w : World) (a : Option Addr) (n c n' c' : Nat), (binOp .eql 25 (.slice a n c) (.slice none n' c')).run Try.prog w = .ok (.bool a.isNone) w := fun w a n c n' c' => Lib.run_eql_slice_nil w _ _ a n c n' c' Try.underlying25
  go_enter Try.func30, Try.ntmps30
  go_wp2_with (at_builtin; refine wpList_append_own _ rfl _ _ 25 rfl w.heap.size 35 i0 (.agg #[.int .i64 0, .int .i64 0]) 2 16 Try.underlying25 hi hz0 hz1 hz2 rfl (by decide) _ _ _ rfl HO0.out ad _ _ (fl L) rfl (by rw [fl_len, HL.out]) ?c1 (fl_one _) (by unfold maxLen; omega) (by omega) (by simp) ?_)
  case c1 => intro j u hj; exact cell_alloc_of (HN.out j u hj)
  intro v1 w1 o1 g1 _
  have b1 := ((Below.refl w.heap.size w).alloc (Nat.le_refl _) (.cells #[] 35)).grown g1 (by simp) (fun j hj => (HO0.out.lt j hj).1)
  have o2 : w1.ownsRow w.heap.size 35 2 v1 len (fl L) := by simpa using o1
  obtain ⟨g, c, rfl, hc, hcm, O, hg⟩ := own_val o2 HL.out (row_some o2 h1)
  have HP := Lib.hid (show ClonePost w len L (.returned (.slice (some ⟨g, 0, none⟩) len c)) w1 from ⟨g, c, rfl, hc, hcm, O, hg, b1⟩)
  clear o1 o2 g1 b1 O HN HL HO0
  go_wp2_with fail
  go_ret
  exact HP.out

theorem OwnF.drew {w : World} {g n : Nat} {f : Nat → Int × Int} (h : OwnF w g n f) : OwnF w.drew g n f := h

set_option maxRecDepth 100000 in
set_option maxHeartbeats 3200000 in
theorem implTight_any (a a' : Option Addr) (len cap len' cap' : Nat) (L S : List (Int × Int)) (w : World) (hlc : len ≤ cap) (hm : cap ≤ maxLen) (hlc' : len' ≤ cap') (hm' : cap' ≤ maxLen) (h : Prs w a len L) (h' : Prs w a' len' S) (ha : a ≠ none) (ha' : a' ≠ none) :
    Calls Try.prog 14 #[.slice a len cap, .slice a' len' cap'] w (TightPost w L S) := by
  have hm1 : cap ≤ 9223372036854775807 := hm
  have hm2 : cap' ≤ 9223372036854775807 := hm'
  have H := Lib.hid h
  have H' := Lib.hid h'
  have HA := Lib.hid ha
  have HA' := Lib.hid ha'
  clear h h' ha ha'
  by_cases hw : wdB L S = true
  · obtain ⟨w1, w12, wls, wL, wS⟩ := wd_true hw
    have hW := Lib.hid hw
    obtain ⟨ad, rfl⟩ : ∃ ad, a = some ad := by cases a with
      | none => exact absurd rfl HA.out
      | some ad => exact ⟨ad, rfl⟩
    obtain ⟨b', off', ha', hb', hS⟩ : ∃ b' off', (len' = 0 ∨ a' = some ⟨b', off', none⟩) ∧ (len' = 0 ∨ b' < w.heap.size) ∧ (len' = 0 ∨ PrsAt w b' off' S) := by
      rcases H'.out.2 with q | ⟨b, off, q1, q2, q3⟩
      · exact ⟨0, 0, .inl q, .inl q, .inl q⟩
      · exact ⟨b, off, .inr q1, .inr q2, .inr q3⟩
    have hl := H.out.1
    have hl' := H'.out.1
    have HS := Lib.hid (And.intro ha' (And.intro hb' hS))
    have HL := Lib.hid hl
    have HL' := Lib.hid hl'
    have wls' : len' + 1 ≤ len := by omega
    have wls2 : len ≤ len' + 1 := by omega
    have l1 : 1 ≤ len := by omega
    have l12 : len ≤ 12 := by omega
    have WLS := Lib.hid (And.intro wL wS)
    clear ha' hb' hS hl hl' wls w1 w12 wL wS hw
    go_enter Try.func14, Try.ntmps14
    go_wp2_with fail
    refine (implValid_any _ _ _ _ _ _ L S _ hlc hm hlc' hm' H.out H'.out HA.out HA'.out).mono ?_
    rintro e w1 ⟨rfl, b1⟩
    rw [wv_wd, hW.out]
    have HB1 := Lib.hid b1
    clear b1
    go_wp2_with fail
    refine (cloneW_any ad len cap L _ (H.out.below HB1.out) l1 (by omega)).mono ?_
    rintro e w2 ⟨g, c, rfl, hc, hcm, O, hg2, b2⟩
    have hg : w.heap.size ≤ g := Nat.le_trans HB1.out.size hg2
    have hcm' : c ≤ 9223372036854775807 := hcm
    have HO := Lib.hid O
    have HB := Lib.hid (Below.step0 HB1.out b2)
    clear O b2 HB1 hg2
    go_wp2_with fail
    go_loopw [20] (fun i wr => ∃ k : Nat, i = .int .i64 k ∧ k ≤ len' ∧ OwnF wr g len (fun j => if j < k + 1 then fw L S j else pr L j) ∧ Below w.heap.size w wr) (fun i _ => len' - (intOf i).toNat)
    case atStart => exact ⟨0, rfl, Nat.zero_le _, HO.out.congr (fun i hi => by
      by_cases e : i < 0 + 1
      · rw [if_pos e]; obtain rfl : i = 0 := by omega
        rfl
      · rw [if_neg e]), HB.out⟩
    case round =>
      obtain ⟨p, rfl, hp, O, B⟩ := hrel
      by_cases hlt : p < len'
      · rcases HS.out.1 with q | rfl
        · omega
        rcases HS.out.2.1 with q | hb'
        · omega
        rcases HS.out.2.2 with q | hcS
        · omega
        obtain ⟨c0, c1⟩ := hcS p (by rw [HL'.out]; omega)
        have e0 := (B.cell (p := ⟨b', off' + p * 2, none⟩) hb').trans c0
        have e1 := (B.cell (p := ⟨b', off' + p * 2 + 1, none⟩) hb').trans c1
        obtain ⟨q1, q2, q3, q4⟩ := O.2 p (by omega)
        obtain ⟨r1, r2, r3, r4⟩ := O.2 (p + 1) (by omega)
        dsimp only at q1 q2 r1 r2
        rw [if_pos (by omega)] at q1 q2
        rw [if_neg (by omega)] at r1 r2
        have F := fw_bd hW.out p (by rw [HL.out]; omega)
        have G := rg_bd (WLS.out.2 p (by rw [HL'.out]; omega))
        have E := Lib.hid (show fw L S (p + 1) = (max (pr L (p + 1)).1 ((fw L S p).1 + (pr S p).1), min (pr L (p + 1)).2 ((fw L S p).2 + (pr S p).2)) from rfl)
        have R := Lib.hid (And.intro r1 (And.intro r2 (And.intro r3 r4)))
        generalize (fw L S p).1 = x1 at *
        generalize (fw L S p).2 = x2 at *
        generalize (pr S p).1 = y1 at *
        generalize (pr S p).2 = y2 at *
        generalize (pr L (p + 1)).1 = z1 at *
        generalize (pr L (p + 1)).2 = z2 at *
        have bd : x1 ≤ 10000000 := by omega
        have a1 : IntKind.i64.wrap (x1 + y1) = x1 + y1 := IntWalk.i64_in _ (by omega)
        have a2 : IntKind.i64.wrap (x2 + y2) = x2 + y2 := IntWalk.i64_in _ (by omega)
        have a3 : IntKind.i64.wrap ((p : Int) + 1) = (p : Int) + 1 := IntWalk.i64_in _ (by omega)
        have a4 : ((p : Int) + 1).toNat = p + 1 := by omega
        have a5 : (0 : Int) ≤ (p : Int) + 1 := by omega
        have a6 : (0 : Int) ≤ (p : Int) := by omega
        have a7 : (p : Int) + 1 < len := by omega
        have a10 : (p : Int) < len := by omega
        have a8 : (p : Int) < len' := by omega
        have HO2 := Lib.hid O
        have HB2 := Lib.hid B
        have hgl := O.1
        clear O B F G c0 c1 hcS r1 r2 r3 r4
        go_wp2_with fail
        have O2 := HO2.out.alloc (.cells #[.int .i64 y1, .int .i64 y2] 35)
        have B2 := HB2.out.alloc HB2.out.size (.cells #[.int .i64 y1, .int .i64 y2] 35)
        have k0 : (wr.alloc (.cells #[.int .i64 y1, .int .i64 y2] 35)).cell? ⟨wr.heap.size, 0, none⟩ = some (.int .i64 y1) := by simp
        have k1 : (wr.alloc (.cells #[.int .i64 y1, .int .i64 y2] 35)).cell? ⟨wr.heap.size, 1, none⟩ = some (.int .i64 y2) := by simp
        have q1 := cell_alloc_of (o := (.cells #[.int .i64 y1, .int .i64 y2] 35)) q1
        have q2 := cell_alloc_of (o := (.cells #[.int .i64 y1, .int .i64 y2] 35)) q2
        have R := Lib.hid (And.intro (cell_alloc_of (o := (.cells #[.int .i64 y1, .int .i64 y2] 35)) R.out.1) (And.intro (cell_alloc_of (o := (.cells #[.int .i64 y1, .int .i64 y2] 35)) R.out.2.1) ((O2.2 (p + 1) (by omega)).2.2)))
        have O2 := Lib.hid O2
        have B2 := Lib.hid B2
        clear HO2 HB2 e0 e1 hgl
        have hgl := O2.out.1
        generalize wr.alloc (.cells #[.int .i64 y1, .int .i64 y2] 35) = wq at *
        go_still_tail 20, (by kernel_rfl)
        change wpList _ _ _ _ _ wq.drew
        go_wp2_with fail
        refine (narrow_any g ((p + 1) * 2) z1 z2 _ _ wq.drew R.out.1 R.out.2.1 R.out.2.2.1 R.out.2.2.2).mono ?_
        rintro e w3 ⟨rfl, rfl⟩
        have O3 := (O2.out.drew.set (p + 1) (max z1 (x1 + y1), min z2 (x2 + y2))).drew
        have B3 := Lib.hid (((B2.out.drew.setCell (p := ⟨g, (p + 1) * 2, none⟩) hg (.int .i64 (max z1 (x1 + y1)))).setCell (p := ⟨g, (p + 1) * 2 + 1, none⟩) hg (.int .i64 (min z2 (x2 + y2)))).drew)
        have HO3 := Lib.hid O3
        clear O3 O2 B2 R q1 q2 q3 q4 a1 a2 k0 k1
        go_wp2_with fail
        go_roundw
        case rel =>
          refine ⟨p + 1, by go_num, by omega, HO3.out.congr (fun j hj => ?_), B3.out⟩
          by_cases e : j = p + 1
          · subst e; rw [if_pos rfl, if_pos (by omega), E.out]
          · rw [if_neg e]
            by_cases e2 : j < p + 1
            · rw [if_pos e2, if_pos (by omega)]
            · rw [if_neg e2, if_neg (by omega)]
        case measure => simp [intOf]; omega
      · obtain rfl : p = len' := by omega
        obtain rfl : len = p + 1 := by omega
        have O' := O.congr (f' := fun j => if p ≤ j then tw L S (p + 1) j else fw L S j) (fun j hj => by
          rw [if_pos hj]
          by_cases e : p ≤ j
          · obtain rfl : j = p := by omega
            rw [if_pos e]; exact (tw_last L S (j + 1)).symm
          · rw [if_neg e])
        have HO := Lib.hid O'
        have HB := Lib.hid B
        clear O O' B hlt hp
        have i1 : (0 : Int) ≤ (p : Int) := by omega
        go_wp2_with fail
        go_loopw [9] (fun i wr => ∃ (q : Nat) (x : Int), i = .int .i64 x ∧ x ≤ (q : Int) - 1 ∧ (q : Int) - 1 ≤ x ∧ q ≤ p ∧ OwnF wr g (p + 1) (fun j => if q ≤ j then tw L S (p + 1) j else fw L S j) ∧ Below w.heap.size w wr) (fun i _ => (intOf i + 1).toNat)
        case atStart => exact ⟨p, _, rfl, by omega, by omega, Nat.le_refl _, HO.out, HB.out⟩
        case round =>
          obtain ⟨q, x, rfl, hx1, hx2, hq, O, B⟩ := hrel
          by_cases h0 : q = 0
          · obtain rfl := h0
            obtain rfl : x = -1 := by omega
            have O' := O.congr (f' := tw L S (p + 1)) (fun j hj => by rw [if_pos (by omega)])
            have HO := Lib.hid O'
            have HB := Lib.hid B
            clear O O' B hx1 hx2
            go_wp2_with fail
            go_loopw [84] (fun i wq => ∃ k : Nat, i = .int .i64 k ∧ k ≤ p + 1 ∧ Hid (∀ j, j < k → (tw L S (p + 1) j).1 ≤ (tw L S (p + 1) j).2) ∧ Below wr.heap.size wr wq) (fun i _ => p + 1 - (intOf i).toNat)
            case atStart => exact ⟨0, rfl, Nat.zero_le _, (fun j hj => absurd hj (by omega)), Below.refl _ _⟩
            case round =>
              obtain ⟨k, rfl, hk, hall, bq⟩ := hrel
              by_cases hlt : k < p + 1
              · obtain ⟨q1, q2, q3, q4⟩ := (HO.out.below bq).2 k hlt
                have BAD := Lib.hid (fun (h : (tw L S (p + 1) k).2 < (tw L S (p + 1) k).1) => tk_bad (L := L) (S := S) (i := k) (by rw [HL.out]; exact hlt) (by rw [HL.out]; exact h))
                have GOOD := Lib.hid (fun (h : (tw L S (p + 1) k).1 ≤ (tw L S (p + 1) k).2) j (hj : j < k + 1) => show (tw L S (p + 1) j).1 ≤ (tw L S (p + 1) j).2 from if e : j = k then e ▸ h else hall.out j (by omega))
                generalize (tw L S (p + 1) k).1 = x1 at *
                generalize (tw L S (p + 1) k).2 = x2 at *
                have BQ := Lib.hid bq
                clear bq
                have n0 : (0 : Int) ≤ (k : Int) := by omega
                have n1 : (k : Int) < (p : Int) + 1 := by omega
                by_cases hc : x2 < x1
                · have A := Lib.hid (BAD.out hc)
                  have t1 : decide (x2 < x1) = true := by simpa using hc
                  clear BAD GOOD hc
                  go_wp2_with fail
                  go_ret2
                  exact TightPost.no A.out ((Below.step0 HB.out BQ.out).alloc (Nat.le_trans HB.out.size BQ.out.size) _)
                · have A := Lib.hid (GOOD.out (by omega))
                  have t1 : decide (x2 < x1) = false := by simpa using hc
                  clear BAD GOOD hc
                  go_wp2_with fail
                  go_roundw
                  case rel => exact ⟨k + 1, by go_num, by omega, A, BQ.out.alloc BQ.out.size _⟩
                  case measure => simp [intOf] <;> omega
              · obtain rfl : k = p + 1 := by omega
                have A := Lib.hid (tk_mk hW.out (show TwOk L S L.length by rw [HL.out]; exact hall.out))
                have BQ := Lib.hid bq
                clear bq
                go_wp2_with fail
                go_ret2
                exact TightPost.yes' HL.out A.out hc hcm hg (HO.out.below BQ.out) (Below.step0 HB.out BQ.out)
          · obtain ⟨r, rfl⟩ : ∃ r, q = r + 1 := ⟨q - 1, by omega⟩
            obtain rfl : x = (r : Int) := by omega
            rcases HS.out.1 with q | rfl
            · omega
            rcases HS.out.2.1 with q | hb'
            · omega
            rcases HS.out.2.2 with q | hcS
            · omega
            obtain ⟨c0, c1⟩ := hcS r (by rw [HL'.out]; omega)
            have e0 := (B.cell (p := ⟨b', off' + r * 2, none⟩) hb').trans c0
            have e1 := (B.cell (p := ⟨b', off' + r * 2 + 1, none⟩) hb').trans c1
            obtain ⟨q1, q2, q3, q4⟩ := O.2 (r + 1) (by omega)
            obtain ⟨r1, r2, r3, r4⟩ := O.2 r (by omega)
            dsimp only at q1 q2 r1 r2
            rw [if_pos (by omega)] at q1 q2
            rw [if_neg (by omega)] at r1 r2
            have F := fw_bd hW.out r (by rw [HL.out]; omega)
            have F2 := tw_bd hW.out (r + 1) (by rw [HL.out]; omega)
            have G := rg_bd (WLS.out.2 r (by rw [HL'.out]; omega))
            rw [HL.out] at F2
            have E := Lib.hid (show tw L S (p + 1) r = (max (fw L S r).1 ((tw L S (p + 1) (r + 1)).1 - (pr S r).2), min (fw L S r).2 ((tw L S (p + 1) (r + 1)).2 - (pr S r).1)) from tw_step L S (p + 1) r (by omega))
            have R := Lib.hid (And.intro r1 (And.intro r2 (And.intro r3 r4)))
            generalize (tw L S (p + 1) (r + 1)).1 = x1 at *
            generalize (tw L S (p + 1) (r + 1)).2 = x2 at *
            generalize (pr S r).1 = y1 at *
            generalize (pr S r).2 = y2 at *
            generalize (fw L S r).1 = z1 at *
            generalize (fw L S r).2 = z2 at *
            have a1 : IntKind.i64.wrap (x1 - y2) = x1 - y2 := IntWalk.i64_in _ (by omega)
            have a2 : IntKind.i64.wrap (x2 - y1) = x2 - y1 := IntWalk.i64_in _ (by omega)
            have a3 : IntKind.i64.wrap ((r : Int) + 1) = (r : Int) + 1 := IntWalk.i64_in _ (by omega)
            have a4 : ((r : Int) + 1).toNat = r + 1 := by omega
            have a5 : (0 : Int) ≤ (r : Int) + 1 := by omega
            have a6 : (0 : Int) ≤ (r : Int) := by omega
            have a7 : (r : Int) < (p : Int) + 1 := by omega
            have a10 : (r : Int) + 1 < (p : Int) + 1 := by omega
            have a8 : (r : Int) < p := by omega
            have HO2 := Lib.hid O
            have HB2 := Lib.hid B
            have hgl := O.1
            clear O B F F2 G c0 c1 hcS hx1 hx2 h0 r1 r2 r3 r4
            go_wp2_with fail
            go_still_tail 27, (by kernel_rfl)
            change wpList _ _ _ _ _ wr.drew
            go_wp2_with fail
            refine (narrow_any g (r * 2) z1 z2 _ _ wr.drew R.out.1 R.out.2.1 R.out.2.2.1 R.out.2.2.2).mono ?_
            rintro e w3 ⟨rfl, rfl⟩
            have O3 := (HO2.out.drew.set r (max z1 (x1 - y2), min z2 (x2 - y1))).drew
            have B3 := Lib.hid (((HB2.out.drew.setCell (p := ⟨g, r * 2, none⟩) hg (.int .i64 (max z1 (x1 - y2)))).setCell (p := ⟨g, r * 2 + 1, none⟩) hg (.int .i64 (min z2 (x2 - y1)))).drew)
            have HO3 := Lib.hid O3
            clear O3 HO2 HB2 R e0 e1 q1 q2 q3 q4 a1 a2
            go_wp2_with fail
            go_roundw
            case rel =>
              refine ⟨r, _, rfl, by omega, by omega, by omega, HO3.out.congr (fun j hj => ?_), B3.out⟩
              by_cases e : j = r
              · subst e; rw [if_pos rfl, if_pos (by omega), E.out]
              · rw [if_neg e]
                by_cases e2 : r + 1 ≤ j
                · rw [if_pos e2, if_pos (by omega)]
                · rw [if_neg e2, if_neg (by omega)]
            case measure => simp [intOf] <;> omega
  · have hw' : wdB L S = false := by simpa using hw
    have HW := Lib.hid hw'
    clear hw hw'
    go_enter Try.func14, Try.ntmps14
    go_wp2_with fail
    refine (implValid_any _ _ _ _ _ _ L S _ hlc hm hlc' hm' H.out H'.out HA.out HA'.out).mono ?_
    rintro e w1 ⟨rfl, b1⟩
    rw [wv_wd, HW.out]
    have HB1 := Lib.hid b1
    clear b1
    go_wp2_with fail
    go_ret2
    exact TightPost.no (tk_wd HW.out) HB1.out
end Go.Proofs.Yteflaibcldknmaa
