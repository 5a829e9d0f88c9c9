/- The walk of FnWindows. -/
import Derived.Test.YtdojjljlegandaaWinI
import Derived.Test.YtdojjljlegandaaTightB
import Derived.Test.YtdojjljlegandaaTightI
import Derived.Test.YtdojjljlegandaaSameW
import Derived.Test.YtdojjljlegandaaDrawT
import Derived.Test.YtdojjljlegandaaCopyW
import Derived.Test.YtdojjljlegandaaStepA
namespace Go.Proofs.Ytdojjljlegandaa
open Go.RowKit
set_option linter.unusedVariables false
set_option linter.unusedSimpArgs false

theorem own_eA (W : World) : (W.alloc (.cells #[] 32)).ownsRow W.heap.size 32 2 (.slice (some ⟨W.heap.size, 0, none⟩) 0 0) 0 [] := copy_base W
theorem own_eB (W : World) (o : Obj) : ((W.alloc (.cells #[] 32)).alloc o).ownsRow W.heap.size 32 2 (.slice (some ⟨W.heap.size, 0, none⟩) 0 0) 0 [] := (copy_base W).alloc o
theorem own_eC (W : World) (o : Obj) : ((W.alloc o).alloc (.cells #[] 32)).ownsRow W.heap.size 32 2 (.slice (some ⟨W.heap.size + 1, 0, none⟩) 0 0) 0 [] := by
  have h := World.ownsRow_lit (base := W.heap.size) (e := 32) (size := 2) (W.alloc o) #[] 0 (by simp) (by unfold maxLen; omega) (by simp)
  simp only [World.size_alloc] at h
  exact h

theorem src_below {w W : World} {g n : Nat} {L : List (Int × Int)} (h : OwnF w g n (pr L)) (hL : L.length = n) (b : Below w.heap.size w W) : ∀ j u, (fl L)[j]? = some u → W.cell? ((⟨g, 0, none⟩ : Addr).add j) = some u := by
  intro j u hj
  have O := h.below b
  obtain ⟨h1, h2 | ⟨b', off, e, _, hc⟩⟩ := O.prs hL (fun _ _ => rfl)
  · have : L = [] := List.eq_nil_of_length_eq_zero (by omega)
    subst this
    simp [fl] at hj
  · cases e; exact prs_news hc j u hj

theorem news_new (W : World) : ∀ j u, [Value.int .i64 0, .int .i64 0][j]? = some u → (W.alloc (.cells #[.int .i64 0, .int .i64 0] 32)).cell? ((⟨W.heap.size, 0, none⟩ : Addr).add j) = some u := cell_two_new W _ _ _
theorem news_far {W W' : World} {blk : Nat} {r : Option Nat} (h : ∀ j u, [Value.int .i64 0, .int .i64 0][j]? = some u → W.cell? ((⟨blk, 0, none⟩ : Addr).add j) = some u) (g : W.grownBy W' r) (hl : blk < W.heap.size) (hr : some blk ≠ r) :
    ∀ j u, [Value.int .i64 0, .int .i64 0][j]? = some u → W'.cell? ((⟨blk, 0, none⟩ : Addr).add j) = some u := fun j u hj => by
  have := h j u hj
  rw [add_none] at this ⊢
  exact (World.cell?_of_block (g.block blk hl hr)).trans this
theorem news_alloc {W : World} {blk : Nat} {o : Obj} (h : ∀ j u, [Value.int .i64 0, .int .i64 0][j]? = some u → W.cell? ((⟨blk, 0, none⟩ : Addr).add j) = some u) :
    ∀ j u, [Value.int .i64 0, .int .i64 0][j]? = some u → (W.alloc o).cell? ((⟨blk, 0, none⟩ : Addr).add j) = some u := fun j u hj => cell_alloc_of (h j u hj)

theorem wd_take {L S : List (Int × Int)} {k : Nat} (h : wdB L S = true) (h1 : 1 ≤ k) (hk : k ≤ L.length) : wdB (L.take k) (S.take (k - 1)) = true := by
  obtain ⟨w1, w2, w3, w4, w5⟩ := wd_true h
  have hl : (L.take k).length = k := by rw [List.length_take]; omega
  have hl2 : (S.take (k - 1)).length = k - 1 := by rw [List.length_take]; omega
  refine wd_mk ⟨by omega, by omega, by omega, fun i hi => ?_, fun i hi => ?_⟩
  · rw [pr_take L k i (by omega)]; exact w4 i (by omega)
  · rw [pr_take S (k - 1) i (by omega)]; exact w5 i (by omega)
theorem wd_len_no {L S : List (Int × Int)} (h : S.length ≠ L.length - 1) : wdB L S = false := by
  cases q : wdB L S with
  | false => rfl
  | true => obtain ⟨_, _, w3, _, _⟩ := wd_true q; omega
theorem rg_neg {p : Int × Int} (h : p.1 < 0) : rgB p = false := by unfold rgB; simp; omega

theorem implValid_is (a a' : Option Addr) (len cap len' cap' : Nat) (L S : List (Int × Int)) (v : Bool) (w : World) (hlc : len ≤ cap) (hm : cap ≤ maxLen) (hlc' : len' ≤ cap') (hm' : cap' ≤ maxLen) (h : Prs w a len L) (h' : Prs w a' len' S) (ha : a ≠ none) (ha' : a' ≠ none) (hv : wdB L S = v) :
    Calls Try.prog 16 #[.slice a len cap, .slice a' len' cap'] w fun e w' => e = .returned (.bool v) ∧ Below w.heap.size w w' := by
  rw [← hv, ← wv_wd]
  exact implValid_any a a' len cap len' cap' L S w hlc hm hlc' hm' h h' ha ha'

theorem own_zero {w : World} {B : Nat} {v : Value} {m : Nat} {xs : List Value} (h : w.ownsRow B 32 2 v (0 + m) ([] ++ xs)) : w.ownsRow B 32 2 v m xs := by simpa using h
theorem own_snoc0 {w : World} {B : Nat} {v : Value} {m : Nat} {S : List (Int × Int)} (h : w.ownsRow B 32 2 v (m + 1) (fl S ++ [.int .i64 0, .int .i64 0])) : w.ownsRow B 32 2 v (m + 1) (fl (S ++ [(0, 0)])) := by rw [fl_snoc]; exact h

set_option maxRecDepth 100000 in
set_option maxHeartbeats 3200000 in
theorem fnWindows_walk (a : Option Addr) (len cap : Nat) (zs : List Int) (a2 : Option Addr) (mlen mcap : Nat) (zs2 : List Int) (w : World) (h : IsRow .u8 w a len cap zs) (h' : IsRow .u8 w a2 mlen mcap zs2) :
    Calls Try.prog 4 #[.slice a len cap, .slice a2 mlen mcap] w fun e w' => e = .returned (.bool true) ∧ Below w.heap.size w w' := by
  obtain ⟨hc, hm⟩ := h.le
  have hm' := hm
  unfold maxLen at hm'
  obtain ⟨hc', hn⟩ := h'.le
  have hn' := hn
  unfold maxLen at hn'
  have h0 := Lib.hid h.bytes
  clear h h'
  by_cases hl : 1048576 < len
  · have d1 : decide ((1048576 : Int) < (len : Int)) = true := by simp; omega
    go_enter Try.func4, Try.ntmps4
    go_wp2_with fail
    go_ret
    exact ⟨rfl, Below.refl _ _⟩
  · have d1 : decide ((1048576 : Int) < (len : Int)) = false := by simp; omega
    by_cases hl' : 1048576 < mlen
    · have d2 : decide ((1048576 : Int) < (mlen : Int)) = true := by simp; omega
      go_enter Try.func4, Try.ntmps4
      go_wp2_with fail
      go_ret
      exact ⟨rfl, Below.refl _ _⟩
    · have d2 : decide ((1048576 : Int) < (mlen : Int)) = false := by simp; omega
      go_enter Try.func4, Try.ntmps4
      go_wp2_with fail
      refine (drawValid_any _ _ _ _ hc hm h0.out).mono ?_
      rintro e w1 ⟨g, g', n, m, c, c', L, S, rfl, n1, n5, m6, hnc, hmc, hcm, hcm', hL, hS, O1, O2, hgg, hg, hg', b1⟩
      have HL := Lib.hid hL
      have HS := Lib.hid hS
      have x3 : c ≤ 9223372036854775807 := hcm
      have x4 : c' ≤ 9223372036854775807 := hcm'
      have OL := Lib.hid O1
      have OS := Lib.hid O2
      have HB := Lib.hid b1
      clear hL hS O1 O2 b1 h0
      go_wp2_with fail
      refine (implValid_any _ _ _ _ _ _ L S _ hnc hcm hmc hcm' (OL.out.prs HL.out (fun _ _ => rfl)) (OS.out.prs HS.out (fun _ _ => rfl)) (by simp) (by simp)).mono ?_
      rintro e w2 ⟨rfl, b2⟩
      replace OL := Lib.hid (OL.out.below b2)
      replace OS := Lib.hid (OS.out.below b2)
      replace HB := Lib.hid (Below.step0 HB.out b2)
      clear b2
      go_wp2_with fail
      refine (specValid_any _ _ _ _ _ _ L S _ hnc hcm hmc hcm' (OL.out.prs HL.out (fun _ _ => rfl)) (OS.out.prs HS.out (fun _ _ => rfl))).mono ?_
      rintro e w3 ⟨rfl, d3, hw3⟩
      have b3 : Below w2.heap.size w2 w3 := by rw [hw3]; exact below_drewN (Below.refl _ _) d3
      replace OL := Lib.hid (OL.out.below b3)
      replace OS := Lib.hid (OS.out.below b3)
      replace HB := Lib.hid (Below.step0 HB.out b3)
      clear b3 hw3
      have t1 : (wvB L S != wvB L S) = false := by simp
      by_cases hv : wvB L S = true
      rotate_left
      · have hv' : wvB L S = false := by simpa using hv
        rw [hv']
        clear t1 hv hv'
        go_wp2_with fail
        go_ret
        exact ⟨rfl, HB.out⟩
      rw [hv]
      have HV := Lib.hid ((wv_wd L S).symm.trans hv)
      clear t1 hv
      obtain ⟨i0, hi, hz0, hz1, hz2⟩ := info_parts infoWindow
      obtain ⟨k0, hk0, ek, ek2⟩ := mod_ix mlen n n1
      have hkn : 1 + k0 ≤ n := by omega
      have W := wd_true HV.out
      have hmn1 : n ≤ m + 1 := by have := HS.out; have := HL.out; omega
      have hmn2 : m + 1 ≤ n := by have := HS.out; have := HL.out; omega
      have V1 := Lib.hid (show wdB (L.take (1 + k0)) (S.take k0) = true by have q := wd_take (k := 1 + k0) HV.out (by omega) (by rw [HL.out]; exact hkn); rw [show 1 + k0 - 1 = k0 by omega] at q; exact q)
      have V2 := Lib.hid (show wdB L (S ++ [(0, 0)]) = false from wd_len_no (by rw [List.length_append, HS.out, HL.out]; simp; omega))
      have V3 := Lib.hid (show wdB (L.set k0 (-1, (pr L k0).2)) S = false from wd_set_no (by rw [HL.out]; exact hk0) (rg_neg (by dsimp only; omega)))
      clear W ek2
      go_wp2_with (at_builtin; refine wpList_append_own _ rfl _ _ 25 rfl w3.heap.size 32 i0 (.agg #[.int .i64 0, .int .i64 0]) 2 16 Try.underlying25 hi hz0 hz1 hz2 rfl (by decide) _ _ _ rfl (copy_base w3) ⟨g, 0, none⟩ _ _ (fl L) rfl (by rw [fl_len, HL.out]) (copy_src OL.out HL.out n1) (fl_one _) (by unfold maxLen; omega) (by omega) (by simp) ?_)
      intro vx w4 oxx gxx _
      obtain ⟨gx, cx, rfl, hcx, hmx, ox4, hgx, b4⟩ := copy_open n1 HL.out oxx gxx
      clear oxx gxx
      have x6 : cx ≤ 9223372036854775807 := hmx
      have hgw : w.heap.size ≤ gx := Nat.le_trans HB.out.size hgx
      have hgs : gx ≠ g' := Nat.ne_of_gt (Nat.lt_of_lt_of_le OS.out.1 hgx)
      have hgl : gx ≠ g := Nat.ne_of_gt (Nat.lt_of_lt_of_le OL.out.1 hgx)
      replace OL := Lib.hid (OL.out.below b4)
      replace OS := Lib.hid (OS.out.below b4)
      replace HB := Lib.hid (Below.step0 HB.out b4)
      obtain ⟨r1, r2, r3, r4⟩ := ox4.2 k0 hk0
      have hlx := ox4.1
      have OX := Lib.hid (ox4.put0 HL.out k0 hk0 (-1))
      replace OL := Lib.hid (OL.out.far (p := ⟨gx, k0 * 2, none⟩) hgl (.int .i64 (-1)))
      replace OS := Lib.hid (OS.out.far (p := ⟨gx, k0 * 2, none⟩) hgs (.int .i64 (-1)))
      replace HB := Lib.hid (HB.out.setCell (p := ⟨gx, k0 * 2, none⟩) hgw (.int .i64 (-1)))
      have i1 : (0 : Int) ≤ (k0 : Int) := by omega
      have i2 : (k0 : Int) < (n : Int) := by omega
      clear ox4 b4 hgl hgs
      go_wp2_with fail
      clear r1 r2 r3 r4
      generalize (w4.setCell ⟨gx, k0 * 2, none⟩ (.int .i64 (-1))) = w5 at *
      have a1 : IntKind.i64.wrap ((1 : Int) + (k0 : Int) - 1) = (k0 : Int) := by rw [IntWalk.i64_in _ (by omega)]; omega
      have a2 : IntKind.i64.wrap (k0 : Int) = (k0 : Int) := IntWalk.i64_in _ (by omega)
      have i3 : (0 : Int) ≤ (1 : Int) + (k0 : Int) := by omega
      have i4 : (1 : Int) + (k0 : Int) ≤ (n : Int) := by omega
      have i5 : (1 : Int) + (k0 : Int) ≤ (c : Int) := by omega
      have i7 : (k0 : Int) ≤ (m : Int) := by omega
      have i8 : (k0 : Int) ≤ (c' : Int) := by omega
      have i9 : ((1 : Int) + (k0 : Int)).toNat = 1 + k0 := by omega
      have HLK := Lib.hid (show (L.take (1 + k0)).length = 1 + k0 by rw [List.length_take, HL.out]; omega)
      have HSK := Lib.hid (show (S.take k0).length = k0 by rw [List.length_take, HS.out]; omega)
      have PL := Lib.hid (show ∀ W, Below w5.heap.size w5 W → Prs W (some ⟨g, 0, none⟩) (1 + k0) (L.take (1 + k0)) from fun W b => ((OL.out.take (1 + k0) hkn).prs HLK.out (fun _ _ => rfl)).below b)
      have PS := Lib.hid (show ∀ W, Below w5.heap.size w5 W → Prs W (some ⟨g', 0, none⟩) k0 (S.take k0) from fun W b => ((OS.out.take k0 (by omega)).prs HSK.out (fun _ _ => rfl)).below b)
      have kc : k0 ≤ c' := by omega
      have HS1 := Lib.hid (show (S ++ [(0, 0)]).length = m + 1 by rw [List.length_append, HS.out]; rfl)
      have HLX := Lib.hid (show (L.set k0 (-1, (pr L k0).2)).length = n by rw [List.length_set]; exact HL.out)
      have kc2 : 1 + k0 ≤ c := by omega
      go_region_held3 (fun w' => Below w5.heap.size w5 w')
        (first | assumption | exact (Below.refl _ _).drew | exact Below.step0 (by assumption) b6 | exact Below.step0 (by assumption) b9 | exact Below.step0 (by assumption) b10 | exact Below.al (by assumption))
        (first | ((go_at_call 16; (with_reducible refine (implValid_is _ _ (1 + k0) c k0 c' (L.take (1 + k0)) (S.take k0) true _ kc2 hcm kc hcm' (PL.out _ (show Below w5.heap.size w5 _ from by assumption)) (PS.out _ (show Below w5.heap.size w5 _ from by assumption)) (by simp) (by simp) V1.out).mono ?_); rintro e w6 ⟨rfl, b6⟩; have s6 : w5.heap.size ≤ w6.heap.size := b6.size)) | (refine step_append_at (by rfl) _ _ 25 (by rfl) w6.heap.size 32 i0 (.agg #[.int .i64 0, .int .i64 0]) 2 16 Try.underlying25 hi hz0 hz1 hz2 rfl (by omega) (.slice (some ⟨w6.heap.size, 0, none⟩) 0 0) 0 [] (by rfl) (own_eA w6) ⟨g', 0, none⟩ m c' (fl S) (by rfl) (by rw [fl_len, HS.out]) (src_below OS.out HS.out (show Below w5.heap.size w5 _ from by assumption)) (fl_one _) (by unfold maxLen; omega) (by omega) (by simp only [World.size_alloc]; omega) ?_; intro v7 w7 o7 g7 l7; have b7 : Below w5.heap.size w5 w7 := Below.gro (show Below w5.heap.size w5 _ from by assumption) g7 (Below.size (show Below w5.heap.size w5 _ from by assumption)) (fun j hj => by simp [Value.ownBlock] at hj; omega); have s7 : w6.heap.size ≤ w7.heap.size := Nat.le_trans (by simp only [World.size_alloc]; omega) g7.size; have O7 := Lib.hid (own_zero o7); clear o7; skip) | (refine step_append_at (by rfl) _ _ 25 (by rfl) w6.heap.size 32 i0 (.agg #[.int .i64 0, .int .i64 0]) 2 16 Try.underlying25 hi hz0 hz1 hz2 rfl (by omega) (.slice (some ⟨w6.heap.size, 0, none⟩) 0 0) 0 [] (by rfl) (own_eB w6 _) ⟨g', 0, none⟩ m c' (fl S) (by rfl) (by rw [fl_len, HS.out]) (src_below OS.out HS.out (show Below w5.heap.size w5 _ from by assumption)) (fl_one _) (by unfold maxLen; omega) (by omega) (by simp only [World.size_alloc]; omega) ?_; intro v7 w7 o7 g7 l7; have b7 : Below w5.heap.size w5 w7 := Below.gro (show Below w5.heap.size w5 _ from by assumption) g7 (Below.size (show Below w5.heap.size w5 _ from by assumption)) (fun j hj => by simp [Value.ownBlock] at hj; omega); have s7 : w6.heap.size ≤ w7.heap.size := Nat.le_trans (by simp only [World.size_alloc]; omega) g7.size; have O7 := Lib.hid (own_zero o7); clear o7; have q7 := news_far (news_new (w6.alloc _)) g7 (by simp) (by simp [Value.ownBlock]); simp only [World.size_alloc] at q7; have N7 := Lib.hid q7; clear q7) | (refine step_append_at (by rfl) _ _ 25 (by rfl) w6.heap.size 32 i0 (.agg #[.int .i64 0, .int .i64 0]) 2 16 Try.underlying25 hi hz0 hz1 hz2 rfl (by omega) (.slice (some ⟨w6.heap.size + 1, 0, none⟩) 0 0) 0 [] (by rfl) (own_eC w6 _) ⟨g', 0, none⟩ m c' (fl S) (by rfl) (by rw [fl_len, HS.out]) (src_below OS.out HS.out (show Below w5.heap.size w5 _ from by assumption)) (fl_one _) (by unfold maxLen; omega) (by omega) (by simp only [World.size_alloc]; omega) ?_; intro v7 w7 o7 g7 l7; have b7 : Below w5.heap.size w5 w7 := Below.gro (show Below w5.heap.size w5 _ from by assumption) g7 (Below.size (show Below w5.heap.size w5 _ from by assumption)) (fun j hj => by simp [Value.ownBlock] at hj; omega); have s7 : w6.heap.size ≤ w7.heap.size := Nat.le_trans (by simp only [World.size_alloc]; omega) g7.size; have O7 := Lib.hid (own_zero o7); clear o7; have N7 := Lib.hid (news_far (news_alloc (news_new w6)) g7 (by simp; omega) (by simp [Value.ownBlock]))) | (refine step_append_at (by rfl) _ _ 25 (by rfl) w6.heap.size 32 i0 (.agg #[.int .i64 0, .int .i64 0]) 2 16 Try.underlying25 hi hz0 hz1 hz2 rfl (by omega) v7 m (fl S) (by rfl) (O7.out.alloc _) ⟨w7.heap.size, 0, none⟩ 1 1 [.int .i64 0, .int .i64 0] (by rfl) (by rfl) (news_new w7) (two_one _ _) (by unfold maxLen; omega) (by omega) (by first | omega | (simp; omega)) ?_; intro v8 w8 o8 g8 l8; have b8 : Below w5.heap.size w5 w8 := Below.gro (show Below w5.heap.size w5 _ from by assumption) g8 (Below.size (show Below w5.heap.size w5 _ from by assumption)) (fun j hj => by have := (O7.out.lt j hj).1; omega); obtain ⟨g9, c9, rfl, hc9, hm9, O9, hg9⟩ := own_val (own_snoc0 o8) (by rw [List.length_append, HS.out]; rfl) (row_some o8 (by omega)); have Q9 := Lib.hid O9; clear o8 g8 l8 O9) | (refine step_append_at (by rfl) _ _ 25 (by rfl) w6.heap.size 32 i0 (.agg #[.int .i64 0, .int .i64 0]) 2 16 Try.underlying25 hi hz0 hz1 hz2 rfl (by omega) v7 m (fl S) (by rfl) O7.out ⟨w6.heap.size + 1, 0, none⟩ 1 1 [.int .i64 0, .int .i64 0] (by rfl) (by rfl) N7.out (two_one _ _) (by unfold maxLen; omega) (by omega) (by first | omega | (simp; omega)) ?_; intro v8 w8 o8 g8 l8; have b8 : Below w5.heap.size w5 w8 := Below.gro (show Below w5.heap.size w5 _ from by assumption) g8 (Below.size (show Below w5.heap.size w5 _ from by assumption)) (fun j hj => by have := (O7.out.lt j hj).1; omega); obtain ⟨g9, c9, rfl, hc9, hm9, O9, hg9⟩ := own_val (own_snoc0 o8) (by rw [List.length_append, HS.out]; rfl) (row_some o8 (by omega)); have Q9 := Lib.hid O9; clear o8 g8 l8 O9) | (refine step_append_at (by rfl) _ _ 25 (by rfl) w6.heap.size 32 i0 (.agg #[.int .i64 0, .int .i64 0]) 2 16 Try.underlying25 hi hz0 hz1 hz2 rfl (by omega) v7 m (fl S) (by rfl) O7.out ⟨w6.heap.size, 0, none⟩ 1 1 [.int .i64 0, .int .i64 0] (by rfl) (by rfl) N7.out (two_one _ _) (by unfold maxLen; omega) (by omega) (by first | omega | (simp; omega)) ?_; intro v8 w8 o8 g8 l8; have b8 : Below w5.heap.size w5 w8 := Below.gro (show Below w5.heap.size w5 _ from by assumption) g8 (Below.size (show Below w5.heap.size w5 _ from by assumption)) (fun j hj => by have := (O7.out.lt j hj).1; omega); obtain ⟨g9, c9, rfl, hc9, hm9, O9, hg9⟩ := own_val (own_snoc0 o8) (by rw [List.length_append, HS.out]; rfl) (row_some o8 (by omega)); have Q9 := Lib.hid O9; clear o8 g8 l8 O9) | ((go_at_call 16; (with_reducible refine (implValid_is _ _ n c (m + 1) c9 L (S ++ [(0, 0)]) false _ hnc hcm hc9 hm9 ((OL.out.below (show Below w5.heap.size w5 _ from by assumption)).prs HL.out (fun _ _ => rfl)) (Q9.out.prs HS1.out (fun _ _ => rfl)) (by simp) (by simp) V2.out).mono ?_); rintro e w9 ⟨rfl, b9⟩)) | ((go_at_call 16; (with_reducible refine (implValid_is _ _ n cx m c' (L.set k0 (-1, (pr L k0).2)) S false _ hcx hmx hmc hcm' ((OX.out.below (show Below w5.heap.size w5 _ from by assumption)).prs HLX.out (fun _ _ => rfl)) ((OS.out.below (show Below w5.heap.size w5 _ from by assumption)).prs HS.out (fun _ _ => rfl)) (by simp) (by simp) V3.out).mono ?_); rintro e w10 ⟨rfl, b10⟩)))
      all_goals
        have bz := (show Below w5.heap.size w5 _ from by assumption)
        go_wp2_with fail
        go_ret
        exact ⟨rfl, Below.step0 HB.out bz⟩
end Go.Proofs.Ytdojjljlegandaa
