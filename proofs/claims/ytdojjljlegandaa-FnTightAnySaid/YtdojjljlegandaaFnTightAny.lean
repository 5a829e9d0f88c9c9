/- The walk of FnTightAny. -/
import Derived.Test.YtdojjljlegandaaTightS
import Derived.Test.YtdojjljlegandaaTightI
import Derived.Test.YtdojjljlegandaaSameW
import Derived.Test.YtdojjljlegandaaDrawT
import Derived.Test.YtdojjljlegandaaCopyW
namespace Go.Proofs.Ytdojjljlegandaa
open Go.RowKit
set_option linter.unusedVariables false
set_option linter.unusedSimpArgs false

set_option maxRecDepth 100000 in
set_option maxHeartbeats 3200000 in
theorem fnTightAny_walk (a : Option Addr) (len cap : Nat) (zs : List Int) (a2 : Option Addr) (mlen mcap : Nat) (zs2 : List Int) (w : World) (h : IsRow .u8 w a len cap zs) (h' : IsRow .u8 w a2 mlen mcap zs2) :
    Calls Try.prog 6 #[.slice a len cap, .slice a2 mlen mcap] w fun e w' => e = .returned (.bool true) ∧ Below w.heap.size w w' := by
  obtain ⟨hc, hm⟩ := h.le
  have hm' := hm
  unfold maxLen at hm'
  obtain ⟨hc', hn⟩ := h'.le
  have hn' := hn
  unfold maxLen at hn'
  have h0 := Lib.hid h.bytes
  clear h h'
  by_cases hl : 1048576 < len
  · have d1 : decide ((1048576 : Int) < (len : Int)) = true := by simp; omega
    go_enter Try.func6, Try.ntmps6
    go_wp2_with fail
    go_ret
    exact ⟨rfl, Below.refl _ _⟩
  · have d1 : decide ((1048576 : Int) < (len : Int)) = false := by simp; omega
    by_cases hl' : 1048576 < mlen
    · have d2 : decide ((1048576 : Int) < (mlen : Int)) = true := by simp; omega
      go_enter Try.func6, Try.ntmps6
      go_wp2_with fail
      go_ret
      exact ⟨rfl, Below.refl _ _⟩
    · have d2 : decide ((1048576 : Int) < (mlen : Int)) = false := by simp; omega
      go_enter Try.func6, Try.ntmps6
      go_wp2_with fail
      refine (drawTight_any _ _ _ _ hc hm h0.out).mono ?_
      rintro e w1 ⟨g, g', n, m, c, c', L, S, rfl, n1, n5, m6, hnc, hmc, hcm, hcm', hL, hS, O1, O2, hgg, hg, hg', b1⟩
      have HL := Lib.hid hL
      have HS := Lib.hid hS
      have x3 : c ≤ 9223372036854775807 := hcm
      have x4 : c' ≤ 9223372036854775807 := hcm'
      have OL := Lib.hid O1
      have OS := Lib.hid O2
      have HB := Lib.hid b1
      clear hL hS O1 O2 b1 h0
      go_wp2_with fail
      refine (implTight_any _ _ _ _ _ _ L S _ hnc hcm hmc hcm' (OL.out.prs HL.out (fun _ _ => rfl)) (OS.out.prs HS.out (fun _ _ => rfl)) (by simp) (by simp)).mono ?_
      rintro e w2 ⟨a3, n3, c3, rfl, R2, hc3, hm3, b2, y2⟩
      replace OL := Lib.hid (OL.out.below b2)
      replace OS := Lib.hid (OS.out.below b2)
      replace HB := Lib.hid (Below.step0 HB.out b2)
      have HR := Lib.hid R2
      have HY := Lib.hid y2
      clear R2 b2 y2
      go_wp2_with fail
      refine (specTight_any _ _ _ _ _ _ L S _ hnc hcm hmc hcm' (OL.out.prs HL.out (fun _ _ => rfl)) (OS.out.prs HS.out (fun _ _ => rfl))).mono ?_
      rintro e w3 ⟨a4, n4, c4, rfl, R3, hc4, hm4, b3, y3⟩
      replace OL := Lib.hid (OL.out.below b3)
      replace OS := Lib.hid (OS.out.below b3)
      replace HB := Lib.hid (Below.step0 HB.out b3)
      replace HR := Lib.hid (HR.out.below b3)
      replace HY := Lib.hid (fun (q : tkB L S = true) => (HY.out q).imp fun g2 (z : _ ∧ _ ∧ _ ∧ _) => And.intro z.1 (And.intro z.2.1 (z.2.2.2.below b3)))
      have HR3 := Lib.hid R3
      clear R3 b3 y3
      have t1 : (tkB L S != tkB L S) = false := by simp
      go_wp2_with fail
      refine (sameWindows_b _ _ _ _ _ _ (tRes L S) (tRes L S) _ hc3 hm3 hc4 hm4 HR.out HR3.out).mono ?_
      rintro e w4 ⟨rfl, b4⟩
      rw [eqL_self]
      replace OL := Lib.hid (OL.out.below b4)
      replace OS := Lib.hid (OS.out.below b4)
      replace HB := Lib.hid (Below.step0 HB.out b4)
      replace HR := Lib.hid (HR.out.below b4)
      replace HR3 := Lib.hid (HR3.out.below b4)
      replace HY := Lib.hid (fun (q : tkB L S = true) => (HY.out q).imp fun g2 (z : _ ∧ _ ∧ _) => And.intro z.1 (And.intro z.2.1 (z.2.2.below b4)))
      clear b4
      by_cases hok : tkB L S = true
      rotate_left
      · have hok' : tkB L S = false := by simpa using hok
        rw [hok']
        clear t1 hok hok'
        go_wp2_with fail
        refine (sameWindows_b _ _ _ _ _ _ (tRes L S) (tRes L S) _ hc3 hm3 hc4 hm4 HR.out HR3.out).mono ?_
        rintro e w5 ⟨rfl, b5⟩
        rw [eqL_self]
        replace HB := Lib.hid (Below.step0 HB.out b5)
        clear b5
        go_wp2_with fail
        go_ret
        exact ⟨rfl, HB.out⟩
      rw [hok]
      obtain ⟨g2, rfl, hn3, ot⟩ := HY.out hok
      obtain rfl : n = n3 := (hn3.trans HL.out).symm
      have x5 : c3 ≤ 9223372036854775807 := hm3
      have OT := Lib.hid (show OwnF w4 g2 n (pr (twl L S)) by rw [← HL.out]; exact ot)
      have HK := Lib.hid hok
      have OT0 := OT
      have OS0 := OS
      clear t1 ot hok HR HR3 HY hn3
      obtain ⟨i0, hi, hz0, hz1, hz2⟩ := info_parts infoWindow
      obtain ⟨k, hk, ek, ek2⟩ := mod_ix mlen n n1
      have hkL : k < L.length := by rw [HL.out]; exact hk
      have G := (tk_true HK.out).2 k hkL
      have BD := tw_bd (tk_true HK.out).1 k hkL
      rw [HL.out] at G BD
      obtain ⟨p1, p2, p3, p4⟩ := OT.out.2 k hk
      rw [twl_pr L S k hkL, HL.out] at p1 p2
      have TA := Lib.hid (fun (age : Int) (h1 : (tw L S L.length k).1 ≤ age) (h2 : age ≤ (tw L S L.length k).2) => tk_any HK.out hkL h1 h2)
      have LE := Lib.hid (show (tw L S L.length k) = tw L S n k by rw [HL.out])
      rw [LE.out] at TA
      generalize (tw L S n k).1 = u1 at *
      generalize (tw L S n k).2 = u2 at *
      obtain ⟨dd, hdd⟩ : ∃ dd : Int, u2 - u1 + 1 = dd := ⟨_, rfl⟩
      have hd : 1 ≤ dd := by omega
      have hd2 : dd ≤ u2 - u1 + 1 := by omega
      have hd3 : u2 - u1 + 1 ≤ dd := by omega
      have m0 := Int.emod_nonneg ((mlen / 12 : Nat) : Int) (show dd ≠ 0 by omega)
      have m1 := Int.emod_lt_of_pos ((mlen / 12 : Nat) : Int) (show 0 < dd by omega)
      have t1 : (mlen : Int).tdiv 12 = ((mlen / 12 : Nat) : Int) := by rw [Int.tdiv_eq_ediv_of_nonneg (by omega)]; omega
      have t2 : ((mlen / 12 : Nat) : Int).tmod dd = ((mlen / 12 : Nat) : Int) % dd := Int.tmod_eq_emod_of_nonneg (by omega)
      have hq : mlen / 12 ≤ mlen := Nat.div_le_self _ _
      generalize mlen / 12 = qq at *
      generalize (qq : Int) % dd = rr at *
      have a1 : IntKind.i64.wrap (u2 - u1) = u2 - u1 := IntWalk.i64_in _ (by omega)
      have a2 : IntKind.i64.wrap (u2 - u1 + 1) = dd := by rw [IntWalk.i64_in _ (by omega)]; exact hdd
      have a3 : IntKind.i64.wrap (qq : Int) = (qq : Int) := IntWalk.i64_in _ (by omega)
      have a4 : IntKind.i64.wrap (u1 + rr) = u1 + rr := IntWalk.i64_in _ (by omega)
      have z0 : (dd == 0) = false := by simp; omega
      have i1 : (0 : Int) ≤ (k : Int) := by omega
      have i2 : (k : Int) < (n : Int) := by omega
      have A := Lib.hid (TA.out (u1 + rr) (by omega) (by omega))
      clear G BD TA LE hdd hd2 hd3 m0 m1 hq ek2 OT0 OS0
      go_wp2_with fail
      go_quiet (fail)
      clear a1 a2 a3 a4 z0 t1 t2 p1 p2 p3 p4
      replace OL := Lib.hid (OL.out.below (below_drewN (Below.refl _ _) nq))
      replace OS := Lib.hid (OS.out.below (below_drewN (Below.refl _ _) nq))
      replace HB := Lib.hid (below_drewN HB.out nq)
      clear OT
      generalize w4.drewN nq = w5 at *
      generalize u1 + rr = age at *
      go_wp2_with (at_builtin; refine wpList_append_own _ rfl _ _ 25 rfl w5.heap.size 32 i0 (.agg #[.int .i64 0, .int .i64 0]) 2 16 Try.underlying25 hi hz0 hz1 hz2 rfl (by decide) _ _ _ rfl (copy_base w5) ⟨g, 0, none⟩ _ _ (fl L) rfl (by rw [fl_len, HL.out]) (copy_src OL.out HL.out n1) (fl_one _) (by unfold maxLen; omega) (by omega) (by simp) ?_)
      intro vx w6 oxx gxx _
      obtain ⟨gx, cx, rfl, hcx, hmx, ox6, hgx, b6⟩ := copy_open n1 HL.out oxx gxx
      clear oxx gxx
      have x6 : cx ≤ 9223372036854775807 := hmx
      have hgw : w.heap.size ≤ gx := Nat.le_trans HB.out.size hgx
      have hgs : gx ≠ g' := Nat.ne_of_gt (Nat.lt_of_lt_of_le OS.out.1 hgx)
      replace OS := Lib.hid (OS.out.below b6)
      replace HB := Lib.hid (Below.step0 HB.out b6)
      obtain ⟨r1, r2, r3, r4⟩ := ox6.2 k hk
      have hlx := ox6.1
      have OX := Lib.hid (ox6.put HL.out k hk (age, age))
      have OS2 := Lib.hid ((OS.out.far (p := ⟨gx, k * 2, none⟩) hgs (.int .i64 age)).far (p := ⟨gx, k * 2 + 1, none⟩) hgs (.int .i64 age))
      have HB2 := Lib.hid ((HB.out.setCell (p := ⟨gx, k * 2, none⟩) hgw (.int .i64 age)).setCell (p := ⟨gx, k * 2 + 1, none⟩) hgw (.int .i64 age))
      have HLX := Lib.hid (show (L.set k (age, age)).length = n by rw [List.length_set]; exact HL.out)
      clear ox6 b6 OL OS HB
      go_wp2_with fail
      refine (implTight_any _ _ _ _ _ _ (L.set k (age, age)) S _ hcx hmx hmc hcm' (OX.out.prs HLX.out (fun _ _ => rfl)) (OS2.out.prs HS.out (fun _ _ => rfl)) (by simp) (by simp)).mono ?_
      rintro e w7 ⟨a7, n7, c7, rfl, R7, hc7, hm7, b7, y7⟩
      have x7 : c7 ≤ 9223372036854775807 := hm7
      obtain ⟨gy, rfl, hn7, _, oy⟩ := y7 A.out.1
      obtain rfl : n = n7 := (hn7.trans HLX.out).symm
      rw [A.out.1]
      have OY := Lib.hid (show OwnF w7 gy n (pr (twl (L.set k (age, age)) S)) by rw [← HLX.out]; exact oy)
      replace HB2 := Lib.hid (Below.step0 HB2.out b7)
      obtain ⟨q1, q2, q3, q4⟩ := OY.out.2 k hk
      have A2 := A.out.2
      rw [twl_pr (L.set k (age, age)) S k (by rw [HLX.out]; exact hk), HLX.out] at q1 q2
      rw [HL.out] at A2
      rw [A2] at q1 q2
      dsimp only at q1 q2
      clear A2 A R7 b7 y7 oy OX OS2 hn7 r1 r2 r3 r4
      go_wp2_with fail
      go_ret
      exact ⟨rfl, HB2.out⟩
end Go.Proofs.Ytdojjljlegandaa
