/- The walk of FnTightShift. -/
import Derived.Test.YtdojjljlegandaaTightS
import Derived.Test.YtdojjljlegandaaTightI
import Derived.Test.YtdojjljlegandaaSameW
import Derived.Test.YtdojjljlegandaaDrawT
import Derived.Test.YtdojjljlegandaaCopyW
import Derived.Deep.RegionHeld3
import Derived.Deep.AppendLies
namespace Go.Proofs.Ytdojjljlegandaa
open Go.RowKit
set_option linter.unusedVariables false
set_option linter.unusedSimpArgs false

theorem take_snoc_pr (M : List (Int × Int)) (k : Nat) (h : k < M.length) : M.take (k + 1) = M.take k ++ [pr M k] := by
  rw [List.take_succ_eq_append_getElem h]
  unfold pr
  rw [List.getD_eq_getElem?_getD, List.getElem?_eq_getElem h]
  rfl
theorem pr_map5 (L : List (Int × Int)) (k : Nat) (h : k < L.length) : pr (L.map fun p => (p.1 + 5, p.2 + 5)) k = ((pr L k).1 + 5, (pr L k).2 + 5) := by
  unfold pr
  rw [List.getD_eq_getElem?_getD, List.getElem?_map, List.getElem?_eq_getElem h, List.getD_eq_getElem?_getD, List.getElem?_eq_getElem h]
  rfl

set_option maxRecDepth 100000 in
set_option maxHeartbeats 3200000 in
theorem fnTightShift_walk (a : Option Addr) (len cap : Nat) (zs : List Int) (w : World) (h : IsRow .u8 w a len cap zs) :
    Calls Try.prog 9 #[.slice a len cap] w fun e w' => e = .returned (.bool true) ∧ Below w.heap.size w w' := by
  obtain ⟨hc, hm⟩ := h.le
  have hm' := hm
  unfold maxLen at hm'
  have h0 := Lib.hid h.bytes
  clear h
  by_cases hl : 1048576 < len
  · go_enter Try.func9, Try.ntmps9
    go_wp2_with fail
    go_ret
    exact ⟨rfl, Below.refl _ _⟩
  · go_enter Try.func9, Try.ntmps9
    go_wp2_with fail
    refine (drawTight_any _ _ _ _ hc hm h0.out).mono ?_
    rintro e w1 ⟨g, g', n, m, c, c', L, S, rfl, n1, n5, m6, hnc, hmc, hcm, hcm', hL, hS, O1, O2, hgg, hg, hg', b1⟩
    have HL := Lib.hid hL
    have HS := Lib.hid hS
    have x3 : c ≤ 9223372036854775807 := hcm
    have x4 : c' ≤ 9223372036854775807 := hcm'
    have OL := Lib.hid O1
    have OS := Lib.hid O2
    have HB := Lib.hid b1
    clear hL hS O1 O2 b1 h0
    go_wp2_with fail
    refine (implTight_any _ _ _ _ _ _ L S _ hnc hcm hmc hcm' (OL.out.prs HL.out (fun _ _ => rfl)) (OS.out.prs HS.out (fun _ _ => rfl)) (by simp) (by simp)).mono ?_
    rintro e w2 ⟨a3, n3, c3, rfl, R2, hc3, hm3, b2, y2⟩
    replace OL := Lib.hid (OL.out.below b2)
    replace OS := Lib.hid (OS.out.below b2)
    replace HB := Lib.hid (Below.step0 HB.out b2)
    have HR := Lib.hid R2
    have HY := Lib.hid y2
    clear R2 b2 y2
    go_wp2_with fail
    refine (specTight_any _ _ _ _ _ _ L S _ hnc hcm hmc hcm' (OL.out.prs HL.out (fun _ _ => rfl)) (OS.out.prs HS.out (fun _ _ => rfl))).mono ?_
    rintro e w3 ⟨a4, n4, c4, rfl, R3, hc4, hm4, b3, y3⟩
    replace OL := Lib.hid (OL.out.below b3)
    replace OS := Lib.hid (OS.out.below b3)
    replace HB := Lib.hid (Below.step0 HB.out b3)
    replace HR := Lib.hid (HR.out.below b3)
    replace HY := Lib.hid (fun (q : tkB L S = true) => (HY.out q).imp fun g2 (z : _ ∧ _ ∧ _ ∧ _) => And.intro z.1 (And.intro z.2.1 (z.2.2.2.below b3)))
    have HR3 := Lib.hid R3
    clear R3 b3 y3
    have t1 : (tkB L S != tkB L S) = false := by simp
    go_wp2_with fail
    refine (sameWindows_b _ _ _ _ _ _ (tRes L S) (tRes L S) _ hc3 hm3 hc4 hm4 HR.out HR3.out).mono ?_
    rintro e w4 ⟨rfl, b4⟩
    rw [eqL_self]
    replace OL := Lib.hid (OL.out.below b4)
    replace OS := Lib.hid (OS.out.below b4)
    replace HB := Lib.hid (Below.step0 HB.out b4)
    replace HR := Lib.hid (HR.out.below b4)
    replace HR3 := Lib.hid (HR3.out.below b4)
    replace HY := Lib.hid (fun (q : tkB L S = true) => (HY.out q).imp fun g2 (z : _ ∧ _ ∧ _) => And.intro z.1 (And.intro z.2.1 (z.2.2.below b4)))
    clear b4
    by_cases hok : tkB L S = true
    rotate_left
    · have hok' : tkB L S = false := by simpa using hok
      rw [hok']
      clear t1 hok hok'
      go_wp2_with fail
      refine (sameWindows_b _ _ _ _ _ _ (tRes L S) (tRes L S) _ hc3 hm3 hc4 hm4 HR.out HR3.out).mono ?_
      rintro e w5 ⟨rfl, b5⟩
      rw [eqL_self]
      replace HB := Lib.hid (Below.step0 HB.out b5)
      clear b5
      go_wp2_with fail
      go_ret
      exact ⟨rfl, HB.out⟩
    rw [hok]
    obtain ⟨g2, rfl, hn3, ot⟩ := HY.out hok
    obtain rfl : n = n3 := (hn3.trans HL.out).symm
    have x5 : c3 ≤ 9223372036854775807 := hm3
    have OT := Lib.hid (show OwnF w4 g2 n (pr (twl L S)) by rw [← HL.out]; exact ot)
    have HK := Lib.hid hok
    have OT0 := OT
    have OS0 := OS
    clear t1 ot hok HR HR3 HY hn3
    obtain ⟨i0, hi, hz0, hz1, hz2⟩ := info_parts infoWindow
    obtain ⟨M, hM⟩ : ∃ M, M = L.map fun p => (p.1 + 5, p.2 + 5) := ⟨_, rfl⟩
    have HML := Lib.hid (show M.length = n by rw [hM, List.length_map]; exact HL.out)
    have HMP := Lib.hid (show ∀ k, k < n → pr M k = ((pr L k).1 + 5, (pr L k).2 + 5) from fun k hk => by rw [hM]; exact pr_map5 L k (by rw [HL.out]; exact hk))
    have HM := Lib.hid hM
    have hgl := OL.out.1
    have hgs := OS.out.1
    have hgt := OT.out.1
    clear hM OT0 OS0
    go_wp2_with fail
    go_loopw [9, 10] (fun v i wr => ∃ k : Nat, i = .int .i64 k ∧ k ≤ n ∧ wr.ownsRow w4.heap.size 32 2 v k (fl (M.take k)) ∧ Below w4.heap.size w4 wr) (fun _ i _ => n - (intOf i).toNat)
    case atStart => exact ⟨0, rfl, Nat.zero_le _, copy_base w4, (Below.refl _ _).alloc (Nat.le_refl _) _⟩
    case round =>
      obtain ⟨k, rfl, hk, ro, rb⟩ := hrel
      by_cases hlt : k < n
      · obtain ⟨q1, q2, q3, q4⟩ := (OL.out.below rb).2 k hlt
        have Z := wd_pr (tk_true HK.out).1 (k := k) (by rw [HL.out]; exact hlt)
        have SN := Lib.hid (take_snoc_pr M k (by rw [HML.out]; exact hlt))
        rw [HMP.out k hlt] at SN
        generalize (pr L k).1 = z1 at *
        generalize (pr L k).2 = z2 at *
        have a1 : IntKind.i64.wrap (z1 + 5) = z1 + 5 := IntWalk.i64_in _ (by omega)
        have a2 : IntKind.i64.wrap (z2 + 5) = z2 + 5 := IntWalk.i64_in _ (by omega)
        have i1 : (0 : Int) ≤ (k : Int) := by omega
        have i2 : (k : Int) < (n : Int) := by omega
        have ag : u9.ownBlock ≠ some g := fun q => by have := (ro.lt g q).1; omega
        have hgr : g < wr.heap.size := Nat.lt_of_lt_of_le hgl rb.size
        have HO := Lib.hid ro
        have HR := Lib.hid rb
        clear ro rb Z
        go_wp2_with fail
        go_region_held3 (fun w' => w'.cell? ⟨g, k * 2, none⟩ = some (.int .i64 z1) ∧ w'.cell? ⟨g, k * 2 + 1, none⟩ = some (.int .i64 z2))
          (first | go_keep | (go_split_ands; refine ⟨?_, ?_⟩ <;> (rw [hgrow.cell_far _ (by show g < (wr.alloc _).heap.size; simp; omega) (Ne.symm ag)]; assumption)))
          ((refine step_append_lies _ (by rfl) _ _ _ (by rfl) w4.heap.size 32 i0 _ 2 16 Try.underlying25 hi hz0 hz1 hz2 rfl (by omega) u9 k (fl (M.take k)) (by rfl) ((HO.out.alloc _).drew) ⟨wr.heap.size, 0, none⟩ 1 1 [.int .i64 (z1 + 5), .int .i64 (z2 + 5)] (by rfl) (by rfl) (World.news_of_block (cs := #[.int .i64 (z1 + 5), .int .i64 (z2 + 5)]) (t := 32) (fr := (0, 0)) (heap_alloc_new wr _)) (two_one _ _) (by omega) (by unfold maxLen; omega) (by omega) (by have := HR.out.size; show _ ≤ (wr.alloc _).heap.size; simp; omega) (wr.heap.size + 1) (by show (wr.alloc _).heap.size = _; simp) ?_; intro gg cap w5 hown1 hgrow hat hlt5))
        have B5 := Lib.hid (((HR.out.alloc HR.out.size (.cells #[.int .i64 (z1 + 5), .int .i64 (z2 + 5)] 32)).drew).grown hgrow (by have := HR.out.size; show _ ≤ (wr.alloc _).heap.size; simp; omega) (fun j hj => (HO.out.lt j hj).1))
        have O5 := Lib.hid (show w5.ownsRow w4.heap.size 32 2 (.slice (some ⟨gg, 0, none⟩) (k + 1) cap) (k + 1) (fl (M.take (k + 1))) by rw [SN.out, fl_snoc]; exact hown1)
        clear hown1 hgrow hat hlt5 HO HR SN a1 a2 ag q1 q2 q3 q4 hgr
        go_wp2_with fail
        go_roundw
        case rel => exact ⟨k + 1, by go_num, by omega, O5.out, B5.out⟩
        case measure => simp [intOf]; omega
      · obtain rfl : n = k := by omega
        have ro' := ro
        rw [List.take_of_length_le (by rw [HML.out]; exact Nat.le_refl _)] at ro'
        obtain ⟨gx, cx, rfl, hcx, hmx, ox, hgx⟩ := own_val ro' HML.out (row_some ro' n1)
        have x6 : cx ≤ 9223372036854775807 := hmx
        have OX := Lib.hid ox
        replace OS := Lib.hid (OS.out.below rb)
        replace OT := Lib.hid (OT.out.below rb)
        replace HB := Lib.hid (Below.step0 HB.out rb)
        clear ro ro' ox rb OL
        go_wp2_with fail
        refine (implTight_any _ _ _ _ _ _ M S _ hcx hmx hmc hcm' (OX.out.prs HML.out (fun _ _ => rfl)) (OS.out.prs HS.out (fun _ _ => rfl)) (by simp) (by simp)).mono ?_
        rintro e w6 ⟨a6, n6, c6, rfl, R6, hc6, hm6, b6, y6⟩
        have x7 : c6 ≤ 9223372036854775807 := hm6
        replace OT := Lib.hid (OT.out.below b6)
        replace HB := Lib.hid (Below.step0 HB.out b6)
        by_cases hw : wdB M S = true
        · have TK := tk_shift (c := 5) HK.out (by rw [← HM.out]; exact hw)
          rw [← HM.out] at TK
          obtain ⟨gy, rfl, hn6, _, oy⟩ := y6 TK.1
          obtain rfl : n = n6 := (hn6.trans HML.out).symm
          rw [HML.out] at oy
          rw [TK.1]
          have OY := Lib.hid oy
          have TKB := Lib.hid TK.2
          clear TK y6 oy R6 b6 hn6 hw OX OS
          go_wp2_with fail
          go_loopw [13] (fun i wr => ∃ k : Nat, i = .int .i64 k ∧ k ≤ n ∧ ∃ q, wr = w6.drewN q) (fun i _ => n - (intOf i).toNat)
          case atStart => exact ⟨0, rfl, Nat.zero_le _, 0, rfl⟩
          case round =>
            obtain ⟨i, rfl, hki, q, rfl⟩ := hrel
            by_cases hlt : i < n
            · obtain ⟨q1, q2, q3, q4⟩ := OY.out.2 i hlt
              obtain ⟨p1, p2, p3, p4⟩ := OT.out.2 i hlt
              rw [twl_pr L S i (by rw [HL.out]; exact hlt), HL.out] at p1 p2
              rw [twl_pr M S i (by rw [HML.out]; exact hlt), HML.out] at q1 q2
              have F := TKB.out i (by rw [HL.out]; exact hlt)
              have BD := tw_bd (tk_true HK.out).1 i (by rw [HL.out]; exact hlt)
              rw [HL.out] at F BD
              rw [F] at q1 q2
              dsimp only at q1 q2
              clear F
              generalize (tw L S n i).1 = x1 at *
              generalize (tw L S n i).2 = x2 at *
              have a1 : IntKind.i64.wrap (x1 + 5) = x1 + 5 := IntWalk.i64_in _ (by omega)
              have a2 : IntKind.i64.wrap (x2 + 5) = x2 + 5 := IntWalk.i64_in _ (by omega)
              have i0 : (0 : Int) ≤ (i : Int) := by omega
              have i1 : (i : Int) < (n : Int) := by omega
              clear BD
              go_wp2_with fail
              go_quiet (fail)
              clear a1 a2
              go_wp2_with fail
              go_roundw
              case rel => exact ⟨i + 1, by go_num, by omega, q + nq, rfl⟩
              case measure => simp [intOf] <;> omega
            · go_wp2_with fail
              go_ret
              exact ⟨rfl, below_drewN HB.out q⟩
        · have hw6 : tkB M S = false := tk_wd (by simpa using hw)
          rw [tRes_no hw6] at R6
          rw [hw6]
          obtain rfl : 0 = n6 := R6.1
          clear hw6 R6 y6 b6 hw OX OS
          go_wp2_with fail
          go_loopw [13] (fun i wr => i = .int .i64 0 ∧ wr = w6) (fun i _ => 0)
          case atStart => exact ⟨rfl, rfl⟩
          case round =>
            obtain ⟨rfl, rfl⟩ := hrel
            go_wp2_with fail
            go_ret
            exact ⟨rfl, HB.out⟩
end Go.Proofs.Ytdojjljlegandaa
