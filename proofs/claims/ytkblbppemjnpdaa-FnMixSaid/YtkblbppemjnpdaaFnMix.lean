/- The walk of FnMix. -/
import Derived.Test.YtkblbppemjnpdaaMixQ
namespace Go.Proofs.Ytkblbppemjnpdaa
open Go.RowKit
set_option linter.unusedVariables false

/-- What holds at the head of each round, m pairs being left. -/
def MlRel (W : World) (gr : Nat) (L : List (Int × Int)) (n : Nat) (v lo hi i : Value) (wr : World) : Prop :=
  ∃ m : Nat, m ≤ n ∧ i = .int .i64 ((m : Int) - 1) ∧ lo = .bool (lowF L n (mxA L) (mxH L) (n - m)) ∧ hi = .bool (highF L n (mxA L) (mxH L) (n - m)) ∧
    wr.ownsRow W.heap.size 25 2 v (n - m) (fl (rv L n (n - m))) ∧ BlkF wr gr 43 (wrN (mxA L) (mxH L)) (wrD (mxA L) (mxH L)) ∧ Below W.heap.size W wr

set_option maxHeartbeats 3200000 in
theorem fnMix_walk (a : Option Addr) (len cap : Nat) (zs : List Int) (w : World) (h : IsRow .u8 w a len cap zs) :
    Calls Try.prog 14 #[.slice a len cap] w fun e w' => e = .returned (.bool true) ∧ Below w.heap.size w w' := by
  obtain ⟨i0, hi, hz0, hz1, hz2⟩ := info_parts infoWater
  obtain ⟨hc, hm⟩ := h.le
  have hm' := hm
  unfold maxLen at hm'
  have h0 := Lib.hid h.bytes
  clear h
  by_cases hl : 1048576 < len
  · go_enter Try.func14, Try.ntmps14
    go_wp2_with fail
    go_ret
    exact ⟨rfl, Below.refl _ _⟩
  · go_enter Try.func14, Try.ntmps14
    go_wp2_with fail
    refine (drawWaterMix_any _ _ _ _ hc hm h0.out).mono ?_
    rintro e w1 ⟨a', n, cp, L, rfl, n7, hnc, hcm, P1, b1⟩
    have HP1 := Lib.hid P1
    clear P1
    go_wp2_with fail
    refine (waterMix_any _ _ _ L _ hnc hcm HP1.out).mono ?_
    rintro e w2 ⟨rfl, b2⟩
    have C2 := Below.step0 b1 b2
    have HP2 := Lib.hid ((HP1.out.below b2).below ((Below.refl _ _).alloc (Nat.le_refl _) (.cells #[.int .i64 (mxA L), .int .i64 (mxH L)] 25)))
    clear HP1 b2
    go_wp2_with fail
    refine (specWaterMix_any _ _ _ L _ hnc hcm HP2.out).mono ?_
    rintro e w3 ⟨rfl, b3⟩
    have C3 := Below.al (o := .cells #[.int .i64 (mxA L), .int .i64 (mxH L)] 25) (Below.step1 C2 b3)
    obtain ⟨k0, k1, l0⟩ := blk_cells b3
    have HP3 := Lib.hid ((HP2.out.below b3).below ((Below.refl _ _).alloc (Nat.le_refl _) (.cells #[.int .i64 (mxA L), .int .i64 (mxH L)] 25)))
    clear HP2 C2
    have D3 := Lib.hid b3
    have HC := Lib.hid C3
    clear b3 C3
    by_cases hok : mxOk L = true
    rotate_left
    · have hok' : mxOk L = false := by simpa using hok
      rw [hok']
      clear hok hok'
      go_wp2_with fail
      go_ret
      exact ⟨rfl, HC.out⟩
    rw [hok]
    obtain ⟨hL, hP⟩ := HP3.out
    have T := Lib.hid (mx_true hok)
    obtain ⟨b, off, rfl, hb, hcell⟩ : ∃ b off : Nat, a' = some ⟨b, off, none⟩ ∧ b < (w3.alloc (.cells #[.int .i64 (mxA L), .int .i64 (mxH L)] 25)).heap.size ∧ PrsAt (w3.alloc (.cells #[.int .i64 (mxA L), .int .i64 (mxH L)] 25)) b off L := by
      rcases hP with hP | hP
      · have := T.out.1; omega
      · exact hP
    have HL := Lib.hid hL
    have HCell := Lib.hid hcell
    have V := Lib.hid (mx_yes hok)
    have n1 : 1 ≤ n := by have := T.out.1; rw [HL.out] at this; exact this
    have n6 : n ≤ 6 := by have := T.out.2.1; rw [HL.out] at this; exact this
    clear hok hL hcell HP3
    have OKL := Lib.hid (show mxOk L = true from V.out.2.2)
    have WV := Lib.hid (show wvB (mxA L) (mxH L) = true by rw [V.out.1, V.out.2.1]; exact T.out.2.2.2)
    go_wp2_with fail
    refine (waterRatio_any _ _ _).mono ?_
    rintro e w4 ⟨rfl, b4⟩
    rw [(wr_facts WV.out).1]
    have D4 := Below.step1 (Below.refl (w3.alloc (.cells #[.int .i64 (mxA L), .int .i64 (mxH L)] 25)).heap.size (w3.alloc (.cells #[.int .i64 (mxA L), .int .i64 (mxH L)] 25))) b4
    have o4 : w4.ownsRow (w3.alloc (.cells #[.int .i64 (mxA L), .int .i64 (mxH L)] 25)).heap.size 25 2 (.slice (some ⟨w3.heap.size + 1, 0, none⟩) 0 0) 0 (fl []) := by
      have o := World.ownsRow_lit (base := (w3.alloc (.cells #[.int .i64 (mxA L), .int .i64 (mxH L)] 25)).heap.size) (e := 25) (size := 2) (w3.alloc (.cells #[.int .i64 (mxA L), .int .i64 (mxH L)] 25)) #[] 0 (Nat.le_refl _) (by unfold maxLen; omega) (by simp)
      have o' := own_kept' o b4
      simpa [fl] using o'
    have z4 : w3.heap.size + 1 < w4.heap.size := by have := b4.size; simp at this; omega
    have HD4 := Lib.hid D4
    have HO4 := Lib.hid o4
    clear D4 o4 b4
    go_wp2_with fail
    go_loopw [8, 9, 10, 13, 14, 15] (fun v lo hi i _ _ wr => MlRel (w3.alloc (.cells #[.int .i64 (mxA L), .int .i64 (mxH L)] 25)) w4.heap.size L n v lo hi i wr) (fun _ _ _ i _ _ _ => (intOf i + 1).toNat)
    case atStart =>
      refine ⟨n, Nat.le_refl _, rfl, ?_, ?_, ?_, BlkF.new _ _ _ _, Below.al HD4.out⟩
      · rw [Nat.sub_self]; rfl
      · rw [Nat.sub_self]; rfl
      · rw [Nat.sub_self]; exact HO4.out.alloc _
    case round =>
      obtain ⟨m, hm', rfl, rfl, rfl, ro, rk, rb⟩ := hrel
      cases m with
      | zero =>
        rw [show (((0 : Nat) : Int) - 1) = -1 from rfl]
        rw [show n - 0 = n from rfl] at ro ⊢
        have lt1 := Lib.hid (low_true HL.out OKL.out)
        have lt2 := Lib.hid (high_true HL.out OKL.out)
        obtain ⟨m1, m2, m3⟩ := mx_rev HL.out OKL.out
        obtain ⟨a'', cp', hv, hkc, hcm', hp⟩ := own_prs ro (rv_len L n n)
        subst hv
        have HP := Lib.hid hp
        have HB := Lib.hid rb
        rw [lt1.out, lt2.out]
        clear hp ro rk rb HO4 HD4
        go_wp2_with fail
        refine (waterMix_any _ _ _ (rv L n n) _ hkc hcm' HP.out).mono ?_
        rintro e w5 ⟨rfl, b5⟩
        rw [m1, m2, m3]
        have v0 : w5.cell? ⟨w2.heap.size, 0, none⟩ = some (.int .i64 (mxA L)) := (b5.cell (p := ⟨w2.heap.size, 0, none⟩) (Nat.lt_of_lt_of_le (Nat.lt_of_lt_of_le l0 (by simp)) HB.out.size)).trans ((HB.out.cell (p := ⟨w2.heap.size, 0, none⟩) (by simp; omega)).trans (by simp [go_sem, l0, k0]))
        have v1 : w5.cell? ⟨w2.heap.size, 1, none⟩ = some (.int .i64 (mxH L)) := (b5.cell (p := ⟨w2.heap.size, 1, none⟩) (Nat.lt_of_lt_of_le (Nat.lt_of_lt_of_le l0 (by simp)) HB.out.size)).trans ((HB.out.cell (p := ⟨w2.heap.size, 1, none⟩) (by simp; omega)).trans (by simp [go_sem, l0, k1]))
        have lv := World.block_lt_of_cell? _ _ v0
        dsimp only at lv
        have C5 := Lib.hid (Below.al (o := .cells #[.int .i64 (mxA L), .int .i64 (mxH L)] 25) (Below.step0 (Below.step0 HC.out HB.out) b5))
        clear b5 m1 m2 m3 k0 k1
        go_wp2_with fail
        go_ret
        exact ⟨rfl, C5.out⟩
      | succ m =>
        rw [show (((m + 1 : Nat) : Int) - 1) = (m : Int) by omega]
        have hmn : m < n := by omega
        obtain ⟨c0, c1⟩ := HCell.out m (by rw [HL.out]; exact hmn)
        have hv := T.out.2.2.1 m (by rw [HL.out]; exact hmn)
        have e0 := (rb.cell (p := ⟨b, off + m * 2, none⟩) hb).trans c0
        have e1 := (rb.cell (p := ⟨b, off + m * 2 + 1, none⟩) hb).trans c1
        have LS := Lib.hid (lowF_step L n m (mxA L) (mxH L) hmn)
        have HS := Lib.hid (highF_step L n m (mxA L) (mxH L) hmn)
        have RS := Lib.hid (rv_snoc L n m hmn)
        have nm : n - m = n - (m + 1) + 1 := by omega
        have NM := Lib.hid nm
        have HV := Lib.hid hv
        have HB := Lib.hid rb
        have HR := Lib.hid rk
        have rsz := rb.size
        clear c0 c1 hv nm rb rk HO4 HD4 k0 k1
        have hcb : n - (m + 1) ≤ 6 := by omega
        generalize n - (m + 1) = c at *
        generalize lowF L n (mxA L) (mxH L) c = lo at *
        generalize highF L n (mxA L) (mxH L) c = hi' at *
        go_wp2_with (at_builtin; refine wpList_append_own _ rfl _ _ 35 rfl (w3.alloc (.cells #[.int .i64 (mxA L), .int .i64 (mxH L)] 25)).heap.size 25 i0 (.agg #[.int .i64 0, .int .i64 0]) 2 16 Try.underlying35 hi hz0 hz1 hz2 rfl (by decide) _ _ _ rfl (ro.alloc _) ⟨wr.heap.size, 0, none⟩ 1 1 [.int .i64 (pr L m).1, .int .i64 (pr L m).2] rfl rfl ?c1 ?c2 ?c3 ?c4 ?c5 ?_)
        case c1 =>
          intro j u hj
          match j, hj with
          | 0, hj => simp at hj; subst hj; simp [Addr.add]
          | 1, hj => simp at hj; subst hj; simp [Addr.add]
        case c2 => intro u hu; simp at hu; rcases hu with rfl | rfl <;> rfl
        case c3 => unfold maxLen; omega
        case c4 => omega
        case c5 => simp at rsz ⊢; omega
        intro v' w5 o5 g5 _
        have hne := own_blk_ne ro HR.out (by decide)
        have K5 := (HR.out.alloc (.cells #[.int .i64 (pr L m).1, .int .i64 (pr L m).2] 25)).grown g5 hne
        have B5 : Below (w3.alloc (.cells #[.int .i64 (mxA L), .int .i64 (mxH L)] 25)).heap.size (w3.alloc (.cells #[.int .i64 (mxA L), .int .i64 (mxH L)] 25)) w5 := (Below.al (o := .cells #[.int .i64 (pr L m).1, .int .i64 (pr L m).2] 25) HB.out).grown g5 (Below.al (o := .cells #[.int .i64 (pr L m).1, .int .i64 (pr L m).2] 25) HB.out).size (fun k hk => (ro.lt k hk).1)
        obtain ⟨c0, c1⟩ := HCell.out m (by rw [HL.out]; exact hmn)
        have e0 := (B5.cell (p := ⟨b, off + m * 2, none⟩) hb).trans c0
        have e1 := (B5.cell (p := ⟨b, off + m * 2 + 1, none⟩) hb).trans c1
        have o5' : w5.ownsRow (w3.alloc (.cells #[.int .i64 (mxA L), .int .i64 (mxH L)] 25)).heap.size 25 2 v' (c + 1) (fl (rv L n c) ++ [.int .i64 (pr L m).1, .int .i64 (pr L m).2]) := by rw [World.size_alloc]; exact o5
        have O5 := Lib.hid o5'
        have HK5 := Lib.hid K5
        have HB5 := Lib.hid B5
        clear o5 o5' K5 B5 c0 c1 g5 hne ro HR HB rsz
        go_wp2_with fail
        refine (waterRatio_any _ _ _).mono ?_
        rintro e w6 ⟨rfl, b6⟩
        rw [(wr_facts HV.out).1]
        have O6 := Lib.hid ((own_kept' O5.out b6).alloc (.cells #[.int .i64 (wrN (pr L m).1 (pr L m).2), .int .i64 (wrD (pr L m).1 (pr L m).2)] 43))
        have K6 := Lib.hid ((HK5.out.below b6).alloc (.cells #[.int .i64 (wrN (pr L m).1 (pr L m).2), .int .i64 (wrD (pr L m).1 (pr L m).2)] 43))
        have B6 := Lib.hid (Below.al (o := .cells #[.int .i64 (wrN (pr L m).1 (pr L m).2), .int .i64 (wrD (pr L m).1 (pr L m).2)] 43) (Below.step0 HB5.out b6))
        obtain ⟨r0, r1⟩ := (HK5.out.below b6).cells
        have hr6 := (HK5.out.below b6).lt
        clear e0 e1 O5 HK5 HB5 b6
        cases lo with
        | true =>
          cases hi' with
          | true =>
            go_wp2_with fail
            go_roundw
            case rel => exact ⟨m, by omega, rfl, by rw [LS.out, Bool.true_or], by rw [HS.out, Bool.true_or], by rw [RS.out, NM.out, fl_snoc]; exact O6.out, K6.out, B6.out⟩
            case measure => simp [intOf] <;> omega
          | false =>
            go_wp2_with fail
            refine (fracLess_any _ _ _ _ _).mono ?_
            rintro e w8 ⟨rfl, b8⟩
            have O8 := Lib.hid (own_kept' O6.out b8)
            have K8 := Lib.hid (K6.out.below b8)
            have B8 := Lib.hid (Below.step0 B6.out b8)
            rw [show flB (wrN (pr L m).1 (pr L m).2) (wrD (pr L m).1 (pr L m).2) (wrN (mxA L) (mxH L)) (wrD (mxA L) (mxH L)) = ngt (mxA L) (mxH L) (pr L m) from rfl]
            clear b8 r0 r1
            go_wp2_with fail
            go_roundw
            case rel => exact ⟨m, by omega, rfl, by rw [LS.out, Bool.true_or], by rw [HS.out, Bool.false_or], by rw [RS.out, NM.out, fl_snoc]; exact O8.out, K8.out, B8.out⟩
            case measure => simp [intOf] <;> omega
        | false =>
          go_wp2_with fail
          refine (fracLess_any _ _ _ _ _).mono ?_
          rintro e w7 ⟨rfl, b7⟩
          have O7 := Lib.hid (own_kept' O6.out b7)
          have K7 := Lib.hid (K6.out.below b7)
          have B7 := Lib.hid (Below.step0 B6.out b7)
          obtain ⟨r0, r1⟩ := K7.out.cells
          obtain ⟨x0, x1, _⟩ := blk_cells b7
          rw [show flB (wrN (mxA L) (mxH L)) (wrD (mxA L) (mxH L)) (wrN (pr L m).1 (pr L m).2) (wrD (pr L m).1 (pr L m).2) = nlt (mxA L) (mxH L) (pr L m) from rfl]
          clear b7 O6 K6 B6
          cases hi' with
          | true =>
            go_wp2_with fail
            go_roundw
            case rel => exact ⟨m, by omega, rfl, by rw [LS.out, Bool.false_or], by rw [HS.out, Bool.true_or], by rw [RS.out, NM.out, fl_snoc]; exact O7.out, K7.out, B7.out⟩
            case measure => simp [intOf] <;> omega
          | false =>
            go_wp2_with fail
            refine (fracLess_any _ _ _ _ _).mono ?_
            rintro e w8 ⟨rfl, b8⟩
            have O8 := Lib.hid (own_kept' O7.out b8)
            have K8 := Lib.hid (K7.out.below b8)
            have B8 := Lib.hid (Below.step0 B7.out b8)
            rw [show flB (wrN (pr L m).1 (pr L m).2) (wrD (pr L m).1 (pr L m).2) (wrN (mxA L) (mxH L)) (wrD (mxA L) (mxH L)) = ngt (mxA L) (mxH L) (pr L m) from rfl]
            clear b8 x0 x1 r0 r1
            go_wp2_with fail
            go_roundw
            case rel => exact ⟨m, by omega, rfl, by rw [LS.out, Bool.false_or], by rw [HS.out, Bool.false_or], by rw [RS.out, NM.out, fl_snoc]; exact O8.out, K8.out, B8.out⟩
            case measure => simp [intOf] <;> omega
end Go.Proofs.Ytkblbppemjnpdaa
