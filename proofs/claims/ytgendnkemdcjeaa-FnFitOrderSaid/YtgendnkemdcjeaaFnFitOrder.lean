/- The walk of FnFitOrder. -/
import Derived.Test.YtgendnkemdcjeaaDrawF
import Derived.Test.YtgendnkemdcjeaaFitQ
import Derived.Deep.RegionHeld3
import Derived.Deep.AppendLies
namespace Go.Proofs.Ytgendnkemdcjeaa
open Go.RowKit
set_option linter.unusedVariables false
set_option linter.unusedSimpArgs false

/-- Two rows of numbers that hold the same, apart. -/
def TwoI (B : Nat) (w : World) (v v' : Value) (n m : Nat) (A A' : List Int) : Prop :=
  w.ownsRow B 3 1 v n (il A) ∧ w.ownsRow B 3 1 v' m (il A') ∧ v.ownBlock ≠ v'.ownBlock ∧ v.ownBlock ≠ none ∧ v'.ownBlock ≠ none
theorem TwoI.alloc {B : Nat} {w : World} {v v' : Value} {n m : Nat} {A A' : List Int} (h : TwoI B w v v' n m A A') (o : Obj) : TwoI B (w.alloc o) v v' n m A A' := ⟨h.1.alloc o, h.2.1.alloc o, h.2.2⟩
theorem TwoI.drew {B : Nat} {w : World} {v v' : Value} {n m : Nat} {A A' : List Int} (h : TwoI B w v v' n m A A') : TwoI B w.drew v v' n m A A' := ⟨h.1.drew, h.2.1.drew, h.2.2⟩
theorem TwoI.swap {B : Nat} {w : World} {v v' : Value} {n m : Nat} {A A' : List Int} (h : TwoI B w v v' n m A A') : TwoI B w v' v m n A' A := ⟨h.2.1, h.1, fun q => h.2.2.1 q.symm, h.2.2.2.2, h.2.2.2.1⟩
theorem TwoI.app {B : Nat} {w w' : World} {v v' u : Value} {n m : Nat} {A A' : List Int} {x : Int} (h : TwoI B w v v' n m A A') (ho : w'.ownsRow B 3 1 u (n + 1) (il A ++ [.int .i64 x]))
    (hg : w.grownBy w' v.ownBlock) (hl : u.ownBlock = v.ownBlock ∨ u.ownBlock = some w.heap.size) : TwoI B w' u v' (n + 1) m (A ++ [x]) A' := by
  obtain ⟨a, b⟩ := row_apart (n' := 0) (zs := []) h.1 h.2.1 h.2.2.1 h.2.2.2.2 hg hl
  exact ⟨by rw [il_snoc]; exact ho, a, b, rowi_some ho (by omega), h.2.2.2.2⟩

set_option maxRecDepth 100000 in
set_option maxHeartbeats 3200000 in
theorem fnFitOrder_walk (a : Option Addr) (len cap : Nat) (zs : List Int) (w : World) (h : IsRow .u8 w a len cap zs) :
    Calls Try.prog 10 #[.slice a len cap] w fun e w' => e = .returned (.bool true) ∧ Below w.heap.size w w' := by
  obtain ⟨hc, hm⟩ := h.le
  have hm' := hm
  unfold maxLen at hm'
  have h0 := Lib.hid h.bytes
  clear h
  by_cases hl : 1048576 < len
  · go_enter Try.func10, Try.ntmps10
    go_wp2_with fail
    go_ret
    exact ⟨rfl, Below.refl _ _⟩
  · go_enter Try.func10, Try.ntmps10
    go_wp2_with fail
    refine (drawFit_any _ _ _ _ hc hm h0.out).mono ?_
    rintro e w1 ⟨g, g', g3, n, m, c, c', c3, L, S, A, rfl, n1, n5, m6, hnc, hmc, hnc3, hcm, hcm', hcm3, hL, hS, hA, O1, O2, O3, b1⟩
    have HL := Lib.hid hL
    have HS := Lib.hid hS
    have HA := Lib.hid hA
    have x3 : c ≤ 9223372036854775807 := hcm
    have x4 : c' ≤ 9223372036854775807 := hcm'
    have x5 : c3 ≤ 9223372036854775807 := hcm3
    have OL := Lib.hid O1
    have OS := Lib.hid O2
    have OA := Lib.hid O3
    have HB := Lib.hid b1
    clear hL hS hA O1 O2 O3 b1 h0
    go_wp2_with fail
    refine (implFit_any _ _ _ _ _ _ _ _ _ L S A _ hnc hcm hmc hcm' hnc3 hcm3 (OL.out.prs HL.out (fun _ _ => rfl)) (OS.out.prs HS.out (fun _ _ => rfl)) (OA.out.ints HA.out (fun _ _ => rfl)) (by simp) (by simp)).mono ?_
    rintro e w2 ⟨rfl, b2⟩
    replace OL := Lib.hid (OL.out.below b2)
    replace OS := Lib.hid (OS.out.below b2)
    replace OA := Lib.hid (OA.out.below b2)
    replace HB := Lib.hid (Below.step0 HB.out b2)
    clear b2
    go_wp2_with fail
    refine (specFit_b _ _ _ _ _ _ _ _ _ L S A _ hnc hcm hmc hcm' hnc3 hcm3 (OL.out.prs HL.out (fun _ _ => rfl)) (OS.out.prs HS.out (fun _ _ => rfl)) (OA.out.ints HA.out (fun _ _ => rfl))).mono ?_
    rintro e w3 ⟨rfl, b3⟩
    replace OL := Lib.hid (OL.out.below b3)
    replace OS := Lib.hid (OS.out.below b3)
    replace OA := Lib.hid (OA.out.below b3)
    replace HB := Lib.hid (Below.step0 HB.out b3)
    clear b3
    have t1 : (fitB L S A != fitB L S A) = false := by simp
    by_cases hf : fitB L S A = true
    rotate_left
    · have hf' : fitB L S A = false := by simpa using hf
      rw [hf']
      clear t1 hf hf'
      go_wp2_with fail
      go_ret
      exact ⟨rfl, HB.out⟩
    rw [hf]
    have HF := Lib.hid hf
    clear t1 hf
    have FT := fit_tk HF.out
    have HK := Lib.hid FT.1
    have HT := Lib.hid FT.2
    clear FT
    go_wp2_with fail
    refine (implYoung_any _ _ _ _ _ _ L S _ hnc hcm hmc hcm' (OL.out.prs HL.out (fun _ _ => rfl)) (OS.out.prs HS.out (fun _ _ => rfl)) (by simp) (by simp)).mono ?_
    rintro e w6 ⟨a6, n6, c6, rfl, R6, hc6, hm6, b6, y6⟩
    replace OL := Lib.hid (OL.out.below b6)
    replace OS := Lib.hid (OS.out.below b6)
    replace OA := Lib.hid (OA.out.below b6)
    replace HB := Lib.hid (Below.step0 HB.out b6)
    have x6 : c6 ≤ 9223372036854775807 := hm6
    obtain ⟨gy, rfl, hn6, _, o6⟩ := y6 HK.out
    rw [HL.out] at o6
    obtain rfl : n = n6 := (hn6.trans HL.out).symm
    rw [yRes_yes HK.out] at o6
    have OY := Lib.hid o6
    rw [HK.out]
    clear R6 y6 o6 b6 hn6
    go_wp2_with fail
    refine (implOld_any _ _ _ _ _ _ L S _ hnc hcm hmc hcm' (OL.out.prs HL.out (fun _ _ => rfl)) (OS.out.prs HS.out (fun _ _ => rfl)) (by simp) (by simp)).mono ?_
    rintro e w7 ⟨a7, n7, c7, rfl, R7, hc7, hm7, b7, y7⟩
    replace OL := Lib.hid (OL.out.below b7)
    replace OS := Lib.hid (OS.out.below b7)
    replace OA := Lib.hid (OA.out.below b7)
    replace OY := Lib.hid (OY.out.below b7)
    replace HB := Lib.hid (Below.step0 HB.out b7)
    have x7 : c7 ≤ 9223372036854775807 := hm7
    obtain ⟨go, rfl, hn7, _, o7⟩ := y7 HK.out
    rw [HL.out] at o7
    obtain rfl : n = n7 := (hn7.trans HL.out).symm
    rw [oRes_yes HK.out] at o7
    have OO := Lib.hid o7
    rw [HK.out]
    clear R7 y7 o7 b7 hn7
    obtain ⟨i0, hi, hz0, hz1, hz2⟩ := info_parts infoInt
    have hga := OA.out.1
    have hgy := OY.out.1
    have hgo := OO.out.1
    have T0 := Lib.hid (show TwoI w7.heap.size ((w7.alloc (.cells #[] 3)).alloc (.cells #[] 3)) (.slice (some ⟨w7.heap.size, 0, none⟩) 0 0) (.slice (some ⟨w7.heap.size + 1, 0, none⟩) 0 0) 0 0 [] [] from by
      have o2 := World.ownsRow_lit (base := w7.heap.size) (e := 3) (size := 1) (w7.alloc (.cells #[] 3)) #[] 0 (by simp) (by unfold maxLen; omega) (by simp)
      simp only [World.size_alloc] at o2
      exact ⟨(icopy_base w7).alloc _, o2, by simp [Value.ownBlock], by simp [Value.ownBlock], by simp [Value.ownBlock]⟩)
    go_wp2_with fail
    go_loopw [12, 13, 14] (fun v v' i wr => ∃ k : Nat, i = .int .i64 k ∧ k ≤ n ∧ TwoI w7.heap.size wr v v' k k (A.take k) (A.take k) ∧ Below w7.heap.size w7 wr) (fun _ _ i _ => n - (intOf i).toNat)
    case atStart => exact ⟨0, rfl, Nat.zero_le _, T0.out, ((Below.refl _ _).alloc (Nat.le_refl _) _).alloc (by simp) _⟩
    case round =>
      obtain ⟨k, rfl, hk, tw2, rb⟩ := hrel
      by_cases hlt : k < n
      · have hkL : k < L.length := by rw [HL.out]; exact hlt
        obtain ⟨p1, p2⟩ := (OY.out.below rb).2 k hlt
        obtain ⟨r1, r2⟩ := (OO.out.below rb).2 k hlt
        obtain ⟨v1, v2⟩ := (OA.out.below rb).2 k hlt
        rw [yg_it L S k hkL] at p1
        rw [od_it L S k hkL] at r1
        have F := HT.out k hkL
        have SN := Lib.hid (take_snoc_it A k (by rw [HA.out]; exact hlt))
        obtain ⟨x1, XE⟩ : ∃ x1, (tw L S L.length k).1 = x1 := ⟨_, rfl⟩
        obtain ⟨av, AE⟩ : ∃ av, it A k = av := ⟨_, rfl⟩
        rw [XE] at p1 F
        rw [AE] at v1 F SN
        have XE := Lib.hid XE
        have AE := Lib.hid AE
        generalize (tw L S L.length k).2 = x2 at *
        have hx1 : x1 ≤ av := F.1
        have hx2 : av ≤ x2 := F.2
        have i0' : (0 : Int) ≤ (k : Int) := by omega
        have i1 : (k : Int) < (n : Int) := by omega
        have t1 : decide (x2 < av) = false := by simp; omega
        have t2 : decide (av < x1) = false := by simp; omega
        have t3 : decide (x1 > av) = false := by simp; omega
        have nn1 : ¬ x2 < av := by omega
        have nn2 : ¬ av < x1 := by omega
        have ag3 : u12.ownBlock ≠ some g3 := fun q => by have := (tw2.1.lt g3 q).1; omega
        have ago : u12.ownBlock ≠ some go := fun q => by have := (tw2.1.lt go q).1; omega
        have ag3' : u13.ownBlock ≠ some g3 := fun q => by have := (tw2.2.1.lt g3 q).1; omega
        have agy' : u13.ownBlock ≠ some gy := fun q => by have := (tw2.2.1.lt gy q).1; omega
        have hr := rb.size
        have HT2 := Lib.hid tw2
        have HR := Lib.hid rb
        clear tw2 rb F
        go_wp2_with fail
        go_region_held3 (fun w' => w'.cell? ⟨g3, k, none⟩ = some (.int .i64 av) ∧ w'.cell? ⟨go, k, none⟩ = some (.int .i64 x2))
          (first | go_keep | (go_split_ands; refine ⟨?_, ?_⟩ <;> (rw [hgrow.cell_far _ (by show _ < (wr.alloc _).heap.size; simp; omega) (Ne.symm (by assumption))]; assumption)))
          ((refine step_append_lies _ (by rfl) _ _ _ (by rfl) w7.heap.size 3 i0 _ 1 8 Try.underlying23 hi hz0 hz1 hz2 rfl (by omega) u12 k (il (A.take k)) (by rfl) ((HT2.out.1.alloc _).drew) ⟨wr.heap.size, 0, none⟩ 1 1 [.int .i64 (if x2 < av then x2 else av)] (by rfl) (by rfl) (World.news_of_block (cs := #[.int .i64 (if x2 < av then x2 else av)]) (t := 3) (fr := (0, 0)) (heap_alloc_new wr _)) (int_one _) (by omega) (by unfold maxLen; omega) (by omega) (by have := HR.out.size; show _ ≤ (wr.alloc _).heap.size; simp; omega) (wr.heap.size + 1) (by show (wr.alloc _).heap.size = _; simp) ?_; intro gg cap w8 hown1 hgrow hat hlt5))
        rw [if_neg (show ¬ x2 < av by omega)] at hown1 hgrow
        have B8 := Lib.hid (((HR.out.alloc HR.out.size (.cells #[.int .i64 av] 3)).drew).grown hgrow (by show _ ≤ (wr.alloc _).heap.size; simp; omega) (fun j hj => (HT2.out.1.lt j hj).1))
        have T8 := ((HT2.out.alloc (.cells #[.int .i64 av] 3)).drew).app hown1 hgrow (hat.elim (fun q => .inl q.symm) (fun q => .inr (by show some gg = some ((wr.alloc _).heap.size); rw [q]; simp)))
        rw [← SN.out] at T8
        have v1 := ((OA.out.below B8.out).2 k hlt).1
        have p1 := ((OY.out.below B8.out).2 k hlt).1
        rw [yg_it L S k hkL, XE.out] at p1
        rw [AE.out] at v1
        have HT8 := Lib.hid T8
        replace HR := B8
        have hr8 := HR.out.size
        clear T8 hown1 hgrow hat hlt5 HT2 r1 r2 p2 v2 t1 nn1 ago
        go_wp2_with fail
        go_region_held3 (fun w' => w'.cell? ⟨g3, k, none⟩ = some (.int .i64 av) ∧ w'.cell? ⟨gy, k, none⟩ = some (.int .i64 x1))
          (first | go_keep | (go_split_ands; refine ⟨?_, ?_⟩ <;> (rw [hgrow.cell_far _ (by show _ < (w8.alloc _).heap.size; simp; omega) (Ne.symm (by assumption))]; assumption)))
          ((refine step_append_lies _ (by rfl) _ _ _ (by rfl) w7.heap.size 3 i0 _ 1 8 Try.underlying23 hi hz0 hz1 hz2 rfl (by omega) u13 k (il (A.take k)) (by rfl) ((HT8.out.2.1.alloc _).drew) ⟨w8.heap.size, 0, none⟩ 1 1 [.int .i64 (if av < x1 then x1 else av)] (by rfl) (by rfl) (World.news_of_block (cs := #[.int .i64 (if av < x1 then x1 else av)]) (t := 3) (fr := (0, 0)) (heap_alloc_new w8 _)) (int_one _) (by omega) (by unfold maxLen; omega) (by omega) (by have := HR.out.size; show _ ≤ (w8.alloc _).heap.size; simp; omega) (w8.heap.size + 1) (by show (w8.alloc _).heap.size = _; simp) ?_; intro gg cap w9 hown1 hgrow hat hlt5))
        rw [if_neg (show ¬ av < x1 by omega)] at hown1 hgrow
        have B9 := Lib.hid (((HR.out.alloc HR.out.size (.cells #[.int .i64 av] 3)).drew).grown hgrow (by show _ ≤ (w8.alloc _).heap.size; simp; omega) (fun j hj => (HT8.out.2.1.lt j hj).1))
        have T9 := (((HT8.out.alloc (.cells #[.int .i64 av] 3)).drew).swap.app hown1 hgrow (hat.elim (fun q => .inl q.symm) (fun q => .inr (by show some gg = some ((w8.alloc _).heap.size); rw [q]; simp)))).swap
        rw [← SN.out] at T9
        have HT9 := Lib.hid T9
        clear T9 hown1 hgrow hat hlt5 HT8 p1 v1 HR SN
        go_wp2_with fail
        go_roundw
        case rel => exact ⟨k + 1, by go_num, by omega, HT9.out, B9.out⟩
        case measure => simp [intOf]; omega
      · obtain rfl : n = k := by omega
        have e1 := tw2.1
        have e2 := tw2.2.1
        rw [List.take_of_length_le (by rw [HA.out]; exact Nat.le_refl _)] at e1 e2
        obtain ⟨al, cl, rfl, hcl, hml, il1⟩ := own_ints e1 HA.out
        obtain ⟨ah, ch, rfl, hch, hmh, ih1⟩ := own_ints e2 HA.out
        have I1 := Lib.hid il1
        have I2 := Lib.hid ih1
        have I3 := Lib.hid ((OA.out.below rb).ints HA.out (fun _ _ => rfl))
        replace HB := Lib.hid (Below.step0 HB.out rb)
        clear e1 e2 tw2 il1 ih1 rb
        go_wp2_with fail
        refine (sameInts_b _ _ _ _ _ _ A A _ hcl hml hnc3 hcm3 I1.out I3.out).mono ?_
        rintro e wa ⟨rfl, ba⟩
        rw [eqI_self]
        replace I2 := Lib.hid (I2.out.below ba)
        replace I3 := Lib.hid (I3.out.below ba)
        replace HB := Lib.hid (Below.step0 HB.out ba)
        clear ba
        go_wp2_with fail
        refine (sameInts_b _ _ _ _ _ _ A A _ hch hmh hnc3 hcm3 I2.out I3.out).mono ?_
        rintro e wb ⟨rfl, bb⟩
        rw [eqI_self]
        replace HB := Lib.hid (Below.step0 HB.out bb)
        clear bb
        go_wp2_with fail
        go_ret
        exact ⟨rfl, HB.out⟩
end Go.Proofs.Ytgendnkemdcjeaa
