/- The walk of FnOrderRankTurn. -/
import Derived.Test.YtjiffbddgbigcaaDoorParL
import Derived.Test.YtjiffbddgbigcaaDoorSegP
namespace Go.Proofs.YtjiffbddgbigcaaDoor
open Go.RowKit
set_option linter.unusedVariables false
set_option linter.unusedSimpArgs false

/-- The letters of the cores turned. -/
def tw (c : UInt8) : UInt8 := if c = 97 then 98 else if c = 98 then 97 else 124
def tu (l : List UInt8) : List UInt8 := l.map tw
theorem tw_a : tw 97 = 98 := rfl
theorem tw_b : tw 98 = 97 := rfl
theorem tw_no {c : UInt8} (h1 : c ≠ 97) (h2 : c ≠ 98) : tw c = 124 := by
  unfold tw
  rw [if_neg h1, if_neg h2]
theorem tu_snoc (p : List UInt8) (c : UInt8) : tu (p ++ [c]) = tu p ++ [tw c] := by simp [tu]
theorem tu_len (p : List UInt8) : (tu p).length = p.length := by simp [tu]
theorem tw_cases (c : UInt8) : (c = 97 ∧ tw c = 98) ∨ (c = 98 ∧ tw c = 97) ∨ (c ≠ 97 ∧ c ≠ 98 ∧ tw c = 124) := by
  by_cases h1 : c = 97
  · exact .inl ⟨h1, by rw [h1]; rfl⟩
  · by_cases h2 : c = 98
    · exact .inr (.inl ⟨h2, by rw [h2]; rfl⟩)
    · exact .inr (.inr ⟨h1, h2, tw_no h1 h2⟩)
theorem tu_count : ∀ s : List UInt8, (tu s).count 97 = s.count 98 ∧ (tu s).count 98 = s.count 97
  | [] => ⟨rfl, rfl⟩
  | c :: s => by
    obtain ⟨i1, i2⟩ := tu_count s
    show (tw c :: tu s).count 97 = _ ∧ (tw c :: tu s).count 98 = _
    rw [List.count_cons, List.count_cons, List.count_cons, List.count_cons, i1, i2]
    rcases tw_cases c with ⟨rfl, e⟩ | ⟨rfl, e⟩ | ⟨h1, h2, e⟩
    · rw [e]; exact ⟨rfl, rfl⟩
    · rw [e]; exact ⟨rfl, rfl⟩
    · rw [e]
      have a1 : (c == 97) = false := by simpa using h1
      have a2 : (c == 98) = false := by simpa using h2
      rw [a1, a2]
      exact ⟨rfl, rfl⟩
theorem tu_letters : ∀ s : List UInt8, letters (tu s) = true
  | [] => rfl
  | c :: s => by
    show letters (tw c :: tu s) = true
    have ih := tu_letters s
    unfold letters at ih ⊢
    rw [List.all_cons, ih]
    rcases tw_cases c with ⟨_, e⟩ | ⟨_, e⟩ | ⟨_, _, e⟩ <;> rw [e] <;> rfl
theorem sg_tu : ∀ l : List UInt8, letters l = true → sg (tu l) = (sg l).map tu
  | [], _ => rfl
  | c :: l, h => by
    unfold letters at h
    rw [List.all_cons] at h
    simp only [Bool.and_eq_true, decide_eq_true_eq] at h
    have ih := sg_tu l h.2
    show sg (tw c :: tu l) = _
    by_cases hc : c = 124
    · subst hc
      rw [sg_bar, List.map_cons, ← ih]
      rfl
    · have hw : tw c ≠ 124 := by
        rcases h.1 with rfl | rfl | q
        · decide
        · decide
        · exact absurd q hc
      rw [sg_cons _ hw, sg_cons _ hc, ih, sg_ht l]
      rfl
theorem tu_ab {s : List UInt8} (h : ab s = true) : ab (tu s) = true := by
  refine ab_of (fun x hx => ?_)
  unfold tu at hx
  obtain ⟨y, hy, rfl⟩ := List.mem_map.1 hx
  rcases ab_mem h y hy with rfl | rfl
  · exact .inr rfl
  · exact .inl rfl
theorem rk_tu : ∀ (s : List UInt8) (a b : Nat), ab s = true → s.count 97 = a → s.count 98 = b → rk s a b + rk (tu s) b a + 1 = ch a b
  | [], a, b, _, ha, hb => by
    simp at ha hb
    subst ha hb
    rfl
  | c :: s, a, b, h, ha, hb => by
    obtain ⟨hc, hs⟩ := ab_cons h
    rw [List.count_cons] at ha hb
    rcases hc with rfl | rfl
    · simp at ha hb
      obtain ⟨a', rfl⟩ : ∃ a', a = a' + 1 := ⟨a - 1, by omega⟩
      have ih := rk_tu s a' b hs (by omega) hb
      show rk (97 :: s) (a' + 1) b + rk (98 :: tu s) b (a' + 1) + 1 = _
      rw [rk_a, rk_b, Nat.add_sub_cancel]
      cases b with
      | zero => rw [if_neg (by omega)]; rw [ch_zero'] at ih ⊢; omega
      | succ b => rw [if_pos (by omega), Nat.add_sub_cancel, ch_pascal, ch_symm b (a' + 1)]; omega
    · simp at ha hb
      obtain ⟨b', rfl⟩ : ∃ b', b = b' + 1 := ⟨b - 1, by omega⟩
      have ih := rk_tu s a b' hs ha (by omega)
      show rk (98 :: s) a (b' + 1) + rk (97 :: tu s) (b' + 1) a + 1 = _
      rw [rk_a, rk_b, Nat.add_sub_cancel]
      cases a with
      | zero => rw [if_neg (by omega)]; rw [ch_zero] at ih ⊢; omega
      | succ a => rw [if_pos (by omega), Nat.add_sub_cancel, ch_pascal]; omega
theorem pr_letters {l : List UInt8} (h : prB l = true) : letters l = true := by
  unfold prB at h
  simp only [Bool.and_eq_true] at h
  exact h.1
theorem c_tu {l : List UInt8} (h : letters l = true) : cA (tu l) = cB l ∧ cB (tu l) = cA l := by
  unfold cA cB
  rw [sg_tu l h, List.map_map, List.map_map]
  exact ⟨List.map_congr_left (fun s _ => by show (((tu s).count 97 : Nat) : Int) = _; rw [(tu_count s).1]), List.map_congr_left (fun s _ => by show (((tu s).count 98 : Nat) : Int) = _; rw [(tu_count s).2])⟩
theorem ok_turn {A B : List Int} (h : okB A B = true) : okB B A = true := by
  obtain ⟨g1, g2, g3, g4, g5⟩ := ok_true h
  exact ok_mk (by omega) (by omega) g3.symm (fun i hi => g5 i (by omega)) (fun i hi => g4 i (by omega))
theorem pr_tu {l : List UInt8} (h : prB l = true) : prB (tu l) = true := by
  unfold prB
  rw [tu_letters, (c_tu (pr_letters h)).1, (c_tu (pr_letters h)).2, ok_turn (pr_yes h).1]
  rfl
theorem dR_tu {l : List UInt8} (h : prB l = true) {k : Nat} (hk : k < (cA l).length) : dR l k + dR (tu l) k + 1 = cc (cA l) (cB l) k := by
  obtain ⟨p1, p2, p3, p4⟩ := pr_part h hk
  have e := rk_tu _ _ _ p1 p2 p3
  have g : gS (sg (tu l)) k = tu (gS (sg l) k) := by
    rw [cA_len] at hk
    unfold gS
    rw [sg_tu l (pr_letters h), List.getD_eq_getElem?_getD, List.getElem?_map, List.getElem?_eq_getElem hk, List.getD_eq_getElem?_getD, List.getElem?_eq_getElem hk]
    rfl
  unfold dR cc
  rw [(c_tu (pr_letters h)).1, (c_tu (pr_letters h)).2, g]
  exact e
theorem hn_sum {A B : List Int} {d d' : Nat → Nat} (n : Nat) (h : ∀ i, i < n → d i + d' i + 1 = cc A B i) : ∀ k, k ≤ n → hn A B d k + hn B A d' k + 1 = pd A B 0 k
  | 0, _ => rfl
  | k + 1, hk => by
    have ih := hn_sum n h k (by omega)
    have e := h k (by omega)
    have s : cc B A k = cc A B k := ch_symm _ _
    show hn A B d k * cc A B k + d k + (hn B A d' k * cc B A k + d' k) + 1 = pd A B 0 k * ch (ni A (0 + k)) (ni B (0 + k))
    rw [Nat.zero_add, s]
    show _ = pd A B 0 k * cc A B k
    rw [← ih, Nat.add_mul, Nat.add_mul]
    omega
theorem rkV_tu {l : List UInt8} (h : prB l = true) : ∃ u v : Nat, rkV l = (u : Int) ∧ rkV (tu l) = (v : Int) ∧ cntV (cA l) (cB l) = (v : Int) + (u : Int) + 1 := by
  refine ⟨rkN l, rkN (tu l), rkV_nat h, rkV_nat (pr_tu h), ?_⟩
  have e := hn_sum (A := cA l) (B := cB l) (d := dR l) (d' := dR (tu l)) (cA l).length (fun i hi => dR_tu h hi) (cA l).length (Nat.le_refl _)
  rw [cntV_yes (pr_yes h).1, ← e]
  unfold rkN
  rw [(c_tu (pr_letters h)).1, (c_tu (pr_letters h)).2]
  have : (cB l).length = (cA l).length := (ok_true (pr_yes h).1).2.2.1
  rw [this]
  omega
set_option maxRecDepth 100000 in
set_option maxHeartbeats 3200000 in
theorem fnOTurn_walk (a : Option Addr) (len cap : Nat) (zs : List Int) (w : World) (h : IsRow .u8 w a len cap zs) :
    Calls Tryd.prog 10 #[.slice a len cap] w fun e w' => e = .returned (.bool true) ∧ Below w.heap.size w w' := by
  obtain ⟨hc, hm⟩ := h.le
  have hm' := hm
  unfold maxLen at hm'
  have h0 := Lib.hid h.bytes
  clear h
  by_cases hl : 1048576 < len
  · go_enter Tryd.func10, Tryd.ntmps10
    go_wp2_with fail
    go_ret
    exact ⟨rfl, Below.refl _ _⟩
  go_enter Tryd.func10, Tryd.ntmps10
  go_wp2_with fail
  refine (drawOR_any _ _ _ _ hc hm h0.out).mono ?_
  rintro e w1 ⟨l, rfl, hl9, b1⟩
  have HB := Lib.hid b1
  clear b1 h0
  go_wp2_with fail
  by_cases hp : prB l = false
  · refine (rank_is l (by omega) _ (rkV_no hp)).mono ?_
    rintro e w2 ⟨rfl, b2⟩
    have RN := Lib.hid (rkV_no hp)
    replace HB := Lib.hid (Below.step0 HB.out b2)
    clear b2 hp
    go_wp2_with fail
    refine (specRank_any l (by omega) _).mono ?_
    rintro e w3 ⟨rfl, b3⟩
    rw [RN.out]
    replace HB := Lib.hid (Below.step0 HB.out b3)
    clear b3
    go_wp2_with fail
    go_ret
    exact ⟨rfl, HB.out⟩
  have hp' : prB l = true := by simpa using hp
  have HP := Lib.hid hp'
  obtain ⟨u, v, hu, hv, hcn⟩ := rkV_tu hp'
  have RV := Lib.hid hu
  have RT := Lib.hid hv
  have CN := Lib.hid hcn
  have CB := cntV_bd (pr_yes hp').1
  have hl52 : l.length ≤ 52 := pr_len hp'
  rw [hcn] at CB
  have jb : ((bs l).size : Int) = (l.length : Int) := by rw [bs_size]
  clear hp hp' hu hv hcn
  refine (rank_is l (by omega) _ RV.out).mono ?_
  rintro e w2 ⟨rfl, b2⟩
  replace HB := Lib.hid (Below.step0 HB.out b2)
  clear b2
  go_wp2_with fail
  refine (specRank_any l (by omega) _).mono ?_
  rintro e w3 ⟨rfl, b3⟩
  rw [RV.out]
  replace HB := Lib.hid (Below.step0 HB.out b3)
  have t1 : ((u : Int) != (u : Int)) = false := by simp
  have t2 : ¬ ((u : Int) < 0) := by omega
  clear b3
  go_wp2_with fail
  go_loop [6, 7] (fun vt vi => ∃ k : Nat, vi = .int .i64 k ∧ vt = .string (bs (tu (l.take k))) ∧ k ≤ l.length) (fun _ vi => (l.length - intOf vi).toNat)
  case atStart => exact ⟨0, rfl, rfl, Nat.zero_le _⟩
  case round =>
    obtain ⟨k, rfl, rfl, hk⟩ := hrel
    by_cases hlt : k < l.length
    · have i1 : (k : Int) < ((bs l).size : Int) := by rw [jb]; omega
      have IX := fun V => idx_at V l k hlt
      have tk := take_up l k hlt
      have TK := Lib.hid (show tu (l.take (k + 1)) = tu (l.take k) ++ [tw l[k]] by rw [tk, tu_snoc])
      clear tk
      obtain ⟨x, hx⟩ : ∃ x, l[k] = x := ⟨_, rfl⟩
      rw [hx] at IX TK
      have tl9 : (tu (l.take k)).length ≤ 52 := by rw [tu_len, List.length_take]; omega
      obtain ⟨p, hpp⟩ : ∃ p, tu (l.take k) = p := ⟨_, rfl⟩
      rw [hpp] at TK tl9 ⊢
      clear hx hpp
      rcases tw_cases x with ⟨rfl, e⟩ | ⟨rfl, e⟩ | ⟨q1, q2, e⟩
      · have A1 := fun W => run_bs_add Tryd.prog W p [98] (by simp; omega)
        have e1 : bs [98] = ⟨#[98]⟩ := rfl
        rw [e1] at A1
        rw [e] at TK
        have IX' : ∀ V : World, (Instr.index 9 (.string (bs l)) (.int .i64 (k : Int))).run Tryd.prog V = .ok (.int .u8 97) V := IX
        clear IX e e1 jb 
        go_wp2_with fail
        go_round
        case rel => exact ⟨k + 1, by go_num, by rw [TK.out], by omega⟩
        case measure => simp [intOf]; omega
      · have A1 := fun W => run_bs_add Tryd.prog W p [97] (by simp; omega)
        have e1 : bs [97] = ⟨#[97]⟩ := rfl
        rw [e1] at A1
        rw [e] at TK
        have IX' : ∀ V : World, (Instr.index 9 (.string (bs l)) (.int .i64 (k : Int))).run Tryd.prog V = .ok (.int .u8 98) V := IX
        clear IX e e1 jb 
        go_wp2_with fail
        go_round
        case rel => exact ⟨k + 1, by go_num, by rw [TK.out], by omega⟩
        case measure => simp [intOf]; omega
      · have A1 := fun W => run_bs_add Tryd.prog W p [124] (by simp; omega)
        have e1 : bs [124] = ⟨#[124]⟩ := rfl
        rw [e1] at A1
        rw [e] at TK
        have IX' := IX
        have d1 : ((x.toNat : Int) == 97) = false := by
          simp only [beq_eq_false_iff_ne, ne_eq]
          intro q
          exact q1 (UInt8.toNat_inj.mp (by show x.toNat = 97; omega))
        have d2 : ((x.toNat : Int) == 98) = false := by
          simp only [beq_eq_false_iff_ne, ne_eq]
          intro q
          exact q2 (UInt8.toNat_inj.mp (by show x.toNat = 98; omega))
        clear IX e e1 jb q1 q2
        go_wp2_with fail
        go_round
        case rel => exact ⟨k + 1, by go_num, by rw [TK.out], by omega⟩
        case measure => simp [intOf]; omega
    · obtain rfl : k = l.length := by omega
      rw [List.take_length]
      have i1 : ¬ ((l.length : Nat) : Int) < ((bs l).size : Int) := by rw [jb]; omega
      have TL := tu_len l
      have z1 : IntKind.i64.wrap ((v : Int) + (u : Int)) = (v : Int) + (u : Int) := IntWalk.i64_in _ (by omega)
      have z2 : IntKind.i64.wrap ((v : Int) + (u : Int) + 1 - 1) = (v : Int) + (u : Int) := by rw [IntWalk.i64_in _ (by omega)]; omega
      have PY := Lib.hid (fun W => parts_yes l (by omega) HP.out W)
      have RK := Lib.hid (fun W => rank_is (tu l) (by omega) W RT.out)
      clear TL
      generalize tu l = p at *
      go_wp2_with fail
      refine (PY.out _).mono ?_
      rintro e w4 ⟨ba, oa, bb, ob, n, c, c', rfl, h1, h2, h3, h4, n1, n4, nA, nB, I1, I2, b4⟩
      replace HB := Lib.hid (Below.step0 HB.out b4)
      have J1 := Lib.hid I1
      have J2 := Lib.hid I2
      clear I1 I2 b4 nA nB
      go_wp2_with fail
      refine (RK.out _).mono ?_
      rintro e w5 ⟨rfl, b5⟩
      replace HB := Lib.hid (Below.step0 HB.out b5)
      replace J1 := Lib.hid (J1.out.below b5)
      replace J2 := Lib.hid (J2.out.below b5)
      clear b5
      go_wp2_with fail
      refine (count_is _ _ _ _ _ _ (cA l) (cB l) _ h1 h2 h3 h4 J1.out J2.out (by simp) (by simp) (by omega) CN.out).mono ?_
      rintro e w6 ⟨rfl, b6⟩
      replace HB := Lib.hid (Below.step0 HB.out b6)
      clear b6
      go_wp2_with fail
      go_ret
      exact ⟨rfl, HB.out⟩
end Go.Proofs.YtjiffbddgbigcaaDoor
