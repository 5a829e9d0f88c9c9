/- spec.OrderParts. -/
import Derived.Test.YtjiffbddgbigcaaDoorSegP
import Derived.Test.YtjiffbddgbigcaaDoorOrdC
import Derived.Test.YtjiffbddgbigcaaDoorDrawO
import Derived.Test.YtjiffbddgbigcaaDoorIdxAt
namespace Go.Proofs.YtjiffbddgbigcaaDoor
open Go.RowKit
set_option linter.unusedVariables false
set_option linter.unusedSimpArgs false

theorem TwoI.setA {B : Nat} {w : World} {g n m c : Nat} {v' : Value} {A A' : List Int} (h : TwoI B w (.slice (some ⟨g, 0, none⟩) n c) v' n m A A') (k : Nat) (x : Int) : TwoI B (w.setCell ⟨g, k, none⟩ (.int .i64 x)) (.slice (some ⟨g, 0, none⟩) n c) v' n m (A.set k x) A' := by
  obtain ⟨h1, h2, h3, h4, h5, h6, h7⟩ := h
  refine ⟨?_, h2.kept (row := some g) ⟨rfl, rfl, rfl, by simp [World.setCell], fun j _ hj => Below.heap_setCell _ _ _ _ (fun e => hj (by rw [e]))⟩ (.inr (fun q => h3 q.symm)), h3, h4, h5, by rw [List.length_set]; exact h6, h7⟩
  have := h1.stored k (.int .i64 x)
  have e : (il A).set k (.int .i64 x) = il (A.set k x) := by unfold il; rw [List.map_set]
  rw [e] at this
  exact this.1
theorem two_start (w : World) : TwoI w.heap.size ((w.alloc (.cells #[.int .i64 0] 3)).alloc (.cells #[.int .i64 0] 3)) (.slice (some ⟨w.heap.size, 0, none⟩) 1 1) (.slice (some ⟨w.heap.size + 1, 0, none⟩) 1 1) 1 1 [0] [0] := by
  have o1 := World.ownsRow_lit (base := w.heap.size) (e := 3) (size := 1) w #[.int .i64 0] 1 (by simp) (by unfold maxLen; omega) (by simp)
  have o2 := World.ownsRow_lit (base := w.heap.size) (e := 3) (size := 1) (w.alloc (.cells #[.int .i64 0] 3)) #[.int .i64 0] 1 (by simp) (by unfold maxLen; omega) (by simp)
  simp only [World.size_alloc] at o2
  exact ⟨o1.alloc _, o2, by simp [Value.ownBlock], by simp [Value.ownBlock], by simp [Value.ownBlock], rfl, rfl⟩
set_option maxHeartbeats 3200000 in
theorem specParts_any (l : List UInt8) (hl : l.length ≤ 1048576) (w : World) :
    Calls Tryd.prog 20 #[.string (bs l)] w fun e w' => ∃ (a b : Option Addr) (n m c c' : Nat), e = .returned (.tuple #[.slice a n c, .slice b m c', .bool (prB l)]) ∧ n ≤ c ∧ c ≤ maxLen ∧ m ≤ c' ∧ c' ≤ maxLen ∧ Ints w' a n (prA l) ∧ Ints w' b m (prC l) ∧ Below w.heap.size w w' := by
  obtain ⟨i0, hi, hz0, hz1, hz2⟩ := info_parts infoInt
  have jb : ((bs l).size : Int) = (l.length : Int) := by rw [bs_size]
  have T0 := Lib.hid (two_start w)
  have B0 := Lib.hid (show Below w.heap.size w ((w.alloc (.cells #[.int .i64 0] 3)).alloc (.cells #[.int .i64 0] 3)) from ((Below.refl _ _).alloc (Nat.le_refl _) _).alloc (by simp) _)
  go_enter Tryd.func20, Tryd.ntmps20
  go_wp2_with fail
  go_loopw [5, 6, 7, 8] (fun v v' i _ wr => ∃ k : Nat, i = .int .i64 k ∧ k ≤ l.length ∧ letters (l.take k) = true ∧ TwoI w.heap.size wr v v' (sg (l.take k)).length (sg (l.take k)).length (cA (l.take k)) (cB (l.take k)) ∧ Below w.heap.size w wr) (fun _ _ i _ _ => (l.length - intOf i).toNat)
  case atStart => exact ⟨0, rfl, Nat.zero_le _, rfl, T0.out, B0.out⟩
  case round =>
    obtain ⟨k, rfl, hk, hlet, T, B⟩ := hrel
    have HT := Lib.hid T
    have HB := Lib.hid B
    have hc9 := sg_cnt (l.take k)
    have hp1 := sg_pos (l.take k)
    have hlk : (l.take k).length ≤ l.length := by rw [List.length_take]; omega
    obtain ⟨q1, q2, q3, q4⟩ := it_le (l.take k) ((sg (l.take k)).length - 1)
    by_cases hlt : k < l.length
    · have tu := Lib.hid (take_up l k hlt)
      have hmem : l[k] ∈ l := List.getElem_mem hlt
      have lets := Lib.hid (let_snoc (l.take k) l[k])
      have i1 : (k : Int) < ((bs l).size : Int) := by rw [jb]; omega
      obtain ⟨c, hc⟩ : ∃ c, l[k] = c := ⟨_, rfl⟩
      have IX := fun V => idx_at V l k hlt
      rw [hc] at IX hmem lets
      replace tu := Lib.hid (tu.out.trans (by rw [hc]))
      obtain ⟨p, hp⟩ : ∃ p, (sg (l.take k)).length = p + 1 := ⟨(sg (l.take k)).length - 1, by omega⟩
      have HP := Lib.hid hp
      rw [hp] at T q1 q2 q3 q4 hc9
      rw [Nat.add_sub_cancel] at q1 q2 q3 q4
      have TA := Lib.hid T
      clear hp hp1 HT
      have w0 : IntKind.i64.wrap (p : Int) = (p : Int) := IntWalk.i64_in _ (by omega)
      have w2 := w0
      rw [IntWalk.i64_left] at w2
      by_cases c1 : c = 97
      · subst c1
        have IX' : ∀ V : World, (Instr.index 9 (.string (bs l)) (.int .i64 (k : Int))).run Tryd.prog V = .ok (.int .u8 97) V := IX
        clear IX
        obtain ⟨g, g', cc, cc', rfl, rfl, hc1, hc2, hc3, hc4, hL, hS, O1, O2, hgg, hg1, hg2⟩ := TA.out.open
        obtain ⟨z1, z2⟩ := O1.2 p (by omega)
        have hb1 := O1.1
        have w3 : IntKind.i64.wrap (it (cA (l.take k)) p + 1) = it (cA (l.take k)) p + 1 := IntWalk.i64_in _ (by omega)
        have x3 : cc ≤ 9223372036854775807 := hc3
        have HQ := Lib.hid hlet
        clear O1 O2 T B hL hS hlet hmem hc jb hlk
        obtain ⟨xx, hxx⟩ : ∃ xx, it (cA (l.take k)) p = xx := ⟨_, rfl⟩
        have HX := Lib.hid hxx
        rw [hxx] at z1 w3 q1 q2
        clear hxx
        go_wp2_with fail
        go_roundw
        case rel =>
          refine ⟨k + 1, by go_num, by omega, ?_, ?_, (HB.out.setCell hg1 _)⟩
          · rw [tu.out, lets.out, HQ.out]; simp
          · rw [tu.out, sg_len_up _ _ (by decide), HP.out, (cA_a _).1, (cA_a _).2, HP.out, Nat.add_sub_cancel, HX.out]
            exact TA.out.setA p _
        case measure => simp [intOf]; omega
      · by_cases c2 : c = 98
        · subst c2
          have IX' : ∀ V : World, (Instr.index 9 (.string (bs l)) (.int .i64 (k : Int))).run Tryd.prog V = .ok (.int .u8 98) V := IX
          clear IX
          obtain ⟨g, g', cc, cc', rfl, rfl, hc1, hc2, hc3, hc4, hL, hS, O1, O2, hgg, hg1, hg2⟩ := TA.out.open
          obtain ⟨z1, z2⟩ := O2.2 p (by omega)
          have hb1 := O2.1
          have w3 : IntKind.i64.wrap (it (cB (l.take k)) p + 1) = it (cB (l.take k)) p + 1 := IntWalk.i64_in _ (by omega)
          have x3 : cc' ≤ 9223372036854775807 := hc4
          have HQ := Lib.hid hlet
          clear O1 O2 T B hL hS hlet hmem hc jb hlk
          obtain ⟨xx, hxx⟩ : ∃ xx, it (cB (l.take k)) p = xx := ⟨_, rfl⟩
          have HX := Lib.hid hxx
          rw [hxx] at z1 w3 q3 q4
          clear hxx
          go_wp2_with fail
          go_roundw
          case rel =>
            refine ⟨k + 1, by go_num, by omega, ?_, ?_, (HB.out.setCell hg2 _)⟩
            · rw [tu.out, lets.out, HQ.out]; simp
            · rw [tu.out, sg_len_up _ _ (by decide), HP.out, (cB_b _).1, (cB_b _).2, HP.out, Nat.add_sub_cancel, HX.out]
              exact (TA.out.swap.setA p _).swap
          case measure => simp [intOf]; omega
        · by_cases c3 : c = 124
          · subst c3
            have IX' : ∀ V : World, (Instr.index 9 (.string (bs l)) (.int .i64 (k : Int))).run Tryd.prog V = .ok (.int .u8 124) V := IX
            have HQ := Lib.hid hlet
            clear IX T B hlet hmem hc jb q1 q2 q3 q4
            obtain ⟨g, g', cc, cc', rfl, rfl, hc1, hc2, hc3, hc4, _⟩ := TA.out.open
            go_wp2_with (at_builtin; refine wpList_append_own_at _ rfl _ _ 23 rfl w.heap.size 3 i0 (.int .i64 0) 1 8 Tryd.underlying23 hi hz0 hz1 hz2 rfl (by decide) _ _ _ rfl (TA.out.1.alloc _) ⟨_, 0, none⟩ 1 1 [.int .i64 0] rfl rfl (int_new _ _ _) (int_one _) (by unfold maxLen; omega) (by omega) (Nat.le_trans HB.out.size (by simp)) ?_)
            intro v5 w5 o5 g5 _ l5
            have T5 := Lib.hid ((TA.out.alloc _).app o5 g5 (by simpa [World.size_alloc] using l5))
            have B5 := Lib.hid ((HB.out.alloc HB.out.size _).grown g5 (by rw [World.size_alloc]; have := HB.out.size; omega) (fun j hj => ((TA.out.alloc (.cells #[.int .i64 0] 3)).1.lt j hj).1))
            clear o5 g5 l5
            go_wp2_with (at_builtin; refine wpList_append_own_at _ rfl _ _ 23 rfl w.heap.size 3 i0 (.int .i64 0) 1 8 Tryd.underlying23 hi hz0 hz1 hz2 rfl (by decide) _ _ _ rfl (T5.out.2.1.alloc _) ⟨_, 0, none⟩ 1 1 [.int .i64 0] rfl rfl (int_new _ _ _) (int_one _) (by unfold maxLen; omega) (by omega) (Nat.le_trans B5.out.size (by simp)) ?_)
            intro v9 w9 o9 g9 _ l9
            have T9 := Lib.hid (((T5.out.alloc _).swap.app o9 g9 (by simpa [World.size_alloc] using l9)).swap)
            have B9 := Lib.hid ((B5.out.alloc B5.out.size _).grown g9 (by rw [World.size_alloc]; have := B5.out.size; omega) (fun j hj => ((T5.out.alloc (.cells #[.int .i64 0] 3)).2.1.lt j hj).1))
            clear o9 g9 l9
            go_wp2_with fail
            go_roundw
            case rel =>
              refine ⟨k + 1, by go_num, by omega, ?_, ?_, B9.out⟩
              · rw [tu.out, lets.out, HQ.out]; simp
              · rw [tu.out, sg_len_bar, HP.out, (cA_bar _).1, (cA_bar _).2]
                exact T9.out
            case measure => simp [intOf]; omega
          · have HN := Lib.hid (pr_letter hmem c1 c2 c3)
            have d1 : ((c.toNat : Int) == 97) = false := by
              simp only [beq_eq_false_iff_ne, ne_eq]
              intro q
              exact c1 (UInt8.toNat_inj.mp (by show c.toNat = 97; omega))
            have d2 : ((c.toNat : Int) == 98) = false := by
              simp only [beq_eq_false_iff_ne, ne_eq]
              intro q
              exact c2 (UInt8.toNat_inj.mp (by show c.toNat = 98; omega))
            have d3 : ((c.toNat : Int) == 124) = false := by
              simp only [beq_eq_false_iff_ne, ne_eq]
              intro q
              exact c3 (UInt8.toNat_inj.mp (by show c.toNat = 124; omega))
            obtain ⟨g, g', cc, cc', rfl, rfl, hc1, hc2, hc3, hc4, _⟩ := TA.out.open
            clear T B c1 c2 c3 hlet hmem hc jb q1 q2 q3 q4
            go_wp2_with fail
            refine bodyPost_ret (v := .tuple #[.slice (some ⟨wr.heap.size, 0, none⟩) 0 0, .slice (some ⟨wr.heap.size + 1, 0, none⟩) 0 0, .bool false]) (by simp [results, Tryd.results20, go_sem]) rfl ?_
            rw [HN.out, (prA_no HN.out).1, (prA_no HN.out).2]
            exact ⟨_, _, 0, 0, 0, 0, rfl, Nat.le_refl _, Nat.zero_le _, Nat.le_refl _, Nat.zero_le _, ⟨rfl, .inl rfl⟩, ⟨rfl, .inl rfl⟩, (HB.out.alloc HB.out.size _).alloc (by rw [World.size_alloc]; have := HB.out.size; omega) _⟩
    · obtain rfl : k = l.length := by omega
      rw [List.take_length] at HT hc9 hp1 hlet
      have EP := Lib.hid (pr_ok ((letters_ab l).mp hlet))
      obtain ⟨g, g', cc, cc', rfl, rfl, hc1, hc2, hc3, hc4, hL, hS, O1, O2, hgg, hg1, hg2⟩ := HT.out.open
      have i1 : ¬ ((l.length : Nat) : Int) < ((bs l).size : Int) := by rw [jb]; omega
      have I1 := Lib.hid (O1.ints hL (fun _ _ => rfl))
      have I2 := Lib.hid (O2.ints hS (fun _ _ => rfl))
      clear T B O1 O2 hL hS
      by_cases hok : okB (cA l) (cB l) = true
      · have HN := Lib.hid (EP.out.trans hok)
        go_wp2_with fail
        refine (l24Ok_any _ _ _ _ _ _ (cA l) (cB l) _ hc1 hc3 hc2 hc4 I1.out I2.out).mono ?_
        rintro e w2 ⟨rfl, rfl⟩
        rw [hok]
        go_wp2_with fail
        refine bodyPost_ret (v := .tuple #[.slice (some ⟨g, 0, none⟩) (sg l).length cc, .slice (some ⟨g', 0, none⟩) (sg l).length cc', .bool true]) (by simp [results, Tryd.results20, go_sem]) rfl ?_
        rw [HN.out, (prA_yes HN.out).1, (prA_yes HN.out).2]
        exact ⟨_, _, _, _, _, _, rfl, hc1, hc3, hc2, hc4, I1.out, I2.out, HB.out⟩
      · have hok' : okB (cA l) (cB l) = false := by simpa using hok
        have HN := Lib.hid (EP.out.trans hok')
        go_wp2_with fail
        refine (l24Ok_any _ _ _ _ _ _ (cA l) (cB l) _ hc1 hc3 hc2 hc4 I1.out I2.out).mono ?_
        rintro e w2 ⟨rfl, rfl⟩
        rw [hok']
        go_wp2_with fail
        refine bodyPost_ret (v := .tuple #[.slice (some ⟨wr.heap.size, 0, none⟩) 0 0, .slice (some ⟨wr.heap.size + 1, 0, none⟩) 0 0, .bool false]) (by simp [results, Tryd.results20, go_sem]) rfl ?_
        rw [HN.out, (prA_no HN.out).1, (prA_no HN.out).2]
        exact ⟨_, _, 0, 0, 0, 0, rfl, Nat.le_refl _, Nat.zero_le _, Nat.le_refl _, Nat.zero_le _, ⟨rfl, .inl rfl⟩, ⟨rfl, .inl rfl⟩, (HB.out.alloc HB.out.size _).alloc (by rw [World.size_alloc]; have := HB.out.size; omega) _⟩
end Go.Proofs.YtjiffbddgbigcaaDoor
