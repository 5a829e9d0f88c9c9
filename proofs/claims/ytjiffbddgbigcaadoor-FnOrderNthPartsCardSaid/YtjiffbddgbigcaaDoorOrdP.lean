/- impl.OrderParts. -/
import Derived.Test.YtjiffbddgbigcaaDoorRegL
namespace Go.Proofs.YtjiffbddgbigcaaDoor
open Go.RowKit Go.Shelf
attribute [local go_sem] Oper.semAt_some
set_option linter.unusedVariables false
set_option linter.unusedSimpArgs false

theorem splitSeq_any (l : List UInt8) (w : World) : Calls Tryd.prog 39 #[.string (bs l), .string ⟨#[124]⟩] w fun e w' =>
    e = .returned (.func (.func 58) #[] #[.pointer (some ⟨w.heap.size + 1, 0, none⟩), .pointer (some ⟨w.heap.size, 0, none⟩), .pointer (some ⟨w.heap.size + 1 + 1, 0, none⟩)]) ∧
    w' = ((w.alloc (.cells #[.string (bs l)] 9)).alloc (.cells #[.string ⟨#[124]⟩] 9)).alloc (.cells #[.int .i64 0] 3) := by
  go_enter Tryd.func39, Tryd.ntmps39
  go_wp2
  go_ret
  exact ⟨rfl, rfl⟩
theorem box_start (l : List UInt8) (w : World) : BoxI w.heap.size w [] ((((((((w.alloc (.cells #[.slice none 0 0] 23)).alloc (.cells #[.slice none 0 0] 23)).alloc (.cells #[.bool false] 4)).alloc (.cells #[.slice none 0 0] 23)).alloc (.cells #[.slice none 0 0] 23)).alloc (.cells #[.string (bs l)] 9)).alloc (.cells #[.string ⟨#[124]⟩] 9)).alloc (.cells #[.int .i64 0] 3)) ∧ ItS (w.heap.size + 6) (w.heap.size + 5) (w.heap.size + 7) (w.heap.size + 5) (w.heap.size + 8) ((((((((w.alloc (.cells #[.slice none 0 0] 23)).alloc (.cells #[.slice none 0 0] 23)).alloc (.cells #[.bool false] 4)).alloc (.cells #[.slice none 0 0] 23)).alloc (.cells #[.slice none 0 0] 23)).alloc (.cells #[.string (bs l)] 9)).alloc (.cells #[.string ⟨#[124]⟩] 9)).alloc (.cells #[.int .i64 0] 3)) l ∧ (((((((((w.alloc (.cells #[.slice none 0 0] 23)).alloc (.cells #[.slice none 0 0] 23)).alloc (.cells #[.bool false] 4)).alloc (.cells #[.slice none 0 0] 23)).alloc (.cells #[.slice none 0 0] 23)).alloc (.cells #[.string (bs l)] 9)).alloc (.cells #[.string ⟨#[124]⟩] 9)).alloc (.cells #[.int .i64 0] 3))).heap.size = w.heap.size + 8 := by
  refine ⟨⟨⟨⟨by simp [go_sem], by simp [go_sem], by simp [go_sem]⟩, ⟨by simp [go_sem], by simp [go_sem], by simp [go_sem]⟩⟩, ⟨.slice none 0 0, .slice none 0 0, by simp [go_sem], by simp [go_sem], Row2.nil _ _⟩, ⟨by simp [go_sem], by simp [go_sem]⟩, fun s (hs : s ∈ []) => (by cases hs), ?_, by simp⟩, ⟨by simp [go_sem], by simp [go_sem], by simp [go_sem], by simp [go_sem]⟩, by simp⟩
  repeat (refine Below.alloc ?_ (by first | exact Nat.le_refl _ | (simp only [World.size_alloc]; omega)) _)
  exact Below.refl _ _
theorem seg_it (l : List UInt8) (hl : l.length ≤ 1000) (n : Nat) (w : World) (hz : w.heap.size = n + 8) (h : ItS (n + 6) (n + 5) (n + 7) (n + 5) (n + 8) w l) :
    SegIt Fence.wide 5 Tryd.prog 58 #[.pointer (some ⟨n + 6, 0, none⟩), .pointer (some ⟨n + 5, 0, none⟩), .pointer (some ⟨n + 7, 0, none⟩)] (n + 5) (KR (n + 5) (n + 8)) (sg l) w := by
  intro lp J Jx W hb hJs hY h0
  exact split1_in 5 (by omega) lp (n + 6) (n + 5) (n + 7) (n + 5) (n + 8) (by omega) (by omega) (by omega) (by omega) (by omega) l hl J Jx hJs hY W (h.kr (fun b h1 h2 => hb.block b (by omega)) (by omega) (by omega) (by omega)) h0
set_option maxRecDepth 100000 in
set_option maxHeartbeats 3200000 in
theorem implParts_own (l : List UInt8) (hl : l.length ≤ 1048576) (w : World) :
    Calls Tryd.prog 16 #[.string (bs l)] w fun e w' => ∃ (a b : Option Addr) (n m c c' : Nat), e = .returned (.tuple #[.slice a n c, .slice b m c', .bool (prB l)]) ∧ n ≤ c ∧ c ≤ maxLen ∧ m ≤ c' ∧ c' ≤ maxLen ∧ Ints w' a n (prA l) ∧ Ints w' b m (prC l) ∧ Below w.heap.size w w' ∧ OwnP w.heap.size w' a b n m (prA l) (prC l) := by
  refine (callsIn_wide (n := 6)).1 ?_
  refine callsIn_of_wp_marks Tryd.func16 rfl trivial ?_ rfl
  simp only [Tryd.ntmps16, List.size_toArray, List.length_cons, List.length_nil, Nat.reduceAdd, Nat.reduceSub, Array.replicate_succ, Array.replicate_zero, List.push_toArray, List.append_toArray, List.nil_append, List.cons_append]
  by_cases h52 : 52 < l.length
  · have i1 : (52 : Int) < ((bs l).size : Int) := by rw [bs_size]; omega
    gi_wp2
    refine leaves_none (v := .tuple #[.slice none 0 0, .slice none 0 0, .bool false]) (by simp [results, Tryd.results16, go_sem]) (parts_no (pr_long h52) ?_)
    repeat (refine Below.alloc ?_ (by first | exact Nat.le_refl _ | (simp only [World.size_alloc]; omega)) _)
    exact Below.refl _ _
  · have i1 : ¬ (52 : Int) < ((bs l).size : Int) := by rw [bs_size]; omega
    gi_wp2_with (refine ⟨trivial, ?_⟩; gi_at_call 39; refine (callsIn_wide.2 (splitSeq_any l _)).mono ?_; rintro e w' ⟨rfl, rfl⟩)
    simp only [Nat.add_assoc, Nat.reduceAdd]
    obtain ⟨B0, IT0, Z0⟩ := box_start l w
    generalize ((((((((w.alloc (.cells #[.slice none 0 0] 23)).alloc (.cells #[.slice none 0 0] 23)).alloc (.cells #[.bool false] 4)).alloc (.cells #[.slice none 0 0] 23)).alloc (.cells #[.slice none 0 0] 23)).alloc (.cells #[.string (bs l)] 9)).alloc (.cells #[.string ⟨#[124]⟩] 9)).alloc (.cells #[.int .i64 0] 3)) = w0 at B0 IT0 Z0 ⊢
    have HB0 := Lib.hid B0
    have HI0 := Lib.hid IT0
    clear B0 IT0
    refine wp_rangeS (F := Fence.wide) (n := 6) rfl (by omega) (gf := 58) rfl trivial (fun args w => rfl) (bS := w.heap.size + 5) (by omega) (Kp := KR (w.heap.size + 5) (w.heap.size + 8)) (S := sg l) (seg_it l (by omega) _ _ Z0 HI0.out) (fun h k => h.trans k) (fun W l o hl => KR.putObj W o (by omega)) rfl
      (BoxI w.heap.size w) (BoxX w.heap.size w l) (Z0 ▸ BoxI.turn rfl) (fun c => Z0 ▸ BoxX.turn rfl l c) (fun s A v h => h.set s A v) HB0.out (fun x => { tmps := #[.string (bs l), undef, .pointer (some ⟨w.heap.size, 0, none⟩), .pointer (some ⟨w.heap.size + 1, 0, none⟩), .pointer (some ⟨w.heap.size + 2, 0, none⟩), .pointer (some ⟨w.heap.size + 3, 0, none⟩), .pointer (some ⟨w.heap.size + 4, 0, none⟩), .string (bs x), undef, undef, .string (bs l), .int .i64 (bs l).size, .bool false, .string (bs l), .func (.func 58) #[] #[.pointer (some ⟨w.heap.size + 6, 0, none⟩), .pointer (some ⟨w.heap.size + 5, 0, none⟩), .pointer (some ⟨w.heap.size + 7, 0, none⟩)], .string (bs x), undef, undef, undef, undef, undef, undef, undef, undef, undef, undef, undef, undef, undef, undef, undef, undef, undef, undef, undef, undef, undef, undef, undef, undef], defers := [] }) ?asg ?body ?done ?stop
    case asg =>
      intro lp x W K hK
      gi_wp2
      exact hK
    case body =>
      intro lp pre x W ⟨rr, hpx⟩ hi
      have hmem : x ∈ sg l := by rw [hpx]; simp
      have hxl := sg_le l x hmem
      obtain ⟨ac1, ac2⟩ := ab_count x
      have ja : ((bs x).size : Int) = (x.length : Int) := by rw [bs_size]
      obtain ⟨ca, hca⟩ : ∃ ca, x.count 97 = ca := ⟨_, rfl⟩
      obtain ⟨cb, hcb⟩ : ∃ cb, x.count 98 = cb := ⟨_, rfl⟩
      rw [hca, hcb] at ac1 ac2
      have HCA := Lib.hid hca
      have HCB := Lib.hid hcb
      have w1 : IntKind.i64.wrap ((ca : Int) + (cb : Int)) = (ca : Int) + (cb : Int) := IntWalk.i64_in _ (by omega)
      have HI := Lib.hid hi
      obtain ⟨⟨⟨r1, r2, r3⟩, r4, r5, r6⟩, _, ⟨_, _⟩, _, hb, hsz⟩ := hi
      have HBB := Lib.hid hb
      clear hca hcb hb
      by_cases hab : ab x = true
      · have AC := Lib.hid ac2
        have d1 : ((ca : Int) + (cb : Int) != ((bs x).size : Int)) = false := by rw [ja, ← ac2.mpr hab]; simp
        clear ac2
        replace d1 := Lib.hid d1
        have d2 : ((ca : Int) + (cb : Int) != (x.length : Int)) = false := by rw [← ja]; exact d1.out
        gi_wp2_with (refine ⟨trivial, ?_⟩; gi_at_call 40; (first | (with_reducible refine (CallsIn.inRound lp (callsIn_wide.2 (count_any x 97 _ ca HCA.out))).mono ?_) | (with_reducible refine (CallsIn.inRound lp (callsIn_wide.2 (count_any x 98 _ cb HCB.out))).mono ?_)); rintro e w' ⟨rfl, rfl⟩)
        obtain ⟨R0, ⟨v, v', c1, c2, T2⟩, ⟨f1, f2⟩, ha0, hb0, hz0⟩ := HI.out
        obtain ⟨i0, hi, hz0', hz1, hz2⟩ := info_parts infoInt
        have hz0 := hz0'
        have C1 := Lib.hid c1
        have C2 := Lib.hid c2
        have F1 := Lib.hid f1
        have F2 := Lib.hid f2
        have HST := Lib.hid (show St w.heap.size W W.drew v v' pre.length pre.length (nA pre) (nB pre) from ⟨(Below.refl _ _).drew, ⟨Nat.le_refl _, fun k o _ h _ => h⟩, T2.drew, hsz⟩)
        have HAB := Lib.hid hab
        have hpl : pre.length ≤ 60 := by
          have q := sg_cnt l
          rw [hpx, List.length_append, List.length_cons] at q
          omega
        clear T2 R0 ha0 hb0 c1 c2 f1 f2 r1 r2 r3 r4 r5 r6 d1 d2 hab ac1 ja w1 hmem hxl
        have hH : (fun W' : World => W'.cell? ⟨w.heap.size + 4, 0, none⟩ = some v') W.drew := C2.out
        refine wpIn_region_last lp (6 - 1 - 1) (fun W' => W'.cell? ⟨w.heap.size + 4, 0, none⟩ = some v') 9 (by simp) rfl (noDefer_of (by kernel_rfl)) (by kernel_rfl) (by kernel_rfl) (by kernel_rfl) ?_
        simp only [List.take_succ_cons, List.take_zero]
        refine wpAnyH_take (i := 1) (v := ?v1) rfl (by kernel_rfl) (by kernel_rfl) (by kernel_rfl) (fun _ _ _ h => h) (Or.inl ⟨by rfl, ?y1⟩) (by assumption) ?r1
        case y1 => intro w hSw; (try dsimp only at hSw); go_simp; try with_reducible rfl
        try simp only [Act.put, List.getElem_toArray, List.getElem_cons_zero, List.getElem_cons_succ, List.setIfInBounds_toArray, List.set_cons_zero, List.set_cons_succ]
        refine wpAnyH_take (i := 5) (v := ?v5) rfl (by kernel_rfl) (by kernel_rfl) (by kernel_rfl) (fun _ _ _ h => h) (Or.inl ⟨by rfl, ?y5⟩) (by assumption) ?r5
        case y5 => intro w hSw; (try dsimp only at hSw); go_simp; try with_reducible rfl
        try simp only [Act.put, List.getElem_toArray, List.getElem_cons_zero, List.getElem_cons_succ, List.setIfInBounds_toArray, List.set_cons_zero, List.set_cons_succ]
        refine wpAnyH_take (i := 4) (v := ?v4) rfl (by kernel_rfl) (by kernel_rfl) (by kernel_rfl) (fun _ _ _ h => h) (Or.inl ⟨by rfl, ?y4⟩) (by assumption) ?r4
        case y4 => intro w hSw; (try dsimp only at hSw); go_simp; try with_reducible rfl
        try simp only [Act.put, List.getElem_toArray, List.getElem_cons_zero, List.getElem_cons_succ, List.setIfInBounds_toArray, List.set_cons_zero, List.set_cons_succ]
        refine wpAnyH_ready (rs := [0, 2, 6]) (by kernel_rfl) (by simp) ?_
        refine AllReadyH.cons (i := 0) rfl (fun K hK => ?_) ?_
        · have c1' : W.cell? ⟨w.heap.size + 3, 0, none⟩ = some v := HST.out.cell (k := w.heap.size + 3) (by omega) C1.out
          go_simp
          refine hK.out _ _ (by exact (HST.out.cell (k := w.heap.size + 4) (by omega) C2.out)) (fun hH => ?_)
          clear hK K c1'
          try simp only [Act.put, List.getElem_toArray, List.getElem_cons_zero, List.getElem_cons_succ, List.setIfInBounds_toArray, List.set_cons_zero, List.set_cons_succ]
          refine wpAnyH_ready (rs := [2, 6]) (by kernel_rfl) (by simp) ?_
          refine AllReadyH.cons (i := 2) rfl (fun K hK => ?_) ?_
          · go_simp
            have BKA := Lib.hid (bk_new HST.out (ca : Int) W.heap.size rfl)
            replace HST := Lib.hid (HST.out.alloc (.cells #[.int .i64 (ca : Int)] 3))
            refine hK.out _ _ (by exact (HST.out.cell (k := w.heap.size + 4) (by omega) C2.out)) (fun hH => ?_)
            clear hK K
            try simp only [Act.put, List.getElem_toArray, List.getElem_cons_zero, List.getElem_cons_succ, List.setIfInBounds_toArray, List.set_cons_zero, List.set_cons_succ]
            refine wpAnyH_ready (rs := [3, 6]) (by kernel_rfl) (by simp) ?_
            refine AllReadyH.cons (i := 3) rfl (fun K hK => ?_) ?_
            · refine step_append_at (by rfl) _ _ 23 (by rfl) (w.heap.size + 8) 3 i0 (.int .i64 0) 1 8 Tryd.underlying23 hi hz0 hz1 hz2 rfl (by decide) v pre.length (il (nA pre)) (by rfl) HST.out.2.2.1.1 ⟨_, 0, none⟩ 1 1 [.int .i64 (ca : Int)] (by rfl) (by rfl) (bk_news BKA.out.1) (int_one _) (by unfold maxLen; omega) (by omega) HST.out.2.2.2 ?_
              intro u w3 o3 g3 l3
              replace HST := Lib.hid (HST.out.appA o3 g3 l3)
              refine hK.out _ _ (by exact (HST.out.cell (k := w.heap.size + 4) (by omega) C2.out)) (fun hH => ?_)
              clear hK K o3 g3 l3
              try simp only [Act.put, List.getElem_toArray, List.getElem_cons_zero, List.getElem_cons_succ, List.setIfInBounds_toArray, List.set_cons_zero, List.set_cons_succ]
              refine wpAnyH_ready (rs := [6]) (by kernel_rfl) (by simp) ?_
              refine AllReadyH.cons (i := 6) rfl (fun K hK => ?_) AllReadyH.nil
              · go_simp
                have BKB := Lib.hid (bk_new HST.out.swap (cb : Int) _ rfl)
                have BKV := Lib.hid (bk_new HST.out (cb : Int) _ rfl)
                replace HST := Lib.hid (HST.out.alloc (.cells #[.int .i64 (cb : Int)] 3))
                refine hK.out _ _ (by exact (HST.out.cell (k := w.heap.size + 4) (by omega) C2.out)) (fun hH => ?_)
                clear hK K
                try simp only [Act.put, List.getElem_toArray, List.getElem_cons_zero, List.getElem_cons_succ, List.setIfInBounds_toArray, List.set_cons_zero, List.set_cons_succ]
                refine wpAnyH_ready (rs := [7]) (by kernel_rfl) (by simp) ?_
                refine AllReadyH.cons (i := 7) rfl (fun K hK => ?_) AllReadyH.nil
                · refine step_append_at (by rfl) _ _ 23 (by rfl) (w.heap.size + 8) 3 i0 (.int .i64 0) 1 8 Tryd.underlying23 hi hz0 hz1 hz2 rfl (by decide) v' pre.length (il (nB pre)) (by rfl) HST.out.2.2.1.2.1 ⟨_, 0, none⟩ 1 1 [.int .i64 (cb : Int)] (by rfl) (by rfl) (bk_news BKB.out.1) (int_one _) (by unfold maxLen; omega) (by omega) HST.out.2.2.2 ?_
                  intro u' w7 o7 g7 l7
                  replace HST := Lib.hid ((HST.out.swap.appA o7 g7 l7).swap)
                  refine hK.out _ _ (by exact (HST.out.cell (k := w.heap.size + 4) (by omega) C2.out)) (fun hH => ?_)
                  clear hK K o7 g7 l7
                  try simp only [Act.put, List.getElem_toArray, List.getElem_cons_zero, List.getElem_cons_succ, List.setIfInBounds_toArray, List.set_cons_zero, List.set_cons_succ]
                  refine wpAnyH_ready (rs := [8]) (by kernel_rfl) (by simp) ?_
                  refine AllReadyH.cons (i := 8) rfl (fun K hK => ?_) AllReadyH.nil
                  · obtain ⟨gu, cu, rfl, _, _⟩ := World.ownsRow.form HST.out.2.2.1.1 (by omega)
                    obtain ⟨gv, cv, rfl, _, _⟩ := World.ownsRow.form HST.out.2.2.1.2.1 (by omega)
                    have c1' := HST.out.cell (k := w.heap.size + 3) (by omega) C1.out
                    have f1' := HST.out.frozen (k := w.heap.size + 3) (by omega) F1.out
                    go_simp
                    refine hK.out _ _ ((World.cell?_setCell_other w7 ⟨w.heap.size + 3, 0, none⟩ ⟨w.heap.size + 4, 0, none⟩ _ (by simp)).trans (HST.out.cell (k := w.heap.size + 4) (by omega) C2.out)) (fun hH => ?_)
                    clear hK K c1' f1'
                    try simp only [Act.put, List.getElem_toArray, List.getElem_cons_zero, List.getElem_cons_succ, List.setIfInBounds_toArray, List.set_cons_zero, List.set_cons_succ]
                    refine wpAnyH_done (by kernel_rfl) ?_ _
                    have c2' := HST.out.cell (k := w.heap.size + 4) (by omega) C2.out
                    have f2' := HST.out.frozen (k := w.heap.size + 4) (by omega) F2.out
                    have FB := Lib.hid (St.box rfl HI.out HAB.out (by rw [HCA.out, HCB.out]; exact HST.out))
                    dsimp only [LastQ]
                    go_simp
                    first
                      | exact ⟨FB.out.1, FB.out.2.1, FB.out.2.2⟩
                      | exact ⟨Z0 ▸ FB.out.1, FB.out.2.1, FB.out.2.2⟩
            refine AllReadyH.cons (i := 6) rfl (fun K hK => ?_) AllReadyH.nil
            · go_simp
              have BKB := Lib.hid (bk_new HST.out.swap (cb : Int) (W.heap.size + 1) (by rw [World.size_alloc]; rfl))
              have BKV := Lib.hid (bk_new HST.out (cb : Int) (W.heap.size + 1) (by rw [World.size_alloc]; rfl))
              replace BKA := Lib.hid (BKA.out.alloc (.cells #[.int .i64 (cb : Int)] 3))
              replace HST := Lib.hid (HST.out.alloc (.cells #[.int .i64 (cb : Int)] 3))
              refine hK.out _ _ (by exact (HST.out.cell (k := w.heap.size + 4) (by omega) C2.out)) (fun hH => ?_)
              clear hK K
              try simp only [Act.put, List.getElem_toArray, List.getElem_cons_zero, List.getElem_cons_succ, List.setIfInBounds_toArray, List.set_cons_zero, List.set_cons_succ]
              refine wpAnyH_ready (rs := [3]) (by kernel_rfl) (by simp) ?_
              refine AllReadyH.cons (i := 3) rfl (fun K hK => ?_) AllReadyH.nil
              · refine step_append_at (by rfl) _ _ 23 (by rfl) (w.heap.size + 8) 3 i0 (.int .i64 0) 1 8 Tryd.underlying23 hi hz0 hz1 hz2 rfl (by decide) v pre.length (il (nA pre)) (by rfl) HST.out.2.2.1.1 ⟨_, 0, none⟩ 1 1 [.int .i64 (ca : Int)] (by rfl) (by rfl) (bk_news BKA.out.1) (int_one _) (by unfold maxLen; omega) (by omega) HST.out.2.2.2 ?_
                intro u w3 o3 g3 l3
                have NB := Lib.hid (BKV.out.app g3)
                replace HST := Lib.hid (HST.out.appA o3 g3 l3)
                refine hK.out _ _ (by exact (HST.out.cell (k := w.heap.size + 4) (by omega) C2.out)) (fun hH => ?_)
                clear hK K o3 g3 l3
                try simp only [Act.put, List.getElem_toArray, List.getElem_cons_zero, List.getElem_cons_succ, List.setIfInBounds_toArray, List.set_cons_zero, List.set_cons_succ]
                refine wpAnyH_ready (rs := [7]) (by kernel_rfl) (by simp) ?_
                refine AllReadyH.cons (i := 7) rfl (fun K hK => ?_) AllReadyH.nil
                · refine step_append_at (by rfl) _ _ 23 (by rfl) (w.heap.size + 8) 3 i0 (.int .i64 0) 1 8 Tryd.underlying23 hi hz0 hz1 hz2 rfl (by decide) v' pre.length (il (nB pre)) (by rfl) HST.out.2.2.1.2.1 ⟨_, 0, none⟩ 1 1 [.int .i64 (cb : Int)] (by rfl) (by rfl) (bk_news NB.out) (int_one _) (by unfold maxLen; omega) (by omega) HST.out.2.2.2 ?_
                  intro u' w7 o7 g7 l7
                  replace HST := Lib.hid ((HST.out.swap.appA o7 g7 l7).swap)
                  refine hK.out _ _ (by exact (HST.out.cell (k := w.heap.size + 4) (by omega) C2.out)) (fun hH => ?_)
                  clear hK K o7 g7 l7
                  try simp only [Act.put, List.getElem_toArray, List.getElem_cons_zero, List.getElem_cons_succ, List.setIfInBounds_toArray, List.set_cons_zero, List.set_cons_succ]
                  refine wpAnyH_ready (rs := [8]) (by kernel_rfl) (by simp) ?_
                  refine AllReadyH.cons (i := 8) rfl (fun K hK => ?_) AllReadyH.nil
                  · obtain ⟨gu, cu, rfl, _, _⟩ := World.ownsRow.form HST.out.2.2.1.1 (by omega)
                    obtain ⟨gv, cv, rfl, _, _⟩ := World.ownsRow.form HST.out.2.2.1.2.1 (by omega)
                    have c1' := HST.out.cell (k := w.heap.size + 3) (by omega) C1.out
                    have f1' := HST.out.frozen (k := w.heap.size + 3) (by omega) F1.out
                    go_simp
                    refine hK.out _ _ ((World.cell?_setCell_other w7 ⟨w.heap.size + 3, 0, none⟩ ⟨w.heap.size + 4, 0, none⟩ _ (by simp)).trans (HST.out.cell (k := w.heap.size + 4) (by omega) C2.out)) (fun hH => ?_)
                    clear hK K c1' f1'
                    try simp only [Act.put, List.getElem_toArray, List.getElem_cons_zero, List.getElem_cons_succ, List.setIfInBounds_toArray, List.set_cons_zero, List.set_cons_succ]
                    refine wpAnyH_done (by kernel_rfl) ?_ _
                    have c2' := HST.out.cell (k := w.heap.size + 4) (by omega) C2.out
                    have f2' := HST.out.frozen (k := w.heap.size + 4) (by omega) F2.out
                    have FB := Lib.hid (St.box rfl HI.out HAB.out (by rw [HCA.out, HCB.out]; exact HST.out))
                    dsimp only [LastQ]
                    go_simp
                    first
                      | exact ⟨FB.out.1, FB.out.2.1, FB.out.2.2⟩
                      | exact ⟨Z0 ▸ FB.out.1, FB.out.2.1, FB.out.2.2⟩
          refine AllReadyH.cons (i := 6) rfl (fun K hK => ?_) AllReadyH.nil
          · go_simp
            have BKB := Lib.hid (bk_new HST.out.swap (cb : Int) W.heap.size rfl)
            have BKV := Lib.hid (bk_new HST.out (cb : Int) W.heap.size rfl)
            replace HST := Lib.hid (HST.out.alloc (.cells #[.int .i64 (cb : Int)] 3))
            refine hK.out _ _ (by exact (HST.out.cell (k := w.heap.size + 4) (by omega) C2.out)) (fun hH => ?_)
            clear hK K
            try simp only [Act.put, List.getElem_toArray, List.getElem_cons_zero, List.getElem_cons_succ, List.setIfInBounds_toArray, List.set_cons_zero, List.set_cons_succ]
            refine wpAnyH_ready (rs := [2]) (by kernel_rfl) (by simp) ?_
            refine AllReadyH.cons (i := 2) rfl (fun K hK => ?_) AllReadyH.nil
            · go_simp
              have BKA := Lib.hid (bk_new HST.out (ca : Int) (W.heap.size + 1) (by rw [World.size_alloc]; rfl))
              replace BKB := Lib.hid (BKB.out.alloc (.cells #[.int .i64 (ca : Int)] 3))
              replace BKV := Lib.hid (BKV.out.alloc (.cells #[.int .i64 (ca : Int)] 3))
              replace HST := Lib.hid (HST.out.alloc (.cells #[.int .i64 (ca : Int)] 3))
              refine hK.out _ _ (by exact (HST.out.cell (k := w.heap.size + 4) (by omega) C2.out)) (fun hH => ?_)
              clear hK K
              try simp only [Act.put, List.getElem_toArray, List.getElem_cons_zero, List.getElem_cons_succ, List.setIfInBounds_toArray, List.set_cons_zero, List.set_cons_succ]
              refine wpAnyH_ready (rs := [3]) (by kernel_rfl) (by simp) ?_
              refine AllReadyH.cons (i := 3) rfl (fun K hK => ?_) AllReadyH.nil
              · refine step_append_at (by rfl) _ _ 23 (by rfl) (w.heap.size + 8) 3 i0 (.int .i64 0) 1 8 Tryd.underlying23 hi hz0 hz1 hz2 rfl (by decide) v pre.length (il (nA pre)) (by rfl) HST.out.2.2.1.1 ⟨_, 0, none⟩ 1 1 [.int .i64 (ca : Int)] (by rfl) (by rfl) (bk_news BKA.out.1) (int_one _) (by unfold maxLen; omega) (by omega) HST.out.2.2.2 ?_
                intro u w3 o3 g3 l3
                have NB := Lib.hid (BKV.out.app g3)
                replace HST := Lib.hid (HST.out.appA o3 g3 l3)
                refine hK.out _ _ (by exact (HST.out.cell (k := w.heap.size + 4) (by omega) C2.out)) (fun hH => ?_)
                clear hK K o3 g3 l3
                try simp only [Act.put, List.getElem_toArray, List.getElem_cons_zero, List.getElem_cons_succ, List.setIfInBounds_toArray, List.set_cons_zero, List.set_cons_succ]
                refine wpAnyH_ready (rs := [7]) (by kernel_rfl) (by simp) ?_
                refine AllReadyH.cons (i := 7) rfl (fun K hK => ?_) AllReadyH.nil
                · refine step_append_at (by rfl) _ _ 23 (by rfl) (w.heap.size + 8) 3 i0 (.int .i64 0) 1 8 Tryd.underlying23 hi hz0 hz1 hz2 rfl (by decide) v' pre.length (il (nB pre)) (by rfl) HST.out.2.2.1.2.1 ⟨_, 0, none⟩ 1 1 [.int .i64 (cb : Int)] (by rfl) (by rfl) (bk_news NB.out) (int_one _) (by unfold maxLen; omega) (by omega) HST.out.2.2.2 ?_
                  intro u' w7 o7 g7 l7
                  replace HST := Lib.hid ((HST.out.swap.appA o7 g7 l7).swap)
                  refine hK.out _ _ (by exact (HST.out.cell (k := w.heap.size + 4) (by omega) C2.out)) (fun hH => ?_)
                  clear hK K o7 g7 l7
                  try simp only [Act.put, List.getElem_toArray, List.getElem_cons_zero, List.getElem_cons_succ, List.setIfInBounds_toArray, List.set_cons_zero, List.set_cons_succ]
                  refine wpAnyH_ready (rs := [8]) (by kernel_rfl) (by simp) ?_
                  refine AllReadyH.cons (i := 8) rfl (fun K hK => ?_) AllReadyH.nil
                  · obtain ⟨gu, cu, rfl, _, _⟩ := World.ownsRow.form HST.out.2.2.1.1 (by omega)
                    obtain ⟨gv, cv, rfl, _, _⟩ := World.ownsRow.form HST.out.2.2.1.2.1 (by omega)
                    have c1' := HST.out.cell (k := w.heap.size + 3) (by omega) C1.out
                    have f1' := HST.out.frozen (k := w.heap.size + 3) (by omega) F1.out
                    go_simp
                    refine hK.out _ _ ((World.cell?_setCell_other w7 ⟨w.heap.size + 3, 0, none⟩ ⟨w.heap.size + 4, 0, none⟩ _ (by simp)).trans (HST.out.cell (k := w.heap.size + 4) (by omega) C2.out)) (fun hH => ?_)
                    clear hK K c1' f1'
                    try simp only [Act.put, List.getElem_toArray, List.getElem_cons_zero, List.getElem_cons_succ, List.setIfInBounds_toArray, List.set_cons_zero, List.set_cons_succ]
                    refine wpAnyH_done (by kernel_rfl) ?_ _
                    have c2' := HST.out.cell (k := w.heap.size + 4) (by omega) C2.out
                    have f2' := HST.out.frozen (k := w.heap.size + 4) (by omega) F2.out
                    have FB := Lib.hid (St.box rfl HI.out HAB.out (by rw [HCA.out, HCB.out]; exact HST.out))
                    dsimp only [LastQ]
                    go_simp
                    first
                      | exact ⟨FB.out.1, FB.out.2.1, FB.out.2.2⟩
                      | exact ⟨Z0 ▸ FB.out.1, FB.out.2.1, FB.out.2.2⟩
        refine AllReadyH.cons (i := 2) rfl (fun K hK => ?_) ?_
        · go_simp
          have BKA := Lib.hid (bk_new HST.out (ca : Int) W.heap.size rfl)
          replace HST := Lib.hid (HST.out.alloc (.cells #[.int .i64 (ca : Int)] 3))
          refine hK.out _ _ (by exact (HST.out.cell (k := w.heap.size + 4) (by omega) C2.out)) (fun hH => ?_)
          clear hK K
          try simp only [Act.put, List.getElem_toArray, List.getElem_cons_zero, List.getElem_cons_succ, List.setIfInBounds_toArray, List.set_cons_zero, List.set_cons_succ]
          refine wpAnyH_ready (rs := [0, 6]) (by kernel_rfl) (by simp) ?_
          refine AllReadyH.cons (i := 0) rfl (fun K hK => ?_) ?_
          · have c1' : (W.alloc (.cells #[.int .i64 (ca : Int)] 3)).cell? ⟨w.heap.size + 3, 0, none⟩ = some v := HST.out.cell (k := w.heap.size + 3) (by omega) C1.out
            go_simp
            refine hK.out _ _ (by exact (HST.out.cell (k := w.heap.size + 4) (by omega) C2.out)) (fun hH => ?_)
            clear hK K c1'
            try simp only [Act.put, List.getElem_toArray, List.getElem_cons_zero, List.getElem_cons_succ, List.setIfInBounds_toArray, List.set_cons_zero, List.set_cons_succ]
            refine wpAnyH_ready (rs := [3, 6]) (by kernel_rfl) (by simp) ?_
            refine AllReadyH.cons (i := 3) rfl (fun K hK => ?_) ?_
            · refine step_append_at (by rfl) _ _ 23 (by rfl) (w.heap.size + 8) 3 i0 (.int .i64 0) 1 8 Tryd.underlying23 hi hz0 hz1 hz2 rfl (by decide) v pre.length (il (nA pre)) (by rfl) HST.out.2.2.1.1 ⟨_, 0, none⟩ 1 1 [.int .i64 (ca : Int)] (by rfl) (by rfl) (bk_news BKA.out.1) (int_one _) (by unfold maxLen; omega) (by omega) HST.out.2.2.2 ?_
              intro u w3 o3 g3 l3
              replace HST := Lib.hid (HST.out.appA o3 g3 l3)
              refine hK.out _ _ (by exact (HST.out.cell (k := w.heap.size + 4) (by omega) C2.out)) (fun hH => ?_)
              clear hK K o3 g3 l3
              try simp only [Act.put, List.getElem_toArray, List.getElem_cons_zero, List.getElem_cons_succ, List.setIfInBounds_toArray, List.set_cons_zero, List.set_cons_succ]
              refine wpAnyH_ready (rs := [6]) (by kernel_rfl) (by simp) ?_
              refine AllReadyH.cons (i := 6) rfl (fun K hK => ?_) AllReadyH.nil
              · go_simp
                have BKB := Lib.hid (bk_new HST.out.swap (cb : Int) _ rfl)
                have BKV := Lib.hid (bk_new HST.out (cb : Int) _ rfl)
                replace HST := Lib.hid (HST.out.alloc (.cells #[.int .i64 (cb : Int)] 3))
                refine hK.out _ _ (by exact (HST.out.cell (k := w.heap.size + 4) (by omega) C2.out)) (fun hH => ?_)
                clear hK K
                try simp only [Act.put, List.getElem_toArray, List.getElem_cons_zero, List.getElem_cons_succ, List.setIfInBounds_toArray, List.set_cons_zero, List.set_cons_succ]
                refine wpAnyH_ready (rs := [7]) (by kernel_rfl) (by simp) ?_
                refine AllReadyH.cons (i := 7) rfl (fun K hK => ?_) AllReadyH.nil
                · refine step_append_at (by rfl) _ _ 23 (by rfl) (w.heap.size + 8) 3 i0 (.int .i64 0) 1 8 Tryd.underlying23 hi hz0 hz1 hz2 rfl (by decide) v' pre.length (il (nB pre)) (by rfl) HST.out.2.2.1.2.1 ⟨_, 0, none⟩ 1 1 [.int .i64 (cb : Int)] (by rfl) (by rfl) (bk_news BKB.out.1) (int_one _) (by unfold maxLen; omega) (by omega) HST.out.2.2.2 ?_
                  intro u' w7 o7 g7 l7
                  replace HST := Lib.hid ((HST.out.swap.appA o7 g7 l7).swap)
                  refine hK.out _ _ (by exact (HST.out.cell (k := w.heap.size + 4) (by omega) C2.out)) (fun hH => ?_)
                  clear hK K o7 g7 l7
                  try simp only [Act.put, List.getElem_toArray, List.getElem_cons_zero, List.getElem_cons_succ, List.setIfInBounds_toArray, List.set_cons_zero, List.set_cons_succ]
                  refine wpAnyH_ready (rs := [8]) (by kernel_rfl) (by simp) ?_
                  refine AllReadyH.cons (i := 8) rfl (fun K hK => ?_) AllReadyH.nil
                  · obtain ⟨gu, cu, rfl, _, _⟩ := World.ownsRow.form HST.out.2.2.1.1 (by omega)
                    obtain ⟨gv, cv, rfl, _, _⟩ := World.ownsRow.form HST.out.2.2.1.2.1 (by omega)
                    have c1' := HST.out.cell (k := w.heap.size + 3) (by omega) C1.out
                    have f1' := HST.out.frozen (k := w.heap.size + 3) (by omega) F1.out
                    go_simp
                    refine hK.out _ _ ((World.cell?_setCell_other w7 ⟨w.heap.size + 3, 0, none⟩ ⟨w.heap.size + 4, 0, none⟩ _ (by simp)).trans (HST.out.cell (k := w.heap.size + 4) (by omega) C2.out)) (fun hH => ?_)
                    clear hK K c1' f1'
                    try simp only [Act.put, List.getElem_toArray, List.getElem_cons_zero, List.getElem_cons_succ, List.setIfInBounds_toArray, List.set_cons_zero, List.set_cons_succ]
                    refine wpAnyH_done (by kernel_rfl) ?_ _
                    have c2' := HST.out.cell (k := w.heap.size + 4) (by omega) C2.out
                    have f2' := HST.out.frozen (k := w.heap.size + 4) (by omega) F2.out
                    have FB := Lib.hid (St.box rfl HI.out HAB.out (by rw [HCA.out, HCB.out]; exact HST.out))
                    dsimp only [LastQ]
                    go_simp
                    first
                      | exact ⟨FB.out.1, FB.out.2.1, FB.out.2.2⟩
                      | exact ⟨Z0 ▸ FB.out.1, FB.out.2.1, FB.out.2.2⟩
            refine AllReadyH.cons (i := 6) rfl (fun K hK => ?_) AllReadyH.nil
            · go_simp
              have BKB := Lib.hid (bk_new HST.out.swap (cb : Int) (W.heap.size + 1) (by rw [World.size_alloc]; rfl))
              have BKV := Lib.hid (bk_new HST.out (cb : Int) (W.heap.size + 1) (by rw [World.size_alloc]; rfl))
              replace BKA := Lib.hid (BKA.out.alloc (.cells #[.int .i64 (cb : Int)] 3))
              replace HST := Lib.hid (HST.out.alloc (.cells #[.int .i64 (cb : Int)] 3))
              refine hK.out _ _ (by exact (HST.out.cell (k := w.heap.size + 4) (by omega) C2.out)) (fun hH => ?_)
              clear hK K
              try simp only [Act.put, List.getElem_toArray, List.getElem_cons_zero, List.getElem_cons_succ, List.setIfInBounds_toArray, List.set_cons_zero, List.set_cons_succ]
              refine wpAnyH_ready (rs := [3]) (by kernel_rfl) (by simp) ?_
              refine AllReadyH.cons (i := 3) rfl (fun K hK => ?_) AllReadyH.nil
              · refine step_append_at (by rfl) _ _ 23 (by rfl) (w.heap.size + 8) 3 i0 (.int .i64 0) 1 8 Tryd.underlying23 hi hz0 hz1 hz2 rfl (by decide) v pre.length (il (nA pre)) (by rfl) HST.out.2.2.1.1 ⟨_, 0, none⟩ 1 1 [.int .i64 (ca : Int)] (by rfl) (by rfl) (bk_news BKA.out.1) (int_one _) (by unfold maxLen; omega) (by omega) HST.out.2.2.2 ?_
                intro u w3 o3 g3 l3
                have NB := Lib.hid (BKV.out.app g3)
                replace HST := Lib.hid (HST.out.appA o3 g3 l3)
                refine hK.out _ _ (by exact (HST.out.cell (k := w.heap.size + 4) (by omega) C2.out)) (fun hH => ?_)
                clear hK K o3 g3 l3
                try simp only [Act.put, List.getElem_toArray, List.getElem_cons_zero, List.getElem_cons_succ, List.setIfInBounds_toArray, List.set_cons_zero, List.set_cons_succ]
                refine wpAnyH_ready (rs := [7]) (by kernel_rfl) (by simp) ?_
                refine AllReadyH.cons (i := 7) rfl (fun K hK => ?_) AllReadyH.nil
                · refine step_append_at (by rfl) _ _ 23 (by rfl) (w.heap.size + 8) 3 i0 (.int .i64 0) 1 8 Tryd.underlying23 hi hz0 hz1 hz2 rfl (by decide) v' pre.length (il (nB pre)) (by rfl) HST.out.2.2.1.2.1 ⟨_, 0, none⟩ 1 1 [.int .i64 (cb : Int)] (by rfl) (by rfl) (bk_news NB.out) (int_one _) (by unfold maxLen; omega) (by omega) HST.out.2.2.2 ?_
                  intro u' w7 o7 g7 l7
                  replace HST := Lib.hid ((HST.out.swap.appA o7 g7 l7).swap)
                  refine hK.out _ _ (by exact (HST.out.cell (k := w.heap.size + 4) (by omega) C2.out)) (fun hH => ?_)
                  clear hK K o7 g7 l7
                  try simp only [Act.put, List.getElem_toArray, List.getElem_cons_zero, List.getElem_cons_succ, List.setIfInBounds_toArray, List.set_cons_zero, List.set_cons_succ]
                  refine wpAnyH_ready (rs := [8]) (by kernel_rfl) (by simp) ?_
                  refine AllReadyH.cons (i := 8) rfl (fun K hK => ?_) AllReadyH.nil
                  · obtain ⟨gu, cu, rfl, _, _⟩ := World.ownsRow.form HST.out.2.2.1.1 (by omega)
                    obtain ⟨gv, cv, rfl, _, _⟩ := World.ownsRow.form HST.out.2.2.1.2.1 (by omega)
                    have c1' := HST.out.cell (k := w.heap.size + 3) (by omega) C1.out
                    have f1' := HST.out.frozen (k := w.heap.size + 3) (by omega) F1.out
                    go_simp
                    refine hK.out _ _ ((World.cell?_setCell_other w7 ⟨w.heap.size + 3, 0, none⟩ ⟨w.heap.size + 4, 0, none⟩ _ (by simp)).trans (HST.out.cell (k := w.heap.size + 4) (by omega) C2.out)) (fun hH => ?_)
                    clear hK K c1' f1'
                    try simp only [Act.put, List.getElem_toArray, List.getElem_cons_zero, List.getElem_cons_succ, List.setIfInBounds_toArray, List.set_cons_zero, List.set_cons_succ]
                    refine wpAnyH_done (by kernel_rfl) ?_ _
                    have c2' := HST.out.cell (k := w.heap.size + 4) (by omega) C2.out
                    have f2' := HST.out.frozen (k := w.heap.size + 4) (by omega) F2.out
                    have FB := Lib.hid (St.box rfl HI.out HAB.out (by rw [HCA.out, HCB.out]; exact HST.out))
                    dsimp only [LastQ]
                    go_simp
                    first
                      | exact ⟨FB.out.1, FB.out.2.1, FB.out.2.2⟩
                      | exact ⟨Z0 ▸ FB.out.1, FB.out.2.1, FB.out.2.2⟩
          refine AllReadyH.cons (i := 6) rfl (fun K hK => ?_) AllReadyH.nil
          · go_simp
            have BKB := Lib.hid (bk_new HST.out.swap (cb : Int) (W.heap.size + 1) (by rw [World.size_alloc]; rfl))
            have BKV := Lib.hid (bk_new HST.out (cb : Int) (W.heap.size + 1) (by rw [World.size_alloc]; rfl))
            replace BKA := Lib.hid (BKA.out.alloc (.cells #[.int .i64 (cb : Int)] 3))
            replace HST := Lib.hid (HST.out.alloc (.cells #[.int .i64 (cb : Int)] 3))
            refine hK.out _ _ (by exact (HST.out.cell (k := w.heap.size + 4) (by omega) C2.out)) (fun hH => ?_)
            clear hK K
            try simp only [Act.put, List.getElem_toArray, List.getElem_cons_zero, List.getElem_cons_succ, List.setIfInBounds_toArray, List.set_cons_zero, List.set_cons_succ]
            refine wpAnyH_ready (rs := [0]) (by kernel_rfl) (by simp) ?_
            refine AllReadyH.cons (i := 0) rfl (fun K hK => ?_) AllReadyH.nil
            · have c1' : ((W.alloc (.cells #[.int .i64 (ca : Int)] 3)).alloc (.cells #[.int .i64 (cb : Int)] 3)).cell? ⟨w.heap.size + 3, 0, none⟩ = some v := HST.out.cell (k := w.heap.size + 3) (by omega) C1.out
              go_simp
              refine hK.out _ _ (by exact (HST.out.cell (k := w.heap.size + 4) (by omega) C2.out)) (fun hH => ?_)
              clear hK K c1'
              try simp only [Act.put, List.getElem_toArray, List.getElem_cons_zero, List.getElem_cons_succ, List.setIfInBounds_toArray, List.set_cons_zero, List.set_cons_succ]
              refine wpAnyH_ready (rs := [3]) (by kernel_rfl) (by simp) ?_
              refine AllReadyH.cons (i := 3) rfl (fun K hK => ?_) AllReadyH.nil
              · refine step_append_at (by rfl) _ _ 23 (by rfl) (w.heap.size + 8) 3 i0 (.int .i64 0) 1 8 Tryd.underlying23 hi hz0 hz1 hz2 rfl (by decide) v pre.length (il (nA pre)) (by rfl) HST.out.2.2.1.1 ⟨_, 0, none⟩ 1 1 [.int .i64 (ca : Int)] (by rfl) (by rfl) (bk_news BKA.out.1) (int_one _) (by unfold maxLen; omega) (by omega) HST.out.2.2.2 ?_
                intro u w3 o3 g3 l3
                have NB := Lib.hid (BKV.out.app g3)
                replace HST := Lib.hid (HST.out.appA o3 g3 l3)
                refine hK.out _ _ (by exact (HST.out.cell (k := w.heap.size + 4) (by omega) C2.out)) (fun hH => ?_)
                clear hK K o3 g3 l3
                try simp only [Act.put, List.getElem_toArray, List.getElem_cons_zero, List.getElem_cons_succ, List.setIfInBounds_toArray, List.set_cons_zero, List.set_cons_succ]
                refine wpAnyH_ready (rs := [7]) (by kernel_rfl) (by simp) ?_
                refine AllReadyH.cons (i := 7) rfl (fun K hK => ?_) AllReadyH.nil
                · refine step_append_at (by rfl) _ _ 23 (by rfl) (w.heap.size + 8) 3 i0 (.int .i64 0) 1 8 Tryd.underlying23 hi hz0 hz1 hz2 rfl (by decide) v' pre.length (il (nB pre)) (by rfl) HST.out.2.2.1.2.1 ⟨_, 0, none⟩ 1 1 [.int .i64 (cb : Int)] (by rfl) (by rfl) (bk_news NB.out) (int_one _) (by unfold maxLen; omega) (by omega) HST.out.2.2.2 ?_
                  intro u' w7 o7 g7 l7
                  replace HST := Lib.hid ((HST.out.swap.appA o7 g7 l7).swap)
                  refine hK.out _ _ (by exact (HST.out.cell (k := w.heap.size + 4) (by omega) C2.out)) (fun hH => ?_)
                  clear hK K o7 g7 l7
                  try simp only [Act.put, List.getElem_toArray, List.getElem_cons_zero, List.getElem_cons_succ, List.setIfInBounds_toArray, List.set_cons_zero, List.set_cons_succ]
                  refine wpAnyH_ready (rs := [8]) (by kernel_rfl) (by simp) ?_
                  refine AllReadyH.cons (i := 8) rfl (fun K hK => ?_) AllReadyH.nil
                  · obtain ⟨gu, cu, rfl, _, _⟩ := World.ownsRow.form HST.out.2.2.1.1 (by omega)
                    obtain ⟨gv, cv, rfl, _, _⟩ := World.ownsRow.form HST.out.2.2.1.2.1 (by omega)
                    have c1' := HST.out.cell (k := w.heap.size + 3) (by omega) C1.out
                    have f1' := HST.out.frozen (k := w.heap.size + 3) (by omega) F1.out
                    go_simp
                    refine hK.out _ _ ((World.cell?_setCell_other w7 ⟨w.heap.size + 3, 0, none⟩ ⟨w.heap.size + 4, 0, none⟩ _ (by simp)).trans (HST.out.cell (k := w.heap.size + 4) (by omega) C2.out)) (fun hH => ?_)
                    clear hK K c1' f1'
                    try simp only [Act.put, List.getElem_toArray, List.getElem_cons_zero, List.getElem_cons_succ, List.setIfInBounds_toArray, List.set_cons_zero, List.set_cons_succ]
                    refine wpAnyH_done (by kernel_rfl) ?_ _
                    have c2' := HST.out.cell (k := w.heap.size + 4) (by omega) C2.out
                    have f2' := HST.out.frozen (k := w.heap.size + 4) (by omega) F2.out
                    have FB := Lib.hid (St.box rfl HI.out HAB.out (by rw [HCA.out, HCB.out]; exact HST.out))
                    dsimp only [LastQ]
                    go_simp
                    first
                      | exact ⟨FB.out.1, FB.out.2.1, FB.out.2.2⟩
                      | exact ⟨Z0 ▸ FB.out.1, FB.out.2.1, FB.out.2.2⟩
        refine AllReadyH.cons (i := 6) rfl (fun K hK => ?_) AllReadyH.nil
        · go_simp
          have BKB := Lib.hid (bk_new HST.out.swap (cb : Int) W.heap.size rfl)
          have BKV := Lib.hid (bk_new HST.out (cb : Int) W.heap.size rfl)
          replace HST := Lib.hid (HST.out.alloc (.cells #[.int .i64 (cb : Int)] 3))
          refine hK.out _ _ (by exact (HST.out.cell (k := w.heap.size + 4) (by omega) C2.out)) (fun hH => ?_)
          clear hK K
          try simp only [Act.put, List.getElem_toArray, List.getElem_cons_zero, List.getElem_cons_succ, List.setIfInBounds_toArray, List.set_cons_zero, List.set_cons_succ]
          refine wpAnyH_ready (rs := [0, 2]) (by kernel_rfl) (by simp) ?_
          refine AllReadyH.cons (i := 0) rfl (fun K hK => ?_) ?_
          · have c1' : (W.alloc (.cells #[.int .i64 (cb : Int)] 3)).cell? ⟨w.heap.size + 3, 0, none⟩ = some v := HST.out.cell (k := w.heap.size + 3) (by omega) C1.out
            go_simp
            refine hK.out _ _ (by exact (HST.out.cell (k := w.heap.size + 4) (by omega) C2.out)) (fun hH => ?_)
            clear hK K c1'
            try simp only [Act.put, List.getElem_toArray, List.getElem_cons_zero, List.getElem_cons_succ, List.setIfInBounds_toArray, List.set_cons_zero, List.set_cons_succ]
            refine wpAnyH_ready (rs := [2]) (by kernel_rfl) (by simp) ?_
            refine AllReadyH.cons (i := 2) rfl (fun K hK => ?_) AllReadyH.nil
            · go_simp
              have BKA := Lib.hid (bk_new HST.out (ca : Int) (W.heap.size + 1) (by rw [World.size_alloc]; rfl))
              replace BKB := Lib.hid (BKB.out.alloc (.cells #[.int .i64 (ca : Int)] 3))
              replace BKV := Lib.hid (BKV.out.alloc (.cells #[.int .i64 (ca : Int)] 3))
              replace HST := Lib.hid (HST.out.alloc (.cells #[.int .i64 (ca : Int)] 3))
              refine hK.out _ _ (by exact (HST.out.cell (k := w.heap.size + 4) (by omega) C2.out)) (fun hH => ?_)
              clear hK K
              try simp only [Act.put, List.getElem_toArray, List.getElem_cons_zero, List.getElem_cons_succ, List.setIfInBounds_toArray, List.set_cons_zero, List.set_cons_succ]
              refine wpAnyH_ready (rs := [3]) (by kernel_rfl) (by simp) ?_
              refine AllReadyH.cons (i := 3) rfl (fun K hK => ?_) AllReadyH.nil
              · refine step_append_at (by rfl) _ _ 23 (by rfl) (w.heap.size + 8) 3 i0 (.int .i64 0) 1 8 Tryd.underlying23 hi hz0 hz1 hz2 rfl (by decide) v pre.length (il (nA pre)) (by rfl) HST.out.2.2.1.1 ⟨_, 0, none⟩ 1 1 [.int .i64 (ca : Int)] (by rfl) (by rfl) (bk_news BKA.out.1) (int_one _) (by unfold maxLen; omega) (by omega) HST.out.2.2.2 ?_
                intro u w3 o3 g3 l3
                have NB := Lib.hid (BKV.out.app g3)
                replace HST := Lib.hid (HST.out.appA o3 g3 l3)
                refine hK.out _ _ (by exact (HST.out.cell (k := w.heap.size + 4) (by omega) C2.out)) (fun hH => ?_)
                clear hK K o3 g3 l3
                try simp only [Act.put, List.getElem_toArray, List.getElem_cons_zero, List.getElem_cons_succ, List.setIfInBounds_toArray, List.set_cons_zero, List.set_cons_succ]
                refine wpAnyH_ready (rs := [7]) (by kernel_rfl) (by simp) ?_
                refine AllReadyH.cons (i := 7) rfl (fun K hK => ?_) AllReadyH.nil
                · refine step_append_at (by rfl) _ _ 23 (by rfl) (w.heap.size + 8) 3 i0 (.int .i64 0) 1 8 Tryd.underlying23 hi hz0 hz1 hz2 rfl (by decide) v' pre.length (il (nB pre)) (by rfl) HST.out.2.2.1.2.1 ⟨_, 0, none⟩ 1 1 [.int .i64 (cb : Int)] (by rfl) (by rfl) (bk_news NB.out) (int_one _) (by unfold maxLen; omega) (by omega) HST.out.2.2.2 ?_
                  intro u' w7 o7 g7 l7
                  replace HST := Lib.hid ((HST.out.swap.appA o7 g7 l7).swap)
                  refine hK.out _ _ (by exact (HST.out.cell (k := w.heap.size + 4) (by omega) C2.out)) (fun hH => ?_)
                  clear hK K o7 g7 l7
                  try simp only [Act.put, List.getElem_toArray, List.getElem_cons_zero, List.getElem_cons_succ, List.setIfInBounds_toArray, List.set_cons_zero, List.set_cons_succ]
                  refine wpAnyH_ready (rs := [8]) (by kernel_rfl) (by simp) ?_
                  refine AllReadyH.cons (i := 8) rfl (fun K hK => ?_) AllReadyH.nil
                  · obtain ⟨gu, cu, rfl, _, _⟩ := World.ownsRow.form HST.out.2.2.1.1 (by omega)
                    obtain ⟨gv, cv, rfl, _, _⟩ := World.ownsRow.form HST.out.2.2.1.2.1 (by omega)
                    have c1' := HST.out.cell (k := w.heap.size + 3) (by omega) C1.out
                    have f1' := HST.out.frozen (k := w.heap.size + 3) (by omega) F1.out
                    go_simp
                    refine hK.out _ _ ((World.cell?_setCell_other w7 ⟨w.heap.size + 3, 0, none⟩ ⟨w.heap.size + 4, 0, none⟩ _ (by simp)).trans (HST.out.cell (k := w.heap.size + 4) (by omega) C2.out)) (fun hH => ?_)
                    clear hK K c1' f1'
                    try simp only [Act.put, List.getElem_toArray, List.getElem_cons_zero, List.getElem_cons_succ, List.setIfInBounds_toArray, List.set_cons_zero, List.set_cons_succ]
                    refine wpAnyH_done (by kernel_rfl) ?_ _
                    have c2' := HST.out.cell (k := w.heap.size + 4) (by omega) C2.out
                    have f2' := HST.out.frozen (k := w.heap.size + 4) (by omega) F2.out
                    have FB := Lib.hid (St.box rfl HI.out HAB.out (by rw [HCA.out, HCB.out]; exact HST.out))
                    dsimp only [LastQ]
                    go_simp
                    first
                      | exact ⟨FB.out.1, FB.out.2.1, FB.out.2.2⟩
                      | exact ⟨Z0 ▸ FB.out.1, FB.out.2.1, FB.out.2.2⟩
          refine AllReadyH.cons (i := 2) rfl (fun K hK => ?_) AllReadyH.nil
          · go_simp
            have BKA := Lib.hid (bk_new HST.out (ca : Int) (W.heap.size + 1) (by rw [World.size_alloc]; rfl))
            replace BKB := Lib.hid (BKB.out.alloc (.cells #[.int .i64 (ca : Int)] 3))
            replace BKV := Lib.hid (BKV.out.alloc (.cells #[.int .i64 (ca : Int)] 3))
            replace HST := Lib.hid (HST.out.alloc (.cells #[.int .i64 (ca : Int)] 3))
            refine hK.out _ _ (by exact (HST.out.cell (k := w.heap.size + 4) (by omega) C2.out)) (fun hH => ?_)
            clear hK K
            try simp only [Act.put, List.getElem_toArray, List.getElem_cons_zero, List.getElem_cons_succ, List.setIfInBounds_toArray, List.set_cons_zero, List.set_cons_succ]
            refine wpAnyH_ready (rs := [0]) (by kernel_rfl) (by simp) ?_
            refine AllReadyH.cons (i := 0) rfl (fun K hK => ?_) AllReadyH.nil
            · have c1' : ((W.alloc (.cells #[.int .i64 (cb : Int)] 3)).alloc (.cells #[.int .i64 (ca : Int)] 3)).cell? ⟨w.heap.size + 3, 0, none⟩ = some v := HST.out.cell (k := w.heap.size + 3) (by omega) C1.out
              go_simp
              refine hK.out _ _ (by exact (HST.out.cell (k := w.heap.size + 4) (by omega) C2.out)) (fun hH => ?_)
              clear hK K c1'
              try simp only [Act.put, List.getElem_toArray, List.getElem_cons_zero, List.getElem_cons_succ, List.setIfInBounds_toArray, List.set_cons_zero, List.set_cons_succ]
              refine wpAnyH_ready (rs := [3]) (by kernel_rfl) (by simp) ?_
              refine AllReadyH.cons (i := 3) rfl (fun K hK => ?_) AllReadyH.nil
              · refine step_append_at (by rfl) _ _ 23 (by rfl) (w.heap.size + 8) 3 i0 (.int .i64 0) 1 8 Tryd.underlying23 hi hz0 hz1 hz2 rfl (by decide) v pre.length (il (nA pre)) (by rfl) HST.out.2.2.1.1 ⟨_, 0, none⟩ 1 1 [.int .i64 (ca : Int)] (by rfl) (by rfl) (bk_news BKA.out.1) (int_one _) (by unfold maxLen; omega) (by omega) HST.out.2.2.2 ?_
                intro u w3 o3 g3 l3
                have NB := Lib.hid (BKV.out.app g3)
                replace HST := Lib.hid (HST.out.appA o3 g3 l3)
                refine hK.out _ _ (by exact (HST.out.cell (k := w.heap.size + 4) (by omega) C2.out)) (fun hH => ?_)
                clear hK K o3 g3 l3
                try simp only [Act.put, List.getElem_toArray, List.getElem_cons_zero, List.getElem_cons_succ, List.setIfInBounds_toArray, List.set_cons_zero, List.set_cons_succ]
                refine wpAnyH_ready (rs := [7]) (by kernel_rfl) (by simp) ?_
                refine AllReadyH.cons (i := 7) rfl (fun K hK => ?_) AllReadyH.nil
                · refine step_append_at (by rfl) _ _ 23 (by rfl) (w.heap.size + 8) 3 i0 (.int .i64 0) 1 8 Tryd.underlying23 hi hz0 hz1 hz2 rfl (by decide) v' pre.length (il (nB pre)) (by rfl) HST.out.2.2.1.2.1 ⟨_, 0, none⟩ 1 1 [.int .i64 (cb : Int)] (by rfl) (by rfl) (bk_news NB.out) (int_one _) (by unfold maxLen; omega) (by omega) HST.out.2.2.2 ?_
                  intro u' w7 o7 g7 l7
                  replace HST := Lib.hid ((HST.out.swap.appA o7 g7 l7).swap)
                  refine hK.out _ _ (by exact (HST.out.cell (k := w.heap.size + 4) (by omega) C2.out)) (fun hH => ?_)
                  clear hK K o7 g7 l7
                  try simp only [Act.put, List.getElem_toArray, List.getElem_cons_zero, List.getElem_cons_succ, List.setIfInBounds_toArray, List.set_cons_zero, List.set_cons_succ]
                  refine wpAnyH_ready (rs := [8]) (by kernel_rfl) (by simp) ?_
                  refine AllReadyH.cons (i := 8) rfl (fun K hK => ?_) AllReadyH.nil
                  · obtain ⟨gu, cu, rfl, _, _⟩ := World.ownsRow.form HST.out.2.2.1.1 (by omega)
                    obtain ⟨gv, cv, rfl, _, _⟩ := World.ownsRow.form HST.out.2.2.1.2.1 (by omega)
                    have c1' := HST.out.cell (k := w.heap.size + 3) (by omega) C1.out
                    have f1' := HST.out.frozen (k := w.heap.size + 3) (by omega) F1.out
                    go_simp
                    refine hK.out _ _ ((World.cell?_setCell_other w7 ⟨w.heap.size + 3, 0, none⟩ ⟨w.heap.size + 4, 0, none⟩ _ (by simp)).trans (HST.out.cell (k := w.heap.size + 4) (by omega) C2.out)) (fun hH => ?_)
                    clear hK K c1' f1'
                    try simp only [Act.put, List.getElem_toArray, List.getElem_cons_zero, List.getElem_cons_succ, List.setIfInBounds_toArray, List.set_cons_zero, List.set_cons_succ]
                    refine wpAnyH_done (by kernel_rfl) ?_ _
                    have c2' := HST.out.cell (k := w.heap.size + 4) (by omega) C2.out
                    have f2' := HST.out.frozen (k := w.heap.size + 4) (by omega) F2.out
                    have FB := Lib.hid (St.box rfl HI.out HAB.out (by rw [HCA.out, HCB.out]; exact HST.out))
                    dsimp only [LastQ]
                    go_simp
                    first
                      | exact ⟨FB.out.1, FB.out.2.1, FB.out.2.2⟩
                      | exact ⟨Z0 ▸ FB.out.1, FB.out.2.1, FB.out.2.2⟩
      · have hab' : ab x = false := by simpa using hab
        have d1 : ((ca : Int) + (cb : Int) != ((bs x).size : Int)) = true := by
          rw [ja]
          simp only [bne_iff_ne, ne_eq]
          intro q
          exact hab (ac2.mp (by omega))
        have HP := Lib.hid (pr_no hmem hab')
        have HR0 := Lib.hid HI.out.1
        clear ac2 hab hab'
        gi_wp2_with (refine ⟨trivial, ?_⟩; gi_at_call 40; (first | (with_reducible refine (CallsIn.inRound lp (callsIn_wide.2 (count_any x 97 _ ca HCA.out))).mono ?_) | (with_reducible refine (CallsIn.inRound lp (callsIn_wide.2 (count_any x 98 _ cb HCB.out))).mono ?_)); rintro e w' ⟨rfl, rfl⟩)
        refine ⟨keeps_set3 W _ _ _ (by omega), rfl, HP.out, HR0.out.set, ((HBB.out.setCell (by show w.heap.size ≤ w.heap.size; omega) _).setCell (by show w.heap.size ≤ w.heap.size + 1; omega) _).setCell (by show w.heap.size ≤ w.heap.size + 2; omega) _, by simpa using hsz⟩
    case done =>
      intro D W hD ⟨R0, ⟨v, v', c1, c2, T2⟩, ⟨f1, f2⟩, ha0, hb0, hz0⟩ hk
      obtain ⟨g, c, rfl, hc1, hc2, O1, hg1⟩ := own_vali T2.1 (by rw [nA_sg, cA_len]) (rowi_some T2.1 (sg_pos l))
      obtain ⟨g', c', rfl, hc3, hc4, O2, hg2⟩ := own_vali T2.2.1 (by rw [nB_sg, cB_len]) (rowi_some T2.2.1 (sg_pos l))
      have hgg : g ≠ g' := fun e => T2.2.2 g rfl (by rw [e]; rfl)
      have I1 := O1.ints (A := cA l) (by rw [cA_len]) (fun _ _ => rfl)
      have I2 := O2.ints (A := cB l) (by rw [cB_len]) (fun _ _ => rfl)
      have hn := sg_cnt l
      have EP := Lib.hid (pr_ok ha0)
      have HI1 := Lib.hid I1
      have HI2 := Lib.hid I2
      have HR0 := Lib.hid R0
      have HB := Lib.hid hb0
      have HK := Lib.hid hk
      clear I1 I2 T2 R0 hb0 ha0 hk
      obtain ⟨⟨r1, r2, r3⟩, r4, r5, r6⟩ := HR0.out
      have l0 : w.heap.size < W.heap.size := by omega
      have l1 : w.heap.size + 1 < W.heap.size := by omega
      have l2 : w.heap.size + 2 < W.heap.size := by omega
      have l3 : w.heap.size + 3 < W.heap.size := by omega
      have l4 : w.heap.size + 4 < W.heap.size := by omega
      have HO1 := Lib.hid O1
      have HO2 := Lib.hid O2
      have HSG := Lib.hid (sg_pos l)
      clear O1 O2
      by_cases hok : okB (cA l) (cB l) = true
      · have HP := Lib.hid (EP.out.trans hok)
        gi_wp2_with (refine ⟨trivial, ?_⟩; gi_at_call 38; refine (callsIn_wide.2 (partsValid_any _ _ _ c _ c' (cA l) (cB l) _ hc1 hc2 hc3 hc4 HI1.out HI2.out (by simp) (by simp) (by omega))).mono ?_; rintro e w1 ⟨rfl, b1⟩; rw [hok]; have k3 := (b1.cell (p := ⟨w.heap.size + 3, 0, none⟩) l3).trans c1; have k4 := (b1.cell (p := ⟨w.heap.size + 4, 0, none⟩) l4).trans c2; have k0 := (b1.cell (p := ⟨w.heap.size, 0, none⟩) l0).trans r1; have k1 := (b1.cell (p := ⟨w.heap.size + 1, 0, none⟩) l1).trans r2; have k2 := (b1.cell (p := ⟨w.heap.size + 2, 0, none⟩) l2).trans r3; have z0 := (b1.frozen (p := ⟨w.heap.size, 0, none⟩) l0).trans r4; have z1 := (b1.frozen (p := ⟨w.heap.size + 1, 0, none⟩) l1).trans r5; have z2 := (b1.frozen (p := ⟨w.heap.size + 2, 0, none⟩) l2).trans r6; have HB1 := Lib.hid b1; clear b1)
        refine wpIn_wide.2 ?_
        have hw : ∀ X : World, w1.heap.size ≤ X.heap.size → (∀ k, w.heap.size + 3 ≤ k → k ≠ D → X.heap[k]? = w1.heap[k]?) → Below w.heap.size w1 X → ∃ (a b : Option Addr) (n m d d' : Nat), Ending.returned (.tuple #[.slice (some ⟨g, 0, none⟩) (sg l).length c, .slice (some ⟨g', 0, none⟩) (sg l).length c', .bool true]) = .returned (.tuple #[.slice a n d, .slice b m d', .bool (prB l)]) ∧ n ≤ d ∧ d ≤ maxLen ∧ m ≤ d' ∧ d' ≤ maxLen ∧ Ints X a n (prA l) ∧ Ints X b m (prC l) ∧ Below w.heap.size w X ∧ OwnP w.heap.size X a b n m (prA l) (prC l) := by
          intro X hs hX hb
          have q1 := HO1.out.below HB1.out
          have q2 := HO2.out.below HB1.out
          have kD := (HB1.out.block D (Array.getElem?_eq_some_iff.1 HK.out).1).trans HK.out
          have s1 := own_same (w' := X) q1 (hX g (by omega) (own_not q1 HSG.out kD)) hs
          have s2 := own_same (w' := X) q2 (hX g' (by omega) (own_not q2 HSG.out kD)) hs
          rw [HP.out, (prA_yes HP.out).1, (prA_yes HP.out).2]
          exact ⟨_, _, _, _, _, _, rfl, hc1, hc2, hc3, hc4, s1.ints (by rw [cA_len]) (fun _ _ => rfl), s2.ints (by rw [cB_len]) (fun _ _ => rfl), (HB.out.trans (HB1.out.mono (by omega))).trans hb, .inr ⟨g, g', rfl, rfl, by omega, by omega, hgg, s1, s2⟩⟩
        have HW := Lib.hid hw
        have KD := Lib.hid ((HB1.out.block D (Array.getElem?_eq_some_iff.1 HK.out).1).trans HK.out)
        have hsz1 : w.heap.size + 8 ≤ w1.heap.size := Nat.le_trans hz0 HB1.out.size
        clear hw
        go_region_held3 (fun w' => w'.cell? ⟨w.heap.size + 3, 0, none⟩ = some (.slice (some ⟨g, 0, none⟩) (sg l).length c) ∧ w'.cell? ⟨w.heap.size + 4, 0, none⟩ = some (.slice (some ⟨g', 0, none⟩) (sg l).length c')) (go_keep) (fail)
        all_goals
          gi_wp2
          refine leaves_set (c := .bool true) KD.out (by omega) (fun k hk => far3 ⟨w.heap.size, 0, none⟩ ⟨w.heap.size + 1, 0, none⟩ ⟨w.heap.size + 2, 0, none⟩ _ _ _ (by show w.heap.size < _; omega) (by show w.heap.size + 1 < _; omega) (by show w.heap.size + 2 < _; omega) k hk) ((bel3 ⟨w.heap.size, 0, none⟩ ⟨w.heap.size + 1, 0, none⟩ ⟨w.heap.size + 2, 0, none⟩ _ _ _ (by show w.heap.size ≤ w.heap.size; omega) (by show w.heap.size ≤ w.heap.size + 1; omega) (by show w.heap.size ≤ w.heap.size + 2; omega)).drew) (by simp [go_sem, k0, k1, k2]) (by simp [go_sem, k0, k1, k2]) (by simp [go_sem, k0, k1, k2]) (fun Y y1 y2 y3 => by simp [results, Tryd.results16, go_sem, y1, y2, y3]) (by omega) (fun Y h b hs => HW.out Y hs h b)
      · have hok' : okB (cA l) (cB l) = false := by simpa using hok
        have HP := Lib.hid (EP.out.trans hok')
        gi_wp2_with (refine ⟨trivial, ?_⟩; gi_at_call 38; refine (callsIn_wide.2 (partsValid_any _ _ _ c _ c' (cA l) (cB l) _ hc1 hc2 hc3 hc4 HI1.out HI2.out (by simp) (by simp) (by omega))).mono ?_; rintro e w1 ⟨rfl, b1⟩; rw [hok']; have k0 := (b1.cell (p := ⟨w.heap.size, 0, none⟩) l0).trans r1; have k1 := (b1.cell (p := ⟨w.heap.size + 1, 0, none⟩) l1).trans r2; have k2 := (b1.cell (p := ⟨w.heap.size + 2, 0, none⟩) l2).trans r3; have z0 := (b1.frozen (p := ⟨w.heap.size, 0, none⟩) l0).trans r4; have z1 := (b1.frozen (p := ⟨w.heap.size + 1, 0, none⟩) l1).trans r5; have z2 := (b1.frozen (p := ⟨w.heap.size + 2, 0, none⟩) l2).trans r6; have HB1 := Lib.hid b1; clear b1)
        refine leaves_set (c := .bool false) (a := .slice none 0 0) (b := .slice none 0 0) ((HB1.out.block D (Array.getElem?_eq_some_iff.1 HK.out).1).trans HK.out) (by omega) (fun k hk => far3 ⟨w.heap.size, 0, none⟩ ⟨w.heap.size + 1, 0, none⟩ ⟨w.heap.size + 2, 0, none⟩ _ _ _ (by show w.heap.size < _; omega) (by show w.heap.size + 1 < _; omega) (by show w.heap.size + 2 < _; omega) k hk) ((bel3 ⟨w.heap.size, 0, none⟩ ⟨w.heap.size + 1, 0, none⟩ ⟨w.heap.size + 2, 0, none⟩ _ _ _ (by show w.heap.size ≤ w.heap.size; omega) (by show w.heap.size ≤ w.heap.size + 1; omega) (by show w.heap.size ≤ w.heap.size + 2; omega))) (by simp [go_sem, k0, k1, k2]) (by simp [go_sem, k0, k1, k2]) (by simp [go_sem, k0, k1, k2]) (fun Y y1 y2 y3 => by simp [results, Tryd.results16, go_sem, y1, y2, y3]) (Nat.le_trans (by omega) HB1.out.size) (fun Y _ b _ => parts_no HP.out ((HB.out.trans (HB1.out.mono (by omega))).trans b))
    case stop =>
      rintro D c pre W hD ⟨rfl, hp, ⟨⟨r1, r2, r3⟩, _⟩, hb, hz⟩ hk
      have HP := Lib.hid hp
      have HB := Lib.hid hb
      have HK := Lib.hid hk
      have far : ∀ k, k < w.heap.size + 8 → (W.putObj D (.deferred none)).heap[k]? = W.heap[k]? := fun k hk => World.putObj_heap_other (by omega)
      have q1 := (World.cell?_of_block (a := ⟨w.heap.size, 0, none⟩) (far _ (by show w.heap.size < _; omega))).trans r1
      have q2 := (World.cell?_of_block (a := ⟨w.heap.size + 1, 0, none⟩) (far _ (by show w.heap.size + 1 < _; omega))).trans r2
      have q3 := (World.cell?_of_block (a := ⟨w.heap.size + 2, 0, none⟩) (far _ (by show w.heap.size + 2 < _; omega))).trans r3
      clear hp hb hk far r1 r2 r3
      gi_wp2
      refine leaves_one (v := .tuple #[.slice none 0 0, .slice none 0 0, .bool false]) HK.out (by simp [results, Tryd.results16, go_sem, q1, q2, q3]) (parts_no HP.out ?_)
      exact HB.out.grown (grownBy_putObj' W D _) (by omega) (fun k e => by cases e; omega)
theorem implParts_any (l : List UInt8) (hl : l.length ≤ 1048576) (w : World) :
    Calls Tryd.prog 16 #[.string (bs l)] w fun e w' => ∃ (a b : Option Addr) (n m c c' : Nat), e = .returned (.tuple #[.slice a n c, .slice b m c', .bool (prB l)]) ∧ n ≤ c ∧ c ≤ maxLen ∧ m ≤ c' ∧ c' ≤ maxLen ∧ Ints w' a n (prA l) ∧ Ints w' b m (prC l) ∧ Below w.heap.size w w' := by
  refine (implParts_own l hl w).mono ?_
  rintro e w' ⟨a, b, n, m, c, c', h0, h1, h2, h3, h4, h5, h6, h7, _⟩
  exact ⟨a, b, n, m, c, c', h0, h1, h2, h3, h4, h5, h6, h7⟩
end Go.Proofs.YtjiffbddgbigcaaDoor
