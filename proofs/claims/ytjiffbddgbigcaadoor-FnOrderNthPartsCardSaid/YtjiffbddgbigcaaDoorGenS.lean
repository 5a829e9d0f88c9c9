/- strings.Split at a bar. -/
import Derived.Test.YtjiffbddgbigcaaDoorSplit
import Derived.Test.YtjiffbddgbigcaaDoorOrdI
namespace Go.Proofs.YtjiffbddgbigcaaDoor
open Go.RowKit
set_option linter.unusedVariables false
set_option linter.unusedSimpArgs false

theorem sg_count : ∀ l : List UInt8, l.count 124 + 1 = (sg l).length
  | [] => rfl
  | c :: l => by
    have ih := sg_count l
    by_cases h : c = 124
    · subst h; rw [sg_bar, List.length_cons, List.count_cons]; simp; omega
    · rw [sg_cons l h, List.length_cons, List.length_tail, List.count_cons]
      have : (c == 124) = false := by simpa using h
      rw [this]
      simp
      omega
theorem sg_cnt' : ∀ l : List UInt8, (sg l).length ≤ l.length + 1
  | [] => Nat.le_refl _
  | c :: l => by
    have := sg_cnt' l
    by_cases h : c = 124
    · subst h; rw [sg_bar, List.length_cons, List.length_cons]; omega
    · rw [sg_cons l h, List.length_cons, List.length_tail, List.length_cons]; omega
theorem gS_drop {S U : List (List UInt8)} {x : List UInt8} {k : Nat} (h : x :: U = S.drop k) : gS S k = x ∧ U = S.drop (k + 1) := by
  have hk : k < S.length := by
    rcases Nat.lt_or_ge k S.length with q | q
    · exact q
    · rw [List.drop_eq_nil_of_le q] at h; cases h
  rw [List.drop_eq_getElem_cons hk] at h
  injection h with h1 h2
  refine ⟨?_, h2⟩
  unfold gS
  rw [List.getD_eq_getElem?_getD, List.getElem?_eq_getElem hk, h1]
  rfl
theorem own_up {w : World} {g n k : Nat} {S : List (List UInt8)} {p : List UInt8} (h : OwnS w g n (fun i => if i < k then bs (gS S i) else ByteArray.empty)) (e : gS S k = p) :
    OwnS (w.setCell ⟨g, k, none⟩ (.string (bs p))) g n (fun i => if i < k + 1 then bs (gS S i) else ByteArray.empty) :=
  (h.set k (bs p)).congr (fun i hi => by
    by_cases c : i = k
    · subst c; rw [if_pos rfl, if_pos (by omega), e]
    · rw [if_neg c]
      by_cases d : i < k
      · rw [if_pos d, if_pos (by omega)]
      · rw [if_neg d, if_neg (by omega)])
set_option maxHeartbeats 1600000 in
theorem genSplit_any (l : List UInt8) (hl : l.length ≤ 1000) (w : World) :
    Calls Tryd.prog 48 #[.string (bs l), .string ⟨#[124]⟩, .int .i64 0, .int .i64 (-1)] w fun e w' => ∃ g, e = .returned (.slice (some ⟨g, 0, none⟩) (sg l).length (sg l).length) ∧ OwnS w' g (sg l).length (fun i => bs (gS (sg l) i)) ∧ w.heap.size ≤ g ∧ Below w.heap.size w w' := by
  obtain ⟨i0, hi, hz0, hz1, hz2⟩ := info_parts infoStr
  have jb : ((bs l).size : Int) = (l.length : Int) := by rw [bs_size]
  obtain ⟨m, hm⟩ : ∃ m, (sg l).length = m + 1 := ⟨(sg l).length - 1, by have := sg_pos l; omega⟩
  have HM := Lib.hid hm
  have hc := sg_count l
  have hn := sg_cnt' l
  have HC := Lib.hid (show l.count 124 = m by omega)
  rw [hm] at hn
  rw [hm]
  clear hm hc
  have z1 : IntKind.i64.wrap ((m : Int) + 1) = ((m + 1 : Nat) : Int) := by rw [IntWalk.i64_in _ (by omega)]; omega
  have z2 : IntKind.i64.wrap (((bs l).size : Int) + 1) = (l.length : Int) + 1 := by rw [jb, IntWalk.i64_in _ (by omega)]
  have z3 : IntKind.i64.wrap (((m + 1 : Nat) : Int) - 1) = (m : Int) := by rw [IntWalk.i64_in _ (by omega)]; omega
  have z4 : ¬ ((l.length : Int) + 1 < ((m + 1 : Nat) : Int)) := by omega
  have z5 : ((m + 1 : Nat) : Int) ≤ (l.length : Int) + 1 := by omega
  have z6 : min ((m + 1 : Nat) : Int) ((l.length : Int) + 1) = ((m + 1 : Nat) : Int) := by omega
  have z7 : min (m : Int) (l.length : Int) = (m : Int) := by omega
  go_enter Tryd.func48, Tryd.ntmps48
  go_wp2_with fail
  refine (count_any l 124 _ m HC.out).mono ?_
  rintro e _ ⟨rfl, rfl⟩
  go_wp2_with (refine wpList_make_full _ rfl _ _ 43 rfl w.heap.size 9 i0 (.string ByteArray.empty) 1 Tryd.underlying43 hi hz0 hz1 .i64 .i64 _ _ (m + 1) rfl rfl rfl rfl (by rw [hz2]; omega) (by unfold maxLen; omega) (Nat.le_refl _) ?_; intro w2 hown hgrow)
  have O0 := Lib.hid (own_smade hown)
  have B0 := Lib.hid ((Below.refl w.heap.size w).grown hgrow (Nat.le_refl _) (by simp))
  clear hown hgrow
  go_wp2_with fail
  go_loopw [0, 10] (fun vs vi wr => ∃ (k : Nat) (rest : List UInt8), vs = .string (bs rest) ∧ vi = .int .i64 k ∧ k ≤ m ∧ rest.length ≤ 1000 ∧ Hid (sg rest = (sg l).drop k) ∧ Hid (OwnS wr w.heap.size (m + 1) (fun i => if i < k then bs (gS (sg l) i) else ByteArray.empty)) ∧ Hid (Below w.heap.size w wr)) (fun _ vi _ => (m - intOf vi).toNat)
  case atStart => exact ⟨0, l, rfl, rfl, Nat.zero_le _, hl, rfl, O0.out.congr (fun i hi => by rw [if_neg (by omega)]), B0.out⟩
  case round =>
    obtain ⟨k, rest, rfl, rfl, hk, hrl, HS, RO, HB⟩ := hrel
    clear z1 z2 z3 z4 z5 z6 z7 jb O0 B0
    have hb1 := RO.out.1
    have sl : (sg rest).length = m + 1 - k := by rw [HS.out, List.length_drop, HM.out]
    by_cases hlt : k < m
    · rcases bar_cases rest with hb | ⟨p, r, hb, hp⟩
      · rw [sg_none rest hb] at sl; simp at sl; omega
      have IV := Lib.hid (show Lib.indexByte rest 124 = (p.length : Int) by rw [hb]; exact idx_bar p r hp)
      have SG := show sg rest = p :: sg r by rw [hb]; exact sg_app p r hp
      obtain ⟨e1, e2⟩ := gS_drop (SG.symm.trans HS.out)
      have E1 := Lib.hid e1
      have E2 := Lib.hid e2
      have lr : rest.length = p.length + (r.length + 1) := by rw [hb]; simp
      have CT := fun V => cut_to V rest p.length (by omega)
      have tk : rest.take p.length = p := by rw [hb]; simp
      rw [tk] at CT
      have CF := fun V => cut_from V rest (p.length + 1) (by omega)
      have dk : rest.drop (p.length + 1) = r := by rw [hb, List.drop_append]; simp
      rw [dk, show ((p.length + 1 : Nat) : Int) = (p.length : Int) + 1 by omega] at CF
      have i1 : (k : Int) < (m : Int) := by omega
      have i2 : ¬ ((p.length : Int) < 0) := by omega
      have i3 : (k : Int) < ((m + 1 : Nat) : Int) := by omega
      obtain ⟨x0, y0⟩ := RO.out.2 k (by omega)
      dsimp only at x0
      rw [if_neg (by omega)] at x0
      have O1 := Lib.hid (own_up RO.out e1)
      have B1 := Lib.hid (HB.out.setCell (p := ⟨w.heap.size, k, none⟩) (Nat.le_refl _) (.string (bs p)))
      have hrr : r.length ≤ 1000 := by omega
      have v1 : IntKind.i64.wrap ((p.length : Int) + 1) = (p.length : Int) + 1 := IntWalk.i64_in _ (by omega)
      have v0 : IntKind.i64.wrap (p.length : Int) = (p.length : Int) := IntWalk.i64_in _ (by omega)
      have v2 := v0
      rw [IntWalk.i64_left] at v2
      have v3 : IntKind.i64.wrap ((p.length : Int) + 0) = (p.length : Int) := by rw [Int.add_zero]; exact v0
      have v4 : IntKind.i64.wrap ((k : Int) + 1) = (k : Int) + 1 := IntWalk.i64_in _ (by omega)
      clear RO HB hb tk dk sl SG e1 e2 HS
      go_wp2_with fail
      refine (index_any rest _ _ IV.out).mono ?_
      rintro e _ ⟨rfl, rfl⟩
      go_wp2_with fail
      go_roundw
      case rel => exact ⟨k + 1, r, rfl, by go_num, by omega, hrr, E2.out, O1.out, B1.out⟩
      case measure => simp [intOf]; omega
    · obtain rfl : k = m := by omega
      rcases bar_cases rest with hb | ⟨p, r, hb, hp⟩
      · have SG := sg_none rest hb
        obtain ⟨e1, e2⟩ := gS_drop (SG.symm.trans HS.out)
        have i1 : ¬ (k : Int) < (k : Int) := by omega
        have i3 : (k : Int) < ((k + 1 : Nat) : Int) := by omega
        have v4 : IntKind.i64.wrap ((k : Int) + 1) = ((k + 1 : Nat) : Int) := by rw [IntWalk.i64_in _ (by omega)]; omega
        obtain ⟨x0, y0⟩ := RO.out.2 k (by omega)
        dsimp only at x0
        rw [if_neg (by omega)] at x0
        have O1 := Lib.hid (own_up RO.out e1)
        have B1 := Lib.hid (HB.out.setCell (p := ⟨w.heap.size, k, none⟩) (Nat.le_refl _) (.string (bs rest)))
        clear RO HB hb sl SG e1 e2 HS
        go_wp2_with fail
        go_ret
        exact ⟨_, rfl, O1.out.congr (fun i hi => by rw [if_pos (by omega)]), Nat.le_refl _, B1.out⟩
      · exfalso
        rw [hb, sg_app p r hp] at sl
        have := sg_pos r
        rw [List.length_cons] at sl
        omega
theorem split_any (l : List UInt8) (hl : l.length ≤ 1000) (w : World) :
    Calls Tryd.prog 36 #[.string (bs l), .string ⟨#[124]⟩] w fun e w' => ∃ g, e = .returned (.slice (some ⟨g, 0, none⟩) (sg l).length (sg l).length) ∧ OwnS w' g (sg l).length (fun i => bs (gS (sg l) i)) ∧ w.heap.size ≤ g ∧ Below w.heap.size w w' := by
  go_enter Tryd.func36, Tryd.ntmps36
  go_wp2_with fail
  refine (genSplit_any l hl _).mono ?_
  rintro e w1 ⟨g, rfl, h1, h2, h3⟩
  go_wp2_with fail
  go_ret
  exact ⟨g, rfl, h1, h2, h3⟩
end Go.Proofs.YtjiffbddgbigcaaDoor
