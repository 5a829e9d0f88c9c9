/- WindowsYoung and WindowsOld of both packages. -/
import Derived.Test.YteflaibcldknmaaTightS
import Derived.Test.YteflaibcldknmaaTightI
import Derived.Test.YteflaibcldknmaaFitP
import Derived.Test.YteflaibcldknmaaIntC
namespace Go.Proofs.Yteflaibcldknmaa
open Go.RowKit
set_option linter.unusedVariables false
set_option linter.unusedSimpArgs false

def YoPost (w : World) (L S : List (Int × Int)) (A : List Int) (e : Ending) (w' : World) : Prop :=
  ∃ (a : Option Addr) (n c : Nat), e = .returned (.tuple #[.slice a n c, .bool (tkB L S)]) ∧ Ints w' a n A ∧ n ≤ c ∧ c ≤ maxLen ∧ Below w.heap.size w w' ∧
    (tkB L S = true → ∃ g, a = some ⟨g, 0, none⟩ ∧ n = L.length ∧ w.heap.size ≤ g ∧ OwnI w' g L.length (it A))
theorem YoPost.yes {w w' : World} {L S : List (Int × Int)} {A : List Int} {g c n : Nat} (hn : L.length = n) (ha : A.length = n) (h : tkB L S = true) (hc : n ≤ c) (hm : c ≤ maxLen) (hg : w.heap.size ≤ g) (O : OwnI w' g n (it A)) (B : Below w.heap.size w w') :
    YoPost w L S A (.returned (.tuple #[.slice (some ⟨g, 0, none⟩) n c, .bool true])) w' := by
  subst hn
  exact ⟨_, _, _, by rw [h], O.ints ha (fun _ _ => rfl), hc, hm, B, fun _ => ⟨g, rfl, rfl, hg, O⟩⟩
theorem YoPost.no {w w' : World} {L S : List (Int × Int)} {a : Option Addr} (h : tkB L S = false) (B : Below w.heap.size w w') :
    YoPost w L S [] (.returned (.tuple #[.slice a 0 0, .bool false])) w' :=
  ⟨a, 0, 0, by rw [h], ⟨rfl, .inl rfl⟩, Nat.le_refl _, by unfold maxLen; omega, B, fun q => by rw [h] at q; cases q⟩
def yRes (L S : List (Int × Int)) : List Int := if tkB L S = true then yg L S else []
def oRes (L S : List (Int × Int)) : List Int := if tkB L S = true then od L S else []
theorem yRes_yes {L S : List (Int × Int)} (h : tkB L S = true) : yRes L S = yg L S := by unfold yRes; rw [if_pos h]
theorem yRes_no {L S : List (Int × Int)} (h : tkB L S = false) : yRes L S = [] := by unfold yRes; rw [if_neg (by simp [h])]
theorem oRes_yes {L S : List (Int × Int)} (h : tkB L S = true) : oRes L S = od L S := by unfold oRes; rw [if_pos h]
theorem oRes_no {L S : List (Int × Int)} (h : tkB L S = false) : oRes L S = [] := by unfold oRes; rw [if_neg (by simp [h])]

set_option maxHeartbeats 1600000 in
theorem implYoung_any (a a' : Option Addr) (len cap len' cap' : Nat) (L S : List (Int × Int)) (w : World) (hlc : len ≤ cap) (hm : cap ≤ maxLen) (hlc' : len' ≤ cap') (hm' : cap' ≤ maxLen) (h : Prs w a len L) (h' : Prs w a' len' S) (ha : a ≠ none) (ha' : a' ≠ none) :
    Calls Try.prog 18 #[.slice a len cap, .slice a' len' cap'] w (YoPost w L S (yRes L S)) := by
  obtain ⟨i0, hi, hz0, hz1, hz2⟩ := info_parts infoInt
  have H := Lib.hid h
  have H' := Lib.hid h'
  have HA := Lib.hid ha
  have HA' := Lib.hid ha'
  clear h h' ha ha'
  go_enter Try.func18, Try.ntmps18
  go_wp2_with fail
  refine (implTight_any _ _ _ _ _ _ L S _ hlc hm hlc' hm' H.out H'.out HA.out HA'.out).mono ?_
  rintro e w1 ⟨a1, n1, c1, rfl, R1, hc1, hm1, b1, y1⟩
  have x5 : c1 ≤ 9223372036854775807 := hm1
  by_cases hk : tkB L S = true
  · obtain ⟨g1, rfl, hn1, hg1, o1⟩ := y1 hk
    rw [hk]
    have HN := Lib.hid hn1.symm
    have O1 := Lib.hid (show OwnF w1 g1 n1 (pr (twl L S)) by rw [hn1]; exact o1)
    have W := wd_true (tk_true hk).1
    have l1 : 1 ≤ n1 := by omega
    have l12 : n1 ≤ 12 := by omega
    have HK := Lib.hid hk
    have HB := Lib.hid b1
    have hgl := O1.out.1
    clear hk y1 o1 hn1 R1 b1 W hg1
    go_wp2_with fail
    go_loopw [8, 21] (fun v i wr => ∃ k : Nat, i = .int .i64 k ∧ k ≤ n1 ∧ wr.ownsRow w1.heap.size 3 1 v k (il ((yg L S).take k)) ∧ Below w1.heap.size w1 wr) (fun _ i _ => n1 - (intOf i).toNat)
    case atStart => exact ⟨0, rfl, Nat.zero_le _, World.ownsRow_nil _ _ _ _, Below.refl _ _⟩
    case round =>
      obtain ⟨k, rfl, hk', ro, rb⟩ := hrel
      by_cases hlt : k < n1
      · obtain ⟨q1, q2, q3, q4⟩ := (O1.out.below rb).2 k hlt
        rw [twl_pr L S k (by rw [HN.out]; exact hlt)] at q1 q2
        have SN := Lib.hid (take_snoc_it (yg L S) k (by rw [yg_len, HN.out]; exact hlt))
        rw [yg_it L S k (by rw [HN.out]; exact hlt)] at SN
        generalize (tw L S L.length k).1 = x1 at *
        generalize (tw L S L.length k).2 = x2 at *
        have i1 : (0 : Int) ≤ (k : Int) := by omega
        have i2 : (k : Int) < (n1 : Int) := by omega
        have HO := Lib.hid ro
        have HR := Lib.hid rb
        clear ro rb
        go_wp2_with (at_builtin; refine wpList_append_own _ rfl _ _ 37 rfl w1.heap.size 3 i0 (.int .i64 0) 1 8 Try.underlying37 hi hz0 hz1 hz2 rfl (by decide) _ _ _ rfl ((HO.out.alloc _).alloc _) ⟨_, 0, none⟩ 1 1 [.int .i64 x1] rfl rfl (int_new2 _ _ _ _) (int_one _) (by unfold maxLen; omega) (by omega) (Nat.le_trans HR.out.size (by simp only [World.size_alloc]; omega)) ?_)
        intro v5 w5 o5 g5 _
        have B5 := Lib.hid (((HR.out.alloc HR.out.size (.cells #[.int .i64 x1, .int .i64 x2] 35)).alloc (Nat.le_trans HR.out.size (by simp)) (.cells #[.int .i64 x1] 3)).grown g5 (Nat.le_trans HR.out.size (by simp only [World.size_alloc]; omega)) (fun j hj => (HO.out.lt j hj).1))
        have O5 := Lib.hid (show w5.ownsRow w1.heap.size 3 1 v5 (k + 1) (il ((yg L S).take (k + 1))) by rw [SN.out, il_snoc]; exact o5)
        clear o5 g5 HO HR SN q1 q2 q3 q4
        go_wp2_with fail
        go_roundw
        case rel => exact ⟨k + 1, by go_num, by omega, O5.out, B5.out⟩
        case measure => simp [intOf]; omega
      · obtain rfl : n1 = k := by omega
        have hlen : (yg L S).length = n1 := by rw [yg_len]; exact HN.out
        rw [List.take_of_length_le (by rw [hlen]; exact Nat.le_refl _)] at ro
        obtain ⟨gx, cx, rfl, hcx, hmx, ox, hgx⟩ := own_vali ro hlen (rowi_some ro l1)
        have Z := Lib.hid (show YoPost w L S (yRes L S) (.returned (.tuple #[.slice (some ⟨gx, 0, none⟩) n1 cx, .bool true])) wr from by
          rw [yRes_yes HK.out]
          exact YoPost.yes HN.out hlen HK.out hcx hmx (Nat.le_trans HB.out.size hgx) ox (Below.step0 HB.out rb))
        clear ro ox rb hlen
        go_wp2_with fail
        go_ret2
        exact Z.out
  · have hk' : tkB L S = false := by simpa using hk
    rw [tRes_no hk'] at R1
    rw [hk']
    obtain rfl : 0 = n1 := R1.1
    have HK := Lib.hid hk'
    have HB := Lib.hid b1
    clear hk hk' y1 R1 b1
    go_wp2_with fail
    go_ret2
    rw [yRes_no HK.out]
    exact YoPost.no HK.out HB.out

set_option maxHeartbeats 1600000 in
theorem specYoung_any (a a' : Option Addr) (len cap len' cap' : Nat) (L S : List (Int × Int)) (w : World) (hlc : len ≤ cap) (hm : cap ≤ maxLen) (hlc' : len' ≤ cap') (hm' : cap' ≤ maxLen) (h : Prs w a len L) (h' : Prs w a' len' S) :
    Calls Try.prog 24 #[.slice a len cap, .slice a' len' cap'] w (YoPost w L S (yRes L S)) := by
  obtain ⟨i0, hi, hz0, hz1, hz2⟩ := info_parts infoInt
  have H := Lib.hid h
  have H' := Lib.hid h'
  clear h h'
  go_enter Try.func24, Try.ntmps24
  go_wp2_with fail
  refine (specTight_any _ _ _ _ _ _ L S _ hlc hm hlc' hm' H.out H'.out).mono ?_
  rintro e w1 ⟨a1, n1, c1, rfl, R1, hc1, hm1, b1, y1⟩
  have x5 : c1 ≤ 9223372036854775807 := hm1
  by_cases hk : tkB L S = true
  · obtain ⟨g1, rfl, hn1, hg1, o1⟩ := y1 hk
    rw [hk]
    have HN := Lib.hid hn1.symm
    have O1 := Lib.hid (show OwnF w1 g1 n1 (pr (twl L S)) by rw [hn1]; exact o1)
    have W := wd_true (tk_true hk).1
    have l1 : 1 ≤ n1 := by omega
    have l12 : n1 ≤ 12 := by omega
    have HK := Lib.hid hk
    have HB := Lib.hid b1
    have hgl := O1.out.1
    clear hk y1 o1 hn1 R1 b1 W hg1
    go_wp2_with fail
    go_loopw [8, 9] (fun v i wr => ∃ k : Nat, i = .int .i64 k ∧ k ≤ n1 ∧ wr.ownsRow w1.heap.size 3 1 v k (il ((yg L S).take k)) ∧ Below w1.heap.size w1 wr) (fun _ i _ => n1 - (intOf i).toNat)
    case atStart => exact ⟨0, rfl, Nat.zero_le _, icopy_base w1, (Below.refl _ _).alloc (Nat.le_refl _) _⟩
    case round =>
      obtain ⟨k, rfl, hk', ro, rb⟩ := hrel
      by_cases hlt : k < n1
      · obtain ⟨q1, q2, q3, q4⟩ := (O1.out.below rb).2 k hlt
        rw [twl_pr L S k (by rw [HN.out]; exact hlt)] at q1 q2
        have SN := Lib.hid (take_snoc_it (yg L S) k (by rw [yg_len, HN.out]; exact hlt))
        rw [yg_it L S k (by rw [HN.out]; exact hlt)] at SN
        generalize (tw L S L.length k).1 = x1 at *
        generalize (tw L S L.length k).2 = x2 at *
        have i1 : (0 : Int) ≤ (k : Int) := by omega
        have i2 : (k : Int) < (n1 : Int) := by omega
        have HO := Lib.hid ro
        have HR := Lib.hid rb
        clear ro rb
        go_wp2_with (at_builtin; refine wpList_append_own _ rfl _ _ 37 rfl w1.heap.size 3 i0 (.int .i64 0) 1 8 Try.underlying37 hi hz0 hz1 hz2 rfl (by decide) _ _ _ rfl (HO.out.alloc _) ⟨_, 0, none⟩ 1 1 [.int .i64 x1] rfl rfl (int_new _ _ _) (int_one _) (by unfold maxLen; omega) (by omega) (Nat.le_trans HR.out.size (by simp only [World.size_alloc]; omega)) ?_)
        intro v5 w5 o5 g5 _
        have B5 := Lib.hid ((HR.out.alloc HR.out.size (.cells #[.int .i64 x1] 3)).grown g5 (Nat.le_trans HR.out.size (by simp only [World.size_alloc]; omega)) (fun j hj => (HO.out.lt j hj).1))
        have O5 := Lib.hid (show w5.ownsRow w1.heap.size 3 1 v5 (k + 1) (il ((yg L S).take (k + 1))) by rw [SN.out, il_snoc]; exact o5)
        clear o5 g5 HO HR SN q1 q2 q3 q4
        go_wp2_with fail
        go_roundw
        case rel => exact ⟨k + 1, by go_num, by omega, O5.out, B5.out⟩
        case measure => simp [intOf]; omega
      · obtain rfl : n1 = k := by omega
        have hlen : (yg L S).length = n1 := by rw [yg_len]; exact HN.out
        rw [List.take_of_length_le (by rw [hlen]; exact Nat.le_refl _)] at ro
        obtain ⟨gx, cx, rfl, hcx, hmx, ox, hgx⟩ := own_vali ro hlen (rowi_some ro l1)
        have Z := Lib.hid (show YoPost w L S (yRes L S) (.returned (.tuple #[.slice (some ⟨gx, 0, none⟩) n1 cx, .bool true])) wr from by
          rw [yRes_yes HK.out]
          exact YoPost.yes HN.out hlen HK.out hcx hmx (Nat.le_trans HB.out.size hgx) ox (Below.step0 HB.out rb))
        clear ro ox rb hlen
        go_wp2_with fail
        go_ret2
        exact Z.out
  · have hk' : tkB L S = false := by simpa using hk
    rw [tRes_no hk'] at R1
    rw [hk']
    obtain rfl : 0 = n1 := R1.1
    have HK := Lib.hid hk'
    have HB := Lib.hid b1
    clear hk hk' y1 R1 b1
    go_wp2_with fail
    go_loopw [8, 9] (fun v i wr => v = .slice (some ⟨w1.heap.size, 0, none⟩) 0 0 ∧ i = .int .i64 0 ∧ wr = w1.alloc (.cells #[] 3)) (fun _ i _ => 0)
    case atStart => exact ⟨rfl, rfl, rfl⟩
    case round =>
      obtain ⟨rfl, rfl, rfl⟩ := hrel
      go_wp2_with fail
      go_ret2
      rw [yRes_no HK.out]
      exact YoPost.no HK.out (HB.out.alloc HB.out.size _)

set_option maxHeartbeats 1600000 in
theorem implOld_any (a a' : Option Addr) (len cap len' cap' : Nat) (L S : List (Int × Int)) (w : World) (hlc : len ≤ cap) (hm : cap ≤ maxLen) (hlc' : len' ≤ cap') (hm' : cap' ≤ maxLen) (h : Prs w a len L) (h' : Prs w a' len' S) (ha : a ≠ none) (ha' : a' ≠ none) :
    Calls Try.prog 19 #[.slice a len cap, .slice a' len' cap'] w (YoPost w L S (oRes L S)) := by
  obtain ⟨i0, hi, hz0, hz1, hz2⟩ := info_parts infoInt
  have H := Lib.hid h
  have H' := Lib.hid h'
  have HA := Lib.hid ha
  have HA' := Lib.hid ha'
  clear h h' ha ha'
  go_enter Try.func19, Try.ntmps19
  go_wp2_with fail
  refine (implTight_any _ _ _ _ _ _ L S _ hlc hm hlc' hm' H.out H'.out HA.out HA'.out).mono ?_
  rintro e w1 ⟨a1, n1, c1, rfl, R1, hc1, hm1, b1, y1⟩
  have x5 : c1 ≤ 9223372036854775807 := hm1
  by_cases hk : tkB L S = true
  · obtain ⟨g1, rfl, hn1, hg1, o1⟩ := y1 hk
    rw [hk]
    have HN := Lib.hid hn1.symm
    have O1 := Lib.hid (show OwnF w1 g1 n1 (pr (twl L S)) by rw [hn1]; exact o1)
    have W := wd_true (tk_true hk).1
    have l1 : 1 ≤ n1 := by omega
    have l12 : n1 ≤ 12 := by omega
    have HK := Lib.hid hk
    have HB := Lib.hid b1
    have hgl := O1.out.1
    clear hk y1 o1 hn1 R1 b1 W hg1
    go_wp2_with fail
    go_loopw [8, 21] (fun v i wr => ∃ k : Nat, i = .int .i64 k ∧ k ≤ n1 ∧ wr.ownsRow w1.heap.size 3 1 v k (il ((od L S).take k)) ∧ Below w1.heap.size w1 wr) (fun _ i _ => n1 - (intOf i).toNat)
    case atStart => exact ⟨0, rfl, Nat.zero_le _, World.ownsRow_nil _ _ _ _, Below.refl _ _⟩
    case round =>
      obtain ⟨k, rfl, hk', ro, rb⟩ := hrel
      by_cases hlt : k < n1
      · obtain ⟨q1, q2, q3, q4⟩ := (O1.out.below rb).2 k hlt
        rw [twl_pr L S k (by rw [HN.out]; exact hlt)] at q1 q2
        have SN := Lib.hid (take_snoc_it (od L S) k (by rw [od_len, HN.out]; exact hlt))
        rw [od_it L S k (by rw [HN.out]; exact hlt)] at SN
        generalize (tw L S L.length k).1 = x1 at *
        generalize (tw L S L.length k).2 = x2 at *
        have i1 : (0 : Int) ≤ (k : Int) := by omega
        have i2 : (k : Int) < (n1 : Int) := by omega
        have HO := Lib.hid ro
        have HR := Lib.hid rb
        clear ro rb
        go_wp2_with (at_builtin; refine wpList_append_own _ rfl _ _ 37 rfl w1.heap.size 3 i0 (.int .i64 0) 1 8 Try.underlying37 hi hz0 hz1 hz2 rfl (by decide) _ _ _ rfl ((HO.out.alloc _).alloc _) ⟨_, 0, none⟩ 1 1 [.int .i64 x2] rfl rfl (int_new2 _ _ _ _) (int_one _) (by unfold maxLen; omega) (by omega) (Nat.le_trans HR.out.size (by simp only [World.size_alloc]; omega)) ?_)
        intro v5 w5 o5 g5 _
        have B5 := Lib.hid (((HR.out.alloc HR.out.size (.cells #[.int .i64 x1, .int .i64 x2] 35)).alloc (Nat.le_trans HR.out.size (by simp)) (.cells #[.int .i64 x2] 3)).grown g5 (Nat.le_trans HR.out.size (by simp only [World.size_alloc]; omega)) (fun j hj => (HO.out.lt j hj).1))
        have O5 := Lib.hid (show w5.ownsRow w1.heap.size 3 1 v5 (k + 1) (il ((od L S).take (k + 1))) by rw [SN.out, il_snoc]; exact o5)
        clear o5 g5 HO HR SN q1 q2 q3 q4
        go_wp2_with fail
        go_roundw
        case rel => exact ⟨k + 1, by go_num, by omega, O5.out, B5.out⟩
        case measure => simp [intOf]; omega
      · obtain rfl : n1 = k := by omega
        have hlen : (od L S).length = n1 := by rw [od_len]; exact HN.out
        rw [List.take_of_length_le (by rw [hlen]; exact Nat.le_refl _)] at ro
        obtain ⟨gx, cx, rfl, hcx, hmx, ox, hgx⟩ := own_vali ro hlen (rowi_some ro l1)
        have Z := Lib.hid (show YoPost w L S (oRes L S) (.returned (.tuple #[.slice (some ⟨gx, 0, none⟩) n1 cx, .bool true])) wr from by
          rw [oRes_yes HK.out]
          exact YoPost.yes HN.out hlen HK.out hcx hmx (Nat.le_trans HB.out.size hgx) ox (Below.step0 HB.out rb))
        clear ro ox rb hlen
        go_wp2_with fail
        go_ret2
        exact Z.out
  · have hk' : tkB L S = false := by simpa using hk
    rw [tRes_no hk'] at R1
    rw [hk']
    obtain rfl : 0 = n1 := R1.1
    have HK := Lib.hid hk'
    have HB := Lib.hid b1
    clear hk hk' y1 R1 b1
    go_wp2_with fail
    go_ret2
    rw [oRes_no HK.out]
    exact YoPost.no HK.out HB.out


end Go.Proofs.Yteflaibcldknmaa
