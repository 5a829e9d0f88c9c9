/- The walk of FnMixParts. -/
import Derived.Test.YtkblbppemjnpdaaMixS
import Derived.Test.YtkblbppemjnpdaaDrawM
import Derived.Test.YtkblbppemjnpdaaFnWater
import Derived.Deep.RegionHeld3
import Derived.Deep.AppendLies
namespace Go.Proofs.Ytkblbppemjnpdaa
open Go.RowKit
set_option linter.unusedVariables false
set_option linter.unusedSimpArgs false

theorem blk_cellsK {W w' : World} {x y : Value} {t : TypeId} (b : Below (W.alloc (.cells #[x, y] t)).heap.size (W.alloc (.cells #[x, y] t)) w') : w'.cell? ⟨W.heap.size, 0, none⟩ = some x ∧ w'.cell? ⟨W.heap.size, 1, none⟩ = some y ∧ W.heap.size < w'.heap.size :=
  ⟨by rw [b.cell (by simp)]; simp, by rw [b.cell (by simp)]; simp, Below.lt1 b⟩
def ResAtK (W : World) (x y : Value) (ok : Bool) (s t : Value) (wx : World) : Prop := ∃ g : Nat, s = .pointer (some ⟨g, 0, none⟩) ∧ t = .bool ok ∧ wx.cell? ⟨g, 0, none⟩ = some x ∧ wx.cell? ⟨g, 1, none⟩ = some y ∧ Below W.heap.size W wx
theorem keep2k {W w : World} {g : Nat} {v1 v2 : Value} (h : g < W.heap.size) (e1 : W.cell? ⟨g, 0, none⟩ = some v1) (e2 : W.cell? ⟨g, 1, none⟩ = some v2) (b : Below W.heap.size W w) :
    w.cell? ⟨g, 0, none⟩ = some v1 ∧ w.cell? ⟨g, 1, none⟩ = some v2 ∧ Below W.heap.size W w := ⟨(b.cell (p := ⟨g, 0, none⟩) h).trans e1, (b.cell (p := ⟨g, 1, none⟩) h).trans e2, b⟩
theorem lit_ownK (W : World) (p q : Int) : (W.alloc (.cells #[.int .i64 p, .int .i64 q] 25)).ownsRow W.heap.size 25 2 (.slice (some ⟨W.heap.size, 0, none⟩) 1 1) 1 [.int .i64 p, .int .i64 q] :=
  World.ownsRow_lit (base := W.heap.size) (e := 25) (size := 2) W #[.int .i64 p, .int .i64 q] 1 (Nat.le_refl _) (by unfold maxLen; omega) (by simp)
theorem lit_ownC (W : World) (o : Obj) (p q : Int) : ((W.alloc o).alloc (.cells #[.int .i64 p, .int .i64 q] 25)).ownsRow W.heap.size 25 2 (.slice (some ⟨W.heap.size + 1, 0, none⟩) 1 1) 1 [.int .i64 p, .int .i64 q] := by
  have h := World.ownsRow_lit (base := W.heap.size) (e := 25) (size := 2) (W.alloc o) #[.int .i64 p, .int .i64 q] 1 (by simp) (by unfold maxLen; omega) (by simp)
  rw [World.size_alloc] at h
  exact h
theorem bct {B : Nat} {w w' : World} {p : Addr} {v : Value} (b : Below B w w') (e : w.cell? p = some v) (h : p.block < B) : w'.cell? p = some v := (b.cell h).trans e
theorem bft {B : Nat} {w w' : World} {p : Addr} {v : Value} (b : Below B w w') (e : w.cell? p = some v) (f : w.frozen? p = false) (h : p.block < B) : w'.frozen? p = false := (b.frozen h).trans f
theorem own_prs2 {w : World} {B g cap n : Nat} {L : List (Int × Int)} (h : w.ownsRow B 25 2 (.slice (some ⟨g, 0, none⟩) n cap) n (fl L)) (hn : L.length = n) : n ≤ cap ∧ cap ≤ maxLen ∧ Prs w (some ⟨g, 0, none⟩) n L := by
  obtain ⟨a, c, e, h1, h2, h3⟩ := own_prs h hn
  cases e
  exact ⟨h1, h2, h3⟩
theorem mix_isK (a : Option Addr) (n cap : Nat) (L : List (Int × Int)) (w : World) (h : n ≤ cap ∧ cap ≤ maxLen ∧ Prs w a n L) {x y : Int} {b : Bool} (hv : mxOk L = b ∧ mxA L = x ∧ mxH L = y) :
    Calls Try.prog 24 #[.slice a n cap] w fun e w' => e = .returned (.tuple #[.agg #[.int .i64 x, .int .i64 y], .bool b]) ∧ Below w.heap.size w w' := by
  obtain ⟨rfl, rfl, rfl⟩ := hv
  exact waterMix_any a n cap L w h.1 h.2.1 h.2.2
theorem mxk_true {L : List (Int × Int)} (h : mxOk L = true) : 1 ≤ L.length ∧ L.length ≤ 6 ∧ mxAll L L.length ∧ wvB (psA L L.length) (psH L L.length) = true := by
  unfold mxOk at h
  simp only [Bool.and_eq_true, decide_eq_true_eq] at h
  exact ⟨h.1.1, h.1.2.1, h.1.2.2, h.2⟩
theorem mxk_mk {L : List (Int × Int)} (h1 : 1 ≤ L.length) (h2 : L.length ≤ 6) (h3 : mxAll L L.length) (h4 : wvB (psA L L.length) (psH L L.length) = true) : mxOk L = true := by
  rw [mx_sum h1 h2 h3]; exact h4
theorem psA_take (L : List (Int × Int)) (k : Nat) : ∀ j, j ≤ k → psA (L.take k) j = psA L j ∧ psH (L.take k) j = psH L j
  | 0, _ => ⟨rfl, rfl⟩
  | j + 1, h => by
    obtain ⟨a, b⟩ := psA_take L k j (by omega)
    show psA (L.take k) j + (pr (L.take k) j).1 = psA L j + (pr L j).1 ∧ psH (L.take k) j + (pr (L.take k) j).2 = psH L j + (pr L j).2
    rw [a, b, pr_take L k j (by omega)]
    exact ⟨rfl, rfl⟩
theorem ps_grow {L : List (Int × Int)} {n : Nat} (h : mxAll L n) : ∀ d k, k + d = n → psA L k ≤ psA L n ∧ psH L k ≤ psH L n ∧ psH L k ≤ psA L k
  | 0, k, e => by
    have hle : ∀ j, j ≤ n → psH L j ≤ psA L j := by
      intro j
      induction j with
      | zero => intro _; show (0 : Int) ≤ 0; omega
      | succ j ih =>
        intro hj
        have := wv_bd' (h j (by omega))
        have := ih (by omega)
        show psH L j + (pr L j).2 ≤ psA L j + (pr L j).1
        omega
    obtain rfl : k = n := by omega
    exact ⟨by omega, by omega, hle k (by omega)⟩
  | d + 1, k, e => by
    obtain ⟨a, b, c⟩ := ps_grow h d (k + 1) (by omega)
    have v := wv_bd' (h k (by omega))
    have e1 : psA L (k + 1) = psA L k + (pr L k).1 := rfl
    have e2 : psH L (k + 1) = psH L k + (pr L k).2 := rfl
    have hle : ∀ j, j ≤ n → psH L j ≤ psA L j := by
      intro j
      induction j with
      | zero => intro _; show (0 : Int) ≤ 0; omega
      | succ j ih =>
        intro hj
        have := wv_bd' (h j (by omega))
        have := ih (by omega)
        show psH L j + (pr L j).2 ≤ psA L j + (pr L j).1
        omega
    exact ⟨by omega, by omega, hle k (by omega)⟩
theorem wv_mk {a h : Int} (h1 : 1 ≤ a) (h2 : a ≤ 1000) (h3 : 0 ≤ h) (h4 : h ≤ a) : wvB a h = true := by unfold wvB; simp; omega
theorem ps_one {L : List (Int × Int)} {n : Nat} (h : mxAll L n) {k : Nat} (hk : 1 ≤ k) (hn : k ≤ n) : 1 ≤ psA L k ∧ 0 ≤ psH L k := by
  have b := ps_bd (k := k) (fun i hi => h i (by omega))
  obtain ⟨j, rfl⟩ : ∃ j, k = j + 1 := ⟨k - 1, by omega⟩
  have v := wv_bd' (h j (by omega))
  have c := ps_bd (k := j) (fun i hi => h i (by omega))
  have e1 : psA L (j + 1) = psA L j + (pr L j).1 := rfl
  exact ⟨by omega, b.2.2.1⟩
/-- The first k waters. -/
theorem mxk_take {L : List (Int × Int)} (h : mxOk L = true) {k : Nat} (h0 : 1 ≤ k) (h1 : k < L.length) : mxOk (L.take k) = true ∧ mxA (L.take k) = psA L k ∧ mxH (L.take k) = psH L k := by
  obtain ⟨g1, g2, g3, g4⟩ := mxk_true h
  have lk : (L.take k).length = k := by rw [List.length_take]; omega
  obtain ⟨p1, p2⟩ := psA_take L k k (Nat.le_refl _)
  obtain ⟨q1, q2, q3⟩ := ps_grow g3 (L.length - k) k (by omega)
  obtain ⟨r1, r2⟩ := ps_one g3 h0 (Nat.le_of_lt h1)
  have v := wv_bd' g4
  have ok : mxOk (L.take k) = true := mxk_mk (by omega) (by omega) (fun i hi => by rw [lk] at hi; rw [pr_take L k i hi]; exact g3 i (by omega)) (by rw [lk, p1, p2]; exact wv_mk r1 (by omega) r2 q3)
  obtain ⟨e1, e2, _⟩ := mx_yes ok
  exact ⟨ok, by rw [e1, lk, p1], by rw [e2, lk, p2]⟩
theorem ps_cons (L : List (Int × Int)) (k : Nat) : ∀ j, psA ((psA L k, psH L k) :: L.drop k) (j + 1) = psA L (k + j) ∧ psH ((psA L k, psH L k) :: L.drop k) (j + 1) = psH L (k + j)
  | 0 => by
    constructor
    · show (0 : Int) + psA L k = psA L k; omega
    · show (0 : Int) + psH L k = psH L k; omega
  | j + 1 => by
    obtain ⟨a, b⟩ := ps_cons L k j
    have e : pr ((psA L k, psH L k) :: L.drop k) (j + 1) = pr (L.drop k) j := rfl
    show psA _ (j + 1) + (pr ((psA L k, psH L k) :: L.drop k) (j + 1)).1 = psA L (k + j) + (pr L (k + j)).1 ∧ psH _ (j + 1) + (pr ((psA L k, psH L k) :: L.drop k) (j + 1)).2 = psH L (k + j) + (pr L (k + j)).2
    rw [a, b, e, pr_drop]
    exact ⟨rfl, rfl⟩
/-- The mixture of the first k and the others. -/
theorem mxk_rest {L : List (Int × Int)} (h : mxOk L = true) {k : Nat} (h0 : 1 ≤ k) (h1 : k < L.length) : mxOk ((psA L k, psH L k) :: L.drop k) = true ∧ mxA ((psA L k, psH L k) :: L.drop k) = mxA L ∧ mxH ((psA L k, psH L k) :: L.drop k) = mxH L := by
  obtain ⟨g1, g2, g3, g4⟩ := mxk_true h
  have ll : ((psA L k, psH L k) :: L.drop k).length = (L.length - k) + 1 := by rw [List.length_cons, List.length_drop]
  obtain ⟨p1, p2⟩ := ps_cons L k (L.length - k)
  rw [show k + (L.length - k) = L.length by omega] at p1 p2
  obtain ⟨q1, q2, q3⟩ := ps_grow g3 (L.length - k) k (by omega)
  obtain ⟨r1, r2⟩ := ps_one g3 h0 (Nat.le_of_lt h1)
  have v := wv_bd' g4
  have ok : mxOk ((psA L k, psH L k) :: L.drop k) = true := mxk_mk (by omega) (by omega) (fun i hi => by
    rw [ll] at hi
    cases i with
    | zero =>
      show wvB (psA L k) (psH L k) = true
      exact wv_mk r1 (by omega) r2 q3
    | succ i =>
      have e : pr ((psA L k, psH L k) :: L.drop k) (i + 1) = pr (L.drop k) i := rfl
      rw [e, pr_drop]
      exact g3 _ (by omega)) (by rw [ll, p1, p2]; exact g4)
  obtain ⟨e1, e2, _⟩ := mx_yes ok
  obtain ⟨e3, e4, _⟩ := mx_yes h
  exact ⟨ok, by rw [e1, ll, p1, e3], by rw [e2, ll, p2, e4]⟩

set_option maxRecDepth 100000 in
set_option maxHeartbeats 3200000 in
theorem fnMixParts_walk (a : Option Addr) (len cap : Nat) (zs : List Int) (a2 : Option Addr) (mlen mcap : Nat) (zs2 : List Int) (w : World) (h : IsRow .u8 w a len cap zs) (h' : IsRow .u8 w a2 mlen mcap zs2) :
    Calls Try.prog 7 #[.slice a len cap, .slice a2 mlen mcap] w fun e w' => e = .returned (.bool true) ∧ Below w.heap.size w w' := by
  obtain ⟨hc, hm⟩ := h.le
  have hm' := hm
  unfold maxLen at hm'
  obtain ⟨hc', hn⟩ := h'.le
  have hn' := hn
  unfold maxLen at hn'
  have h0 := Lib.hid h.bytes
  clear h h'
  by_cases hl : 1048576 < len
  · have d1 : decide ((1048576 : Int) < (len : Int)) = true := by simp; omega
    go_enter Try.func7, Try.ntmps7
    go_wp2_with fail
    go_ret
    exact ⟨rfl, Below.refl _ _⟩
  · have d1 : decide ((1048576 : Int) < (len : Int)) = false := by simp; omega
    by_cases hl' : 1048576 < mlen
    · have d2 : decide ((1048576 : Int) < (mlen : Int)) = true := by simp; omega
      go_enter Try.func7, Try.ntmps7
      go_wp2_with fail
      go_ret
      exact ⟨rfl, Below.refl _ _⟩
    · have d2 : decide ((1048576 : Int) < (mlen : Int)) = false := by simp; omega
      go_enter Try.func7, Try.ntmps7
      go_wp2_with fail
      refine (drawWaterMix_any _ _ _ _ hc hm h0.out).mono ?_
      rintro e w1 ⟨a', n, cp, L, rfl, n7, hnc, hcm, P1, b1⟩
      have HP1 := Lib.hid P1
      clear P1
      go_wp2_with fail
      refine (waterMix_any _ _ _ L _ hnc hcm HP1.out).mono ?_
      rintro e w2 ⟨rfl, b2⟩
      have C2 := Below.step0 b1 b2
      have HP2 := Lib.hid ((HP1.out.below b2).below ((Below.refl _ _).alloc (Nat.le_refl _) (.cells #[.int .i64 (mxA L), .int .i64 (mxH L)] 25)))
      clear HP1 b2
      go_wp2_with fail
      refine (specWaterMix_any _ _ _ L _ hnc hcm HP2.out).mono ?_
      rintro e w3 ⟨rfl, b3⟩
      have C3 := Below.al (o := .cells #[.int .i64 (mxA L), .int .i64 (mxH L)] 25) (Below.step1 C2 b3)
      obtain ⟨k0, k1, l0⟩ := blk_cellsK b3
      have HP3 := Lib.hid ((HP2.out.below b3).below ((Below.refl _ _).alloc (Nat.le_refl _) (.cells #[.int .i64 (mxA L), .int .i64 (mxH L)] 25)))
      clear HP2 C2
      have D3 := Lib.hid b3
      have HC := Lib.hid C3
      clear b3 C3
      by_cases hok : mxOk L = true
      rotate_left
      · have hok' : mxOk L = false := by simpa using hok
        rw [hok']
        clear hok hok'
        go_wp2_with fail
        go_ret
        exact ⟨rfl, HC.out⟩
      rw [hok]
      obtain ⟨hL, hP⟩ := HP3.out
      have T := Lib.hid (mxk_true hok)
      have OK := Lib.hid hok
      obtain ⟨b, off, rfl, hb, hcell⟩ : ∃ b off : Nat, a' = some ⟨b, off, none⟩ ∧ b < (w3.alloc (.cells #[.int .i64 (mxA L), .int .i64 (mxH L)] 25)).heap.size ∧ PrsAt (w3.alloc (.cells #[.int .i64 (mxA L), .int .i64 (mxH L)] 25)) b off L := by
        rcases hP with hP | hP
        · have := T.out.1; omega
        · exact hP
      have HL := Lib.hid hL
      have HCell := Lib.hid hcell
      have V := Lib.hid (mx_yes hok)
      have n1 : 1 ≤ n := by have := T.out.1; rw [HL.out] at this; exact this
      have n6 : n ≤ 6 := by have := T.out.2.1; rw [HL.out] at this; exact this
      clear hok hL hcell HP3
      have x1 : cp ≤ 9223372036854775807 := hcm
      by_cases hn1 : n = 1
      · subst hn1
        obtain ⟨e0, e1⟩ := HCell.out 0 (by rw [HL.out]; omega)
        have E1 : (pr L 0).1 = mxA L := by rw [V.out.1, HL.out]; show _ = 0 + (pr L 0).1; omega
        have E2 : (pr L 0).2 = mxH L := by rw [V.out.2.1, HL.out]; show _ = 0 + (pr L 0).2; omega
        rw [E1] at e0
        rw [E2] at e1
        have t1 : (mxA L == mxA L) = true := by simp
        have t2 : (mxH L == mxH L) = true := by simp
        have e0' : (w3.alloc (.cells #[.int .i64 (mxA L), .int .i64 (mxH L)] 25)).cell? ⟨b, off, none⟩ = some (.int .i64 (mxA L)) := by simpa using e0
        have e1' : (w3.alloc (.cells #[.int .i64 (mxA L), .int .i64 (mxH L)] 25)).cell? ⟨b, off + 1, none⟩ = some (.int .i64 (mxH L)) := by simpa using e1
        have K0 : (w3.alloc (.cells #[.int .i64 (mxA L), .int .i64 (mxH L)] 25)).cell? ⟨w2.heap.size, 0, none⟩ = some (.int .i64 (mxA L)) := (World.cell?_of_block (Below.heap_alloc w3 _ w2.heap.size l0)).trans k0
        have K1 : (w3.alloc (.cells #[.int .i64 (mxA L), .int .i64 (mxH L)] 25)).cell? ⟨w2.heap.size, 1, none⟩ = some (.int .i64 (mxH L)) := (World.cell?_of_block (Below.heap_alloc w3 _ w2.heap.size l0)).trans k1
        have i1 : (1 : Int) ≤ (cp : Int) := by omega
        clear E1 E2 e0 e1
        go_wp2_with fail
        go_quiet (fail)
        go_wp2_with fail
        go_ret
        exact ⟨rfl, below_drewN HC.out _⟩
      · have hn2 : 2 ≤ n := by omega
        obtain ⟨j, hj⟩ : ∃ j, mlen % (n - 1) = j := ⟨_, rfl⟩
        have hjl : j < n - 1 := by rw [← hj]; exact Nat.mod_lt _ (by omega)
        have nn : ((n : Int) - 1) = ((n - 1 : Nat) : Int) := by omega
        have q1 : ((mlen : Int).tmod ((n : Int) - 1)) = (j : Int) := by rw [nn, ← hj]; rfl
        have q2 : ((mlen : Int) % ((n : Int) - 1)) = (j : Int) := by rw [nn, ← hj]; rfl
        have tz : ¬ ((n : Int) - 1 = 0) := by omega
        have HJ := Lib.hid hj
        clear hj nn
        go_wp2_with fail
        refine (waterMix_any _ _ _ (L.take (1 + j)) _ (by omega) hcm ⟨by rw [List.length_take, HL.out]; omega, .inr ⟨b, off, rfl, hb, HCell.out.take (1 + j)⟩⟩).mono ?_
        rintro e w4 ⟨rfl, b4⟩
        obtain ⟨y1, y2, y3⟩ := mxk_take OK.out (k := 1 + j) (by omega) (by rw [HL.out]; omega)
        rw [y1, y2, y3]
        clear y1 y2 y3
        have R4 := mxk_rest OK.out (k := 1 + j) (by omega) (by rw [HL.out]; omega)
        have RL : ((psA L (1 + j), psH L (1 + j)) :: L.drop (1 + j)).length = 1 + (n - (1 + j)) := by rw [List.length_cons, List.length_drop, HL.out]; omega
        have R4 := Lib.hid R4
        have RL := Lib.hid RL
        go_wp2_with fail
        generalize psA L (1 + j) = p at *
        generalize psH L (1 + j) = q at *
        have hg4 : w3.heap.size < w4.heap.size := by have := b4.size; simp at this; omega
        obtain ⟨W, hW⟩ : ∃ W, w4.alloc (.cells #[.int .i64 p, .int .i64 q] 25) = W := ⟨_, rfl⟩
        have z0 : W.cell? ⟨w4.heap.size, 0, none⟩ = some (.int .i64 p) := by rw [← hW]; simp
        have z1 : W.cell? ⟨w4.heap.size, 1, none⟩ = some (.int .i64 q) := by rw [← hW]; simp
        have B4 : Below (w3.alloc (.cells #[.int .i64 (mxA L), .int .i64 (mxH L)] 25)).heap.size (w3.alloc (.cells #[.int .i64 (mxA L), .int .i64 (mxH L)] 25)) W := by rw [← hW]; exact Below.al b4
        have hs4 : w4.heap.size < W.heap.size := by rw [← hW]; simp
        have CW := Lib.hid (HCell.out.below B4 hb)
        have bW : b < W.heap.size := Nat.lt_of_lt_of_le hb B4.size
        have K0 : W.cell? ⟨w2.heap.size, 0, none⟩ = some (.int .i64 (mxA L)) := (B4.cell (p := ⟨w2.heap.size, 0, none⟩) (by show w2.heap.size < (w3.alloc _).heap.size; simp; omega)).trans ((World.cell?_of_block (Below.heap_alloc w3 _ w2.heap.size l0)).trans k0)
        have K1 : W.cell? ⟨w2.heap.size, 1, none⟩ = some (.int .i64 (mxH L)) := (B4.cell (p := ⟨w2.heap.size, 1, none⟩) (by show w2.heap.size < (w3.alloc _).heap.size; simp; omega)).trans ((World.cell?_of_block (Below.heap_alloc w3 _ w2.heap.size l0)).trans k1)
        have HW := Lib.hid (Below.step0 HC.out B4)
        have lW : w2.heap.size < W.heap.size := Nat.lt_trans l0 (Nat.lt_trans hg4 hs4)
        rw [hW]
        clear hW B4 b4 HC HCell k0 k1 D3
        obtain ⟨i0, hi, hz0, hz1, hz2⟩ := info_parts infoWater
        have ek : (1 + (j : Int)) = ((1 + j : Nat) : Int) := by omega
        rw [ek]
        clear ek q1 q2
        have hk1 : 1 ≤ 1 + j := by omega
        have hk2 : 1 + j < n := by omega
        generalize 1 + j = k at *
        have i1 : (0 : Int) ≤ (k : Int) := by omega
        have i2 : (k : Int) ≤ (n : Int) := by omega
        have i3 : (n : Int) ≤ (cp : Int) := by omega
        have i4 : (k : Int) ≤ (cp : Int) := by omega
        have hck : ¬ cp = k := by omega
        go_cut [13, 14] (fun s13 s14 wx => ResAtK W (.int .i64 (mxA L)) (.int .i64 (mxH L)) true s13 s14 wx)
        case first =>
          go_region_held3 (fun w' => w'.cell? ⟨w4.heap.size, 0, none⟩ = some (.int .i64 p) ∧ w'.cell? ⟨w4.heap.size, 1, none⟩ = some (.int .i64 q) ∧ Below W.heap.size W w')
            (first | exact keep2k hs4 z0 z1 (Below.refl _ _).drew | (go_split_ands; exact keep2k hs4 z0 z1 (by assumption)) | (go_split_ands; exact keep2k hs4 z0 z1 (Below.step0 (by assumption) (by assumption))) | (go_split_ands; exact keep2k hs4 z0 z1 (Below.al (by assumption))) | (go_split_ands; exact keep2k hs4 z0 z1 (Below.setCell (Below.setCell b7 (by first | exact s5 | omega | simp) _) (by first | exact s5 | omega | simp) _)) | exact keep2k hs4 z0 z1 (Below.al (Below.refl _ _)).drew | exact keep2k hs4 z0 z1 (Below.al (Below.al (Below.refl _ _))).drew)
            (first | ((go_at_call 24; go_split_ands; (with_reducible refine (mix_isK _ (1 + (n - k)) _ ((p, q) :: L.drop k) _ (by first | exact own_prs2 hown1 RL.out | exact own_prs2 (hown1.alloc _) RL.out) R4.out).mono ?_); rintro e w6 ⟨rfl, b6⟩; have b7 : Below W.heap.size W w6 := (by first | exact Below.step0 b5 b6 | exact Below.step1 b5 b6); have s6 : W.heap.size ≤ w6.heap.size := b7.size; have hz6 := b6.size; obtain ⟨hc1, hf1⟩ := blw b6; (try (have y0 := bct b6 v0 (by first | exact hs6 | exact Nat.lt_of_succ_lt hs6); have y1 := bct b6 v1 (by first | exact hs6 | exact Nat.lt_of_succ_lt hs6); have f0 := bft b6 v0 e0 (by first | exact hs6 | exact Nat.lt_of_succ_lt hs6); have f1 := bft b6 v1 e1 (by first | exact hs6 | exact Nat.lt_of_succ_lt hs6))))) | (refine step_append_lies _ (by rfl) _ _ _ (by rfl) W.heap.size 25 i0 _ 2 16 Try.underlying35 hi hz0 hz1 hz2 rfl (by omega) (.slice (some ⟨W.heap.size, 0, none⟩) 1 1) 1 [.int .i64 p, .int .i64 q] (by rfl) (lit_ownK W p q).drew _ _ _ (fl (L.drop k)) (by rfl) (by rw [fl_len, List.length_drop, HL.out]) (prs_news ((CW.out.drop k).below (Below.al (Below.refl _ _)).drew bW)) (fl_one _) (by omega) (by unfold maxLen; omega) (by omega) (by show _ ≤ (W.alloc _).heap.size; simp <;> omega) (W.heap.size + 1) (by show (W.alloc _).heap.size = _; simp) ?_; intro gg cap w5 hown1 hgrow hat hlt5; have b5 : Below W.heap.size W w5 := ((Below.al (Below.refl _ _)).drew).grown hgrow (by show _ ≤ (W.alloc _).heap.size; simp <;> omega) (fun j hj => ((lit_ownK W p q).lt j hj).1); have s5 : W.heap.size ≤ w5.heap.size := b5.size) | (refine step_append_lies _ (by rfl) _ _ _ (by rfl) W.heap.size 25 i0 _ 2 16 Try.underlying35 hi hz0 hz1 hz2 rfl (by omega) (.slice (some ⟨W.heap.size, 0, none⟩) 1 1) 1 [.int .i64 p, .int .i64 q] (by rfl) ((lit_ownK W p q).alloc _).drew _ _ _ (fl (L.drop k)) (by rfl) (by rw [fl_len, List.length_drop, HL.out]) (prs_news ((CW.out.drop k).below (Below.al (Below.al (Below.refl _ _))).drew bW)) (fl_one _) (by omega) (by unfold maxLen; omega) (by omega) (by show _ ≤ ((W.alloc _).alloc _).heap.size; simp <;> omega) (W.heap.size + 1 + 1) (by show ((W.alloc _).alloc _).heap.size = _; simp) ?_; intro gg cap w5 hown1 hgrow hat hlt5; have b5 : Below W.heap.size W w5 := ((Below.al (Below.al (Below.refl _ _))).drew).grown hgrow (by show _ ≤ ((W.alloc _).alloc _).heap.size; simp <;> omega) (fun j hj => ((lit_ownK W p q).lt j hj).1); have s5 : W.heap.size ≤ w5.heap.size := b5.size; have v0 : w5.cell? ⟨W.heap.size + 1, 0, none⟩ = some (.int .i64 0) := (hgrow.cell_far (a := ⟨W.heap.size + 1, 0, none⟩) (by show _ < ((W.alloc _).alloc _).heap.size; simp <;> omega) (by simp [Value.ownBlock])).trans (by show ((W.alloc _).alloc _).cell? _ = _; simp); have e0 : w5.frozen? ⟨W.heap.size + 1, 0, none⟩ = false := (hgrow.frozen_far (a := ⟨W.heap.size + 1, 0, none⟩) (by show _ < ((W.alloc _).alloc _).heap.size; simp <;> omega) (by simp [Value.ownBlock])).trans (by show ((W.alloc _).alloc _).frozen? _ = _; simp); have v1 : w5.cell? ⟨W.heap.size + 1, 1, none⟩ = some (.int .i64 0) := (hgrow.cell_far (a := ⟨W.heap.size + 1, 1, none⟩) (by show _ < ((W.alloc _).alloc _).heap.size; simp <;> omega) (by simp [Value.ownBlock])).trans (by show ((W.alloc _).alloc _).cell? _ = _; simp); have e1 : w5.frozen? ⟨W.heap.size + 1, 1, none⟩ = false := (hgrow.frozen_far (a := ⟨W.heap.size + 1, 1, none⟩) (by show _ < ((W.alloc _).alloc _).heap.size; simp <;> omega) (by simp [Value.ownBlock])).trans (by show ((W.alloc _).alloc _).frozen? _ = _; simp); have hs6 : W.heap.size + 1 < w5.heap.size := Nat.lt_of_lt_of_le (by show _ < ((W.alloc _).alloc _).heap.size; simp) hgrow.size) | (refine step_append_lies _ (by rfl) _ _ _ (by rfl) W.heap.size 25 i0 _ 2 16 Try.underlying35 hi hz0 hz1 hz2 rfl (by omega) (.slice (some ⟨W.heap.size + 1, 0, none⟩) 1 1) 1 [.int .i64 p, .int .i64 q] (by rfl) (lit_ownC W _ p q).drew _ _ _ (fl (L.drop k)) (by rfl) (by rw [fl_len, List.length_drop, HL.out]) (prs_news ((CW.out.drop k).below (Below.al (Below.al (Below.refl _ _))).drew bW)) (fl_one _) (by omega) (by unfold maxLen; omega) (by omega) (by show _ ≤ ((W.alloc _).alloc _).heap.size; simp <;> omega) (W.heap.size + 1 + 1) (by show ((W.alloc _).alloc _).heap.size = _; simp) ?_; intro gg cap w5 hown1 hgrow hat hlt5; have b5 : Below W.heap.size W w5 := ((Below.al (Below.al (Below.refl _ _))).drew).grown hgrow (by show _ ≤ ((W.alloc _).alloc _).heap.size; simp <;> omega) (fun j hj => ((lit_ownC W (.cells #[.int .i64 0, .int .i64 0] 25) p q).lt j hj).1); have s5 : W.heap.size ≤ w5.heap.size := b5.size; have v0 : w5.cell? ⟨W.heap.size, 0, none⟩ = some (.int .i64 0) := (hgrow.cell_far (a := ⟨W.heap.size, 0, none⟩) (by show _ < ((W.alloc _).alloc _).heap.size; simp <;> omega) (by simp [Value.ownBlock])).trans (by show ((W.alloc _).alloc _).cell? _ = _; simp); have e0 : w5.frozen? ⟨W.heap.size, 0, none⟩ = false := (hgrow.frozen_far (a := ⟨W.heap.size, 0, none⟩) (by show _ < ((W.alloc _).alloc _).heap.size; simp <;> omega) (by simp [Value.ownBlock])).trans (by show ((W.alloc _).alloc _).frozen? _ = _; simp); have v1 : w5.cell? ⟨W.heap.size, 1, none⟩ = some (.int .i64 0) := (hgrow.cell_far (a := ⟨W.heap.size, 1, none⟩) (by show _ < ((W.alloc _).alloc _).heap.size; simp <;> omega) (by simp [Value.ownBlock])).trans (by show ((W.alloc _).alloc _).cell? _ = _; simp); have e1 : w5.frozen? ⟨W.heap.size, 1, none⟩ = false := (hgrow.frozen_far (a := ⟨W.heap.size, 1, none⟩) (by show _ < ((W.alloc _).alloc _).heap.size; simp <;> omega) (by simp [Value.ownBlock])).trans (by show ((W.alloc _).alloc _).frozen? _ = _; simp); have hs6 : W.heap.size + 1 < w5.heap.size := Nat.lt_of_lt_of_le (by show _ < ((W.alloc _).alloc _).heap.size; simp) hgrow.size))
          all_goals
            go_split_ands
            go_wp2_with fail
            go_meet
            refine ⟨_, rfl, rfl, ?_, ?_, by assumption⟩
            · first | exact set2a y0 | exact set2a (u := .int .i64 0) (by rw [hc1 _ _ (by simp)]; simp [go_sem]) | (simp; done)
            · first | exact set2b y1 | exact set2b (v := .int .i64 0) (by rw [hc1 _ _ (by simp)]; simp [go_sem]) | (simp; done)
        case rest =>
          obtain ⟨gx, rfl, rfl, c0, c1, BX⟩ := hcut
          have k0 : wc.cell? ⟨w2.heap.size, 0, none⟩ = some (.int .i64 (mxA L)) := (BX.cell (p := ⟨w2.heap.size, 0, none⟩) lW).trans K0
          have k1 : wc.cell? ⟨w2.heap.size, 1, none⟩ = some (.int .i64 (mxH L)) := (BX.cell (p := ⟨w2.heap.size, 1, none⟩) lW).trans K1
          have t1 : (mxA L == mxA L) = true := by simp
          have t2 : (mxH L == mxH L) = true := by simp
          have HF := Lib.hid (Below.step0 HW.out BX)
          clear BX K0 K1 z0 z1 HW
          go_wp2_with fail
          go_ret
          exact ⟨rfl, HF.out⟩
end Go.Proofs.Ytkblbppemjnpdaa
