/- DrawOrderNth. -/
import Derived.Test.YtjiffbddgbigcaaDoorDrawO
import Derived.Test.YtjiffbddgbigcaaDoorNthI
import Derived.Deep.RegionHeld3
namespace Go.Proofs.YtjiffbddgbigcaaDoor
open Go.RowKit
set_option linter.unusedVariables false
set_option linter.unusedSimpArgs false

theorem results3 {fn : Func} {t u v : Tmp} (h : fn.results = #[.tmp t, .tmp u, .tmp v]) (tmps : Array Value) (P : Program) (w : World) :
    (results fn tmps).run P w = .ok (.tuple #[tmps.getD t Go.undef, tmps.getD u Go.undef, tmps.getD v Go.undef]) w := by
  simp [results, h]
theorem OwnI.kept3 {w w' : World} {g n R : Nat} {f : Nat → Int} (h : OwnI w g n f) (hg : w.grownBy w' (some R)) (hR : R < g) : OwnI w' g n f := by
  have k := gk hg g h.1 (by omega)
  refine ⟨Nat.lt_of_lt_of_le h.1 hg.size, fun i hi => ?_⟩
  obtain ⟨q1, q2⟩ := h.2 i hi
  exact ⟨(k.1 i).trans q1, (k.2 i).trans q2⟩
theorem specCount_w (a b : Option Addr) (la ca lb cb : Nat) (A B : List Int) (w : World) (hla : la ≤ ca) (hma : ca ≤ maxLen) (hlb : lb ≤ cb) (hmb : cb ≤ maxLen) (h : Ints w a la A) (h' : Ints w b lb B) :
    Calls Tryd.prog 28 #[.slice a la ca, .slice b lb cb] w fun e w' => e = .returned (.int .i64 (cntV A B)) ∧ Below w.heap.size w w' := by
  refine (specCount_any a b la ca lb cb A B w hla hma hlb hmb h h').mono ?_
  rintro e w1 ⟨rfl, m, rfl⟩
  exact ⟨rfl, below_drewN (Below.refl _ _) m⟩
theorem Rd.below2 {w w' : World} {R k : Nat} (h : Rd w R k) (b : Below w.heap.size w w') (hR : R < w.heap.size) : Rd w' R k := by
  obtain ⟨a, len, cap, p, h1, h2, h3, h4, h5, h6⟩ := h
  refine ⟨a, len, cap, p, (b.cell (p := ⟨R, 0, none⟩) hR).trans h1, (b.cell (p := ⟨R, 0 + 1, none⟩) hR).trans h2, (b.frozen (p := ⟨R, 0 + 1, none⟩) hR).trans h3, h4, h5, ?_⟩
  rcases h6 with h6 | ⟨bb, off, q1, q2, q3⟩
  · exact .inl h6
  · exact .inr ⟨bb, off, q1, q2, fun i hi => by
      obtain ⟨z, z1, z2⟩ := q3 i hi
      exact ⟨z, (b.cell (p := ⟨bb, off + i, none⟩) (Nat.lt_trans q2 hR)).trans z1, z2⟩⟩
def DrawON (w : World) (e : Ending) (w' : World) : Prop := ∃ (g g' n m c c' : Nat) (A B : List Int) (v : Int), e = .returned (.tuple #[.slice (some ⟨g, 0, none⟩) n c, .slice (some ⟨g', 0, none⟩) m c', .int .i64 v]) ∧ 1 ≤ n ∧ n ≤ 3 ∧ m ≤ n + 1 ∧ n ≤ m ∧ n ≤ c ∧ m ≤ c' ∧ c ≤ maxLen ∧ c' ≤ maxLen ∧ A.length = n ∧ B.length = m ∧
  bdL A (-1) 7 ∧ bdL B 0 3 ∧ OwnI w' g n (it A) ∧ OwnI w' g' m (it B) ∧ g ≠ g' ∧ -1 ≤ v ∧ v ≤ 728933458176 ∧ Below w.heap.size w w'
set_option maxHeartbeats 1600000 in
theorem drawON_any (a : Option Addr) (len cap : Nat) (w : World) (hc : len ≤ cap) (hm : cap ≤ maxLen) (h : IsBytes w a len) :
    Calls Tryd.prog 11 #[.slice a len cap] w (DrawON w) := by
  go_enter Tryd.func11, Tryd.ntmps11
  go_wp2_with fail
  refine (l6Open_any _ _ _ _ hc hm h).mono ?_
  rintro e w1 ⟨rfl, r1, b1, s1⟩
  have B1 := Lib.hid b1
  clear b1
  go_wp2_with fail
  refine (l92Parts_any _ _ _ r1 (by omega)).mono ?_
  rintro e w2 ⟨g, g', n, m, c, c', A, B, rfl, n1, n3, m1, m2, hc1, hc2, hc3, hc4, hA, hB, bA, bB, O1, O2, hgg, hg1, hg2, r2, g2⟩
  have hgR : w.heap.size < g := by omega
  have hgR' : w.heap.size < g' := by omega
  have OA := Lib.hid O1
  have OB := Lib.hid O2
  have B2 := Lib.hid (B1.out.trans (Below.of_grown g2 (by omega) (Nat.le_refl _)))
  have HA := Lib.hid hA
  have HBL := Lib.hid hB
  have Hs := Lib.hid (And.intro bA bB)
  have h12 := g2.size
  clear O1 O2 hA hB bA bB g2 B1
  go_wp2_with fail
  refine (specCount_w _ _ _ _ _ _ A B _ hc1 hc3 hc2 hc4 (OA.out.ints HA.out (fun _ _ => rfl)) (OB.out.ints HBL.out (fun _ _ => rfl))).mono ?_
  rintro e w3 ⟨rfl, b3⟩
  have hRlt : w.heap.size < w2.heap.size := Nat.lt_trans hgR OA.out.1
  have r3 := r2.below2 b3 hRlt
  replace OA := Lib.hid (OA.out.below b3)
  replace OB := Lib.hid (OB.out.below b3)
  have B3 := Lib.hid (Below.step0 B2.out b3)
  clear b3 B2 r2
  have CB := cntV_bd2 A B
  generalize cntV A B = N at *
  have hlt3 := r3.lt
  by_cases hN : N < 1
  · go_wp2_with fail
    go_region_with (go_at_call 29; (first | ((with_reducible refine (pick_any _ _ _ _ (Rd.drew (r3.alloc _)) (by omega) (by omega)).mono ?_); rintro e w9 ⟨m9, m90, m91, rfl, r9, g9, s9⟩; have hsl := sel2_cell g9 (by omega) m9 m90 m91; have G9 := Lib.hid (grownBy_trans (grownBy_drew (World.grownBy_alloc _ _ _)) g9); clear g9) | ((with_reducible refine (pick_any _ _ _ _ (Rd.drew r3) (by omega) (by omega)).mono ?_); rintro e w9 ⟨m9, m90, m91, rfl, r9, g9, s9⟩; have hsl := sel2_list m9 (-1) (max 0 N) m90 m91; have G9 := Lib.hid (grownBy_trans (grownBy_drew (World.grownBy.refl _ _)) g9); clear g9)))
    all_goals
      have hq := sel2_le m9 (-1) (max 0 N) (-1) 728933458176 (by omega) (by omega) (by omega) (by omega)
      have VA := Lib.hid (OA.out.kept3 G9.out hgR)
      have VB := Lib.hid (OB.out.kept3 G9.out hgR')
      have VC := Lib.hid (B3.out.trans (Below.of_grown G9.out (B := w.heap.size) B3.out.size (Nat.le_refl _)))
      have P := Lib.hid (show ∀ W, Below w9.heap.size w9 W → DrawON w (.returned (.tuple #[.slice (some ⟨g, 0, none⟩) n c, .slice (some ⟨g', 0, none⟩) m c', .int .i64 (sel2 m9 (-1) (max 0 N))])) W from
        fun W bW => ⟨g, g', n, m, c, c', A, B, _, rfl, n1, n3, m1, m2, hc1, hc2, hc3, hc4, HA.out, HBL.out, Hs.out.1, Hs.out.2, VA.out.below bW, VB.out.below bW, hgg, by omega, by omega, Below.step0 VC.out bW⟩)
      clear VA VB VC G9
      go_wp2_with fail
      ((try simp only [Exit.inBlock, Exit.then]); refine bodyPost_ret (results3 rfl _ _ _) rfl ?_)
      exact P.out _ (by first | exact Below.refl _ _ | exact (Below.refl _ _).drew | exact (Below.refl _ _).alloc (Nat.le_refl _) _ | exact ((Below.refl _ _).alloc (Nat.le_refl _) _).drew)
  · go_wp2_with fail
    refine (pick_any _ _ _ _ r3 (by omega) (by omega)).mono ?_
    rintro e w4 ⟨m3, m30, m31, rfl, r4, g4, s4⟩
    replace OA := Lib.hid (OA.out.kept3 g4 hgR)
    replace OB := Lib.hid (OB.out.kept3 g4 hgR')
    have B4 := Lib.hid (B3.out.trans (Below.of_grown g4 (B := w.heap.size) B3.out.size (Nat.le_refl _)))
    have hlt4 := r4.lt
    clear g4 s4 B3 r3
    by_cases hz : m3 = 0
    · subst hz
      go_wp2_with fail
      go_region_with (go_at_call 29; (first | ((with_reducible refine (pick_any _ _ _ _ (Rd.drew (r4.alloc _)) (by omega) (by omega)).mono ?_); rintro e w9 ⟨m9, m90, m91, rfl, r9, g9, s9⟩; have hsl := sel2_cell g9 (by omega) m9 m90 m91; have G9 := Lib.hid (grownBy_trans (grownBy_drew (World.grownBy_alloc _ _ _)) g9); clear g9) | ((with_reducible refine (pick_any _ _ _ _ (Rd.drew r4) (by omega) (by omega)).mono ?_); rintro e w9 ⟨m9, m90, m91, rfl, r9, g9, s9⟩; have hsl := sel2_list m9 (-1) (max 0 N) m90 m91; have G9 := Lib.hid (grownBy_trans (grownBy_drew (World.grownBy.refl _ _)) g9); clear g9)))
      all_goals
        have hq := sel2_le m9 (-1) (max 0 N) (-1) 728933458176 (by omega) (by omega) (by omega) (by omega)
        have VA := Lib.hid (OA.out.kept3 G9.out hgR)
        have VB := Lib.hid (OB.out.kept3 G9.out hgR')
        have VC := Lib.hid (B4.out.trans (Below.of_grown G9.out (B := w.heap.size) B4.out.size (Nat.le_refl _)))
        have P := Lib.hid (show ∀ W, Below w9.heap.size w9 W → DrawON w (.returned (.tuple #[.slice (some ⟨g, 0, none⟩) n c, .slice (some ⟨g', 0, none⟩) m c', .int .i64 (sel2 m9 (-1) (max 0 N))])) W from
          fun W bW => ⟨g, g', n, m, c, c', A, B, _, rfl, n1, n3, m1, m2, hc1, hc2, hc3, hc4, HA.out, HBL.out, Hs.out.1, Hs.out.2, VA.out.below bW, VB.out.below bW, hgg, by omega, by omega, Below.step0 VC.out bW⟩)
        clear VA VB VC G9
        go_wp2_with fail
        ((try simp only [Exit.inBlock, Exit.then]); refine bodyPost_ret (results3 rfl _ _ _) rfl ?_)
        exact P.out _ (by first | exact Below.refl _ _ | exact (Below.refl _ _).drew | exact (Below.refl _ _).alloc (Nat.le_refl _) _ | exact ((Below.refl _ _).alloc (Nat.le_refl _) _).drew)
    · have hz2 : (m3 == 0) = false := by simpa using hz
      have tz : N ≠ 0 := by omega
      have NZ : ∀ x : Int, 0 ≤ x → (0 ≤ x % N ∧ x % N < N) ∧ x.tmod N = x % N := fun x hx => ⟨⟨Int.emod_nonneg x (by omega), Int.emod_lt_of_pos x (by omega)⟩, Int.tmod_eq_emod_of_nonneg hx⟩
      have NZH := Lib.hid NZ
      clear NZ
      go_wp2_with fail
      go_region_with (go_at_call 29; (first | ((with_reducible refine (pick_any _ _ _ _ r9 (by omega) (by omega)).mono ?_); rintro e w8 ⟨m8, m80, m81, rfl, r8, g8, s8⟩; have a2 : IntKind.i64.wrap (m9 * 200 + m8) = m9 * 200 + m8 := IntWalk.i64_in _ (by omega); have G8 := Lib.hid (grownBy_trans G9.out g8); clear g8 r9 r8) | ((with_reducible refine (pick_any _ _ _ _ (Rd.drew r4) (by omega) (by omega)).mono ?_); rintro e w9 ⟨m9, m90, m91, rfl, r9, g9, s9⟩; have a1 : IntKind.i64.wrap (m9 * 200) = m9 * 200 := IntWalk.i64_in _ (by omega); have G9 := Lib.hid (grownBy_trans (grownBy_drew (World.grownBy.refl _ _)) g9); clear g9)))
      all_goals
        have VA := Lib.hid (OA.out.kept3 G8.out hgR)
        have VB := Lib.hid (OB.out.kept3 G8.out hgR')
        have VC := Lib.hid (B4.out.trans (Below.of_grown G8.out (B := w.heap.size) B4.out.size (Nat.le_refl _)))
        have NX := NZH.out (m9 * 200 + m8) (by omega)
        have P := Lib.hid (show ∀ W v, Below w8.heap.size w8 W → v = (m9 * 200 + m8) % N → DrawON w (.returned (.tuple #[.slice (some ⟨g, 0, none⟩) n c, .slice (some ⟨g', 0, none⟩) m c', .int .i64 v])) W from
          fun W v bW hv => ⟨g, g', n, m, c, c', A, B, _, rfl, n1, n3, m1, m2, hc1, hc2, hc3, hc4, HA.out, HBL.out, Hs.out.1, Hs.out.2, VA.out.below bW, VB.out.below bW, hgg, by omega, by omega, Below.step0 VC.out bW⟩)
        have NE := Lib.hid NX.2
        clear VA VB VC G8 G9 NX
        go_wp2_with fail
        ((try simp only [Exit.inBlock, Exit.then]); refine bodyPost_ret (results3 rfl _ _ _) rfl ?_)
        exact P.out _ _ (by first | exact Below.refl _ _ | exact (Below.refl _ _).drew) (by first | rfl | exact NE.out)
end Go.Proofs.YtjiffbddgbigcaaDoor
