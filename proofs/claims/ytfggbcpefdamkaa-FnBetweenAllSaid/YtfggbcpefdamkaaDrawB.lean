/- DrawOrderBetween. -/
import Derived.Test.YtfggbcpefdamkaaDrawO
namespace Go.Proofs.Ytfggbcpefdamkaa
open Go.RowKit
set_option linter.unusedVariables false
set_option linter.unusedSimpArgs false

theorem results4 {fn : Func} {t u v x : Tmp} (h : fn.results = #[.tmp t, .tmp u, .tmp v, .tmp x]) (tmps : Array Value) (P : Program) (w : World) :
    (results fn tmps).run P w = .ok (.tuple #[tmps.getD t Go.undef, tmps.getD u Go.undef, tmps.getD v Go.undef, tmps.getD x Go.undef]) w := by
  simp [results, h]
theorem OwnI.kept2 {w w' : World} {g n R : Nat} {f : Nat → Int} (h : OwnI w g n f) (hg : w.grownBy w' (some R)) (hR : R < g) : OwnI w' g n f := by
  have k := gk hg g h.1 (by omega)
  refine ⟨Nat.lt_of_lt_of_le h.1 hg.size, fun i hi => ?_⟩
  obtain ⟨q1, q2⟩ := h.2 i hi
  exact ⟨(k.1 i).trans q1, (k.2 i).trans q2⟩
def DrawOB (w : World) (e : Ending) (w' : World) : Prop := ∃ (g g' n m c c' : Nat) (A B : List Int) (i k : Int), e = .returned (.tuple #[.slice (some ⟨g, 0, none⟩) n c, .slice (some ⟨g', 0, none⟩) m c', .int .i64 i, .int .i64 k]) ∧ 1 ≤ n ∧ n ≤ 3 ∧ m ≤ n + 1 ∧ n ≤ m ∧ n ≤ c ∧ m ≤ c' ∧ c ≤ maxLen ∧ c' ≤ maxLen ∧ A.length = n ∧ B.length = m ∧
  bdL A (-1) 7 ∧ bdL B 0 3 ∧ OwnI w' g n (it A) ∧ OwnI w' g' m (it B) ∧ g ≠ g' ∧ -1 ≤ i ∧ i ≤ 5 ∧ 0 ≤ k ∧ k ≤ 5 ∧ Below w.heap.size w w'
theorem drawOB_any (a : Option Addr) (len cap : Nat) (w : World) (hc : len ≤ cap) (hm : cap ≤ maxLen) (h : IsBytes w a len) :
    Calls Try.prog 13 #[.slice a len cap] w (DrawOB w) := by
  go_enter Try.func13, Try.ntmps13
  go_wp2_with fail
  refine (l6Open_any _ _ _ _ hc hm h).mono ?_
  rintro e w1 ⟨rfl, r1, b1, s1⟩
  have B1 := Lib.hid b1
  clear b1
  go_wp2_with fail
  refine (l92Parts_any _ _ _ r1 (by omega)).mono ?_
  rintro e w2 ⟨g, g', n, m, c, c', A, B, rfl, n1, n3, m1, m2, hc1, hc2, hc3, hc4, hA, hB, bA, bB, O1, O2, hgg, hg1, hg2, r2, g2⟩
  have hgR : w.heap.size < g := by omega
  have hgR' : w.heap.size < g' := by omega
  have OA := Lib.hid O1
  have OB := Lib.hid O2
  have B2 := Lib.hid (B1.out.trans (Below.of_grown g2 (by omega) (Nat.le_refl _)))
  have Hs := Lib.hid (And.intro hA (And.intro hB (And.intro bA bB)))
  clear O1 O2 hA hB bA bB g2 B1
  go_wp2_with fail
  refine (pick_any _ _ _ _ r2 (by omega) (by omega)).mono ?_
  rintro e w3 ⟨m3, m30, m31, rfl, r3, g3, s3⟩
  replace OA := Lib.hid (OA.out.kept2 g3 hgR)
  replace OB := Lib.hid (OB.out.kept2 g3 hgR')
  have B3 := Lib.hid (B2.out.trans (Below.of_grown g3 (B := w.heap.size) B2.out.size (Nat.le_refl _)))
  clear g3 s3 B2
  go_wp2_with fail
  refine (pick_any _ _ _ _ r3 (by omega) (by omega)).mono ?_
  rintro e w4 ⟨m4, m40, m41, rfl, r4, g4, s4⟩
  replace OA := Lib.hid (OA.out.kept2 g4 hgR)
  replace OB := Lib.hid (OB.out.kept2 g4 hgR')
  have B4 := Lib.hid (B3.out.trans (Below.of_grown g4 (B := w.heap.size) B3.out.size (Nat.le_refl _)))
  clear g4 s4 B3
  obtain ⟨d, hd⟩ : ∃ d, m3 - m4 / 19 = d := ⟨_, rfl⟩
  have d1 : -1 ≤ d := by omega
  have d2 : d ≤ 5 := by omega
  have w1' : IntKind.i64.wrap (m3 - m4 / 19) = m3 - m4 / 19 := IntWalk.i64_in _ (by omega)
  have HD := Lib.hid hd
  clear hd
  go_wp2_with fail
  refine (pick_any _ _ _ _ r4 (by omega) (by omega)).mono ?_
  rintro e w5 ⟨m5, m50, m51, rfl, r5, g5, s5⟩
  have P := Lib.hid (show DrawOB w (.returned (.tuple #[.slice (some ⟨g, 0, none⟩) n c, .slice (some ⟨g', 0, none⟩) m c', .int .i64 (m3 - m4 / 19), .int .i64 m5])) w5 from
    ⟨g, g', n, m, c, c', A, B, _, _, rfl, n1, n3, m1, m2, hc1, hc2, hc3, hc4, Hs.out.1, Hs.out.2.1, Hs.out.2.2.1, Hs.out.2.2.2, OA.out.kept2 g5 hgR, OB.out.kept2 g5 hgR', hgg, by omega, by omega, m50, by omega, B4.out.trans (Below.of_grown g5 (B := w.heap.size) B4.out.size (Nat.le_refl _))⟩)
  clear OA OB B4 Hs g5 s5
  go_wp2_with fail
  ((try simp only [Exit.inBlock, Exit.then]); refine bodyPost_ret (results4 rfl _ _ _) rfl ?_)
  exact P.out
end Go.Proofs.Ytfggbcpefdamkaa
