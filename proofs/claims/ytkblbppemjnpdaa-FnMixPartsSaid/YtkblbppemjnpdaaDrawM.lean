/- Drawn waters: DrawWaterMix. -/
import Derived.Test.YtkblbppemjnpdaaDrawV
import Derived.Test.YtkblbppemjnpdaaWaterS
import Derived.Deep.DeepCutAuto
namespace Go.Proofs.Ytkblbppemjnpdaa
open Go.RowKit
set_option linter.unusedVariables false

/-- What the drawn list is before the loop. -/
def DmCut (w : World) (v : Value) (s : Value) (wx : World) : Prop := ∃ (n : Int) (k : Nat), s = .int .i64 n ∧ 0 ≤ n ∧ n ≤ 7 ∧ k ≤ 10 ∧ Rd wx w.heap.size k ∧ wx.ownsRow (w.heap.size + 1) 25 2 v 0 (fl []) ∧ Below w.heap.size w wx ∧ w.heap.size + 1 ≤ wx.heap.size

def DrawP (w : World) (e : Ending) (w' : World) : Prop := ∃ (a : Option Addr) (n cap : Nat) (L : List (Int × Int)), e = .returned (.slice a n cap) ∧ n ≤ 7 ∧ n ≤ cap ∧ cap ≤ maxLen ∧ Prs w' a n L ∧ Below w.heap.size w w'

theorem own_kept {w w' : World} {base e size n R : Nat} {v : Value} {xs : List Value} (h : w.ownsRow base e size v n xs) (hg : w.grownBy w' (some R)) (hR : R < base) : w'.ownsRow base e size v n xs := by
  refine h.kept hg ?_
  cases hv : v.ownBlock with
  | none => exact .inl rfl
  | some k =>
    have := (h.lt k hv).1
    exact .inr (by simp; omega)

set_option maxHeartbeats 1600000 in
theorem drawWaterMix_any (a : Option Addr) (len cap : Nat) (w : World) (hc : len ≤ cap) (hm : cap ≤ maxLen) (h : IsBytes w a len) :
    Calls Try.prog 27 #[.slice a len cap] w (DrawP w) := by
  obtain ⟨i0, hi, hz0, hz1, hz2⟩ := info_parts infoWater
  have h0 := Lib.hid h
  clear h
  go_enter Try.func27, Try.ntmps27
  go_wp2_with fail
  refine (l6Open_any _ _ _ _ hc hm h0.out).mono ?_
  rintro e w1 ⟨rfl, r1, b1, s1⟩
  go_wp2_with fail
  refine (pick_any _ _ _ _ (r1.alloc _) (by omega) (by omega)).mono ?_
  rintro e w2 ⟨m2, m20, m21, rfl, r2, g2, s2⟩
  have o1 : (w1.alloc (.cells #[] 25)).ownsRow (w.heap.size + 1) 25 2 (.slice (some ⟨w1.heap.size, 0, none⟩) 0 0) 0 (fl []) := World.ownsRow_lit w1 #[] 0 (by omega) (by unfold maxLen; omega) (by simp)
  have o2 := own_kept o1 g2 (by omega)
  have c2 := (b1.alloc (by omega) (.cells #[] 25)).trans (Below.of_grown g2 (B := w.heap.size) (by simp; omega) (Nat.le_refl _))
  rw [s1] at o2
  clear o1 g2 b1
  go_upto_if 15 with ((go_at_call 45; (with_reducible refine (pick_any _ _ _ _ r2 (by omega) (by omega)).mono ?_); rintro e w3 ⟨m3, m30, m31, rfl, r3, g3, s3⟩))
  have o3 := own_kept o2 g3 (by omega)
  have z2 : w.heap.size + 1 < w2.heap.size := by rw [s2]; simp; omega
  have c3 := c2.trans (Below.of_grown g3 (B := w.heap.size) (by omega) (Nat.le_refl _))
  have z3 : w.heap.size + 1 < w3.heap.size := by rw [s3]; exact z2
  have HO := Lib.hid o3
  have HB := Lib.hid c3
  clear o2 o3 c2 c3 g3 s3 r1 r2
  go_cut [5] (fun s5 wx => DmCut w (.slice (some ⟨w.heap.size + 1, 0, none⟩) 0 0) s5 wx)
  case first =>
    by_cases e0 : m3 = 0
    · subst e0
      go_wp2_with fail
      refine (pick_any _ _ _ _ (r3.alloc _) (by omega) (by omega)).mono ?_
      rintro e w4 ⟨m4, m40, m41, rfl, r4, g4, s4⟩
      have o4 := Lib.hid (own_kept (HO.out.alloc _) g4 (by omega))
      have c4 := Lib.hid ((HB.out.alloc (by omega) _).trans (Below.of_grown g4 (B := w.heap.size) (by simp; omega) (Nat.le_refl _)))
      have z4 : w.heap.size + 1 < w4.heap.size := by rw [s4]; simp; omega
      obtain ⟨k2, l2⟩ := gk g4 w3.heap.size (by simp) (by omega)
      clear g4
      rcases (show m4 = 0 ∨ m4 = 1 by omega) with e1 | e1
      · subst e1
        go_wp2_with fail
        go_meet
        exact ⟨0, _, rfl, by omega, by omega, by omega, r4, o4.out, c4.out, by omega⟩
      · subst e1
        go_wp2_with fail
        go_meet
        exact ⟨7, _, rfl, by omega, by omega, by omega, r4, o4.out, c4.out, by omega⟩
    · have d0 : (m3 == 0) = false := by simpa using e0
      go_wp2_with fail
      go_meet
      exact ⟨1 + m2, _, rfl, by omega, by omega, by omega, r3, HO.out, HB.out, by omega⟩
  case rest =>
    obtain ⟨n, kk, rfl, n0, n7, hkk, rc, oc, bc, zc⟩ := hcut
    have OC := Lib.hid oc
    have BC := Lib.hid bc
    clear oc bc HO HB r3 m30 m31
    go_wp2_with fail
    go_loopw [4, 6] (fun v i wr => ∃ (k : Nat) (L : List (Int × Int)), i = .int .i64 k ∧ (k : Int) ≤ n ∧ Hid (L.length = k) ∧ Rd wr w.heap.size (kk + 4 * k) ∧ wr.ownsRow (w.heap.size + 1) 25 2 v k (fl L) ∧ Below w.heap.size w wr ∧ w.heap.size + 1 ≤ wr.heap.size) (fun _ i _ => (n - intOf i).toNat)
    case atStart => exact ⟨0, [], rfl, n0, rfl, rc, OC.out, BC.out, zc⟩
    case round =>
      obtain ⟨k, L, rfl, hk, hL, rr, ro, rb, rz⟩ := hrel
      by_cases hlt : (k : Int) < n
      · have HO := Lib.hid ro
        have HB := Lib.hid rb
        clear ro rb
        go_wp2_with fail
        refine (l93Water_any _ _ _ rr (by omega)).mono ?_
        rintro e w4 ⟨x, y, rfl, hxy, r4, g4⟩
        have o4 := own_kept HO.out g4 (by omega)
        have c4 := HB.out.trans (Below.of_grown g4 (B := w.heap.size) (by omega) (Nat.le_refl _))
        have z4 : w.heap.size + 1 ≤ w4.heap.size := Nat.le_trans rz g4.size
        clear g4 HO HB rr
        have HB := Lib.hid c4
        clear c4
        go_wp2_with (at_builtin; refine wpList_append_own _ rfl _ _ 35 rfl (w.heap.size + 1) 25 i0 (.agg #[.int .i64 0, .int .i64 0]) 2 16 Try.underlying35 hi hz0 hz1 hz2 rfl (by decide) _ _ _ rfl (o4.alloc _) ⟨w4.heap.size, 0, none⟩ 1 1 [.int .i64 x, .int .i64 y] rfl rfl ?c1 ?c2 ?c3 ?c4 ?c5 ?_)
        case c1 =>
          intro j u hj
          match j, hj with
          | 0, hj => simp at hj; subst hj; simp [Addr.add]
          | 1, hj => simp at hj; subst hj; simp [Addr.add]
        case c2 => intro u hu; simp at hu; rcases hu with rfl | rfl <;> rfl
        case c3 => unfold maxLen; omega
        case c4 => omega
        case c5 => simp; omega
        intro v' w5 o5 g5 _
        have r5 := (r4.alloc (.cells #[.int .i64 x, .int .i64 y] 25)).kept g5 (fun j hj => by have := (o4.lt j hj).1; omega)
        have c5 := (HB.out.alloc (by omega) (.cells #[.int .i64 x, .int .i64 y] 25)).grown g5 (by simp; omega) (fun j hj => by have := (o4.lt j hj).1; omega)
        have z5 : w.heap.size + 1 ≤ w5.heap.size := Nat.le_trans (by simp; omega) g5.size
        have o6 : w5.ownsRow (w.heap.size + 1) 25 2 v' (k + 1) (fl (L ++ [(x, y)])) := by rw [fl_snoc]; exact o5
        have HO6 := Lib.hid o6
        have HC5 := Lib.hid c5
        clear o4 o5 o6 g5 c5 HB r4
        go_wp2_with fail
        go_roundw
        case rel => exact ⟨k + 1, L ++ [(x, y)], by go_num, by omega, by simp [Hid]; exact hL.out, r5.mono (by omega), HO6.out, HC5.out, z5⟩
        case measure => simp [intOf]; omega
      · obtain rfl : n = (k : Int) := by omega
        have HB := Lib.hid rb
        by_cases h1 : 1 < k
        · have d1 : decide (1 < (k : Int)) = true := by simp; omega
          obtain ⟨g, cp, hv, hg, hlt', hkc, hcm⟩ : ∃ g cp, u4 = .slice (some ⟨g, 0, none⟩) k cp ∧ w.heap.size + 1 ≤ g ∧ g < wr.heap.size ∧ k ≤ cp ∧ cp ≤ maxLen := by
            rcases ro.2 with ⟨_, h0⟩ | ⟨g, cp, cur, hv, hb, hh, h2, h3, _⟩
            · omega
            · subst hv
              exact ⟨g, cp, rfl, hb, own_lt ro, h2, h3⟩
          subst hv
          have ro' : wr.ownsRow (w.heap.size + 1) 25 2 (.slice (some ⟨g, 0, none⟩) L.length cp) L.length (fl L) := by rw [hL.out]; exact ro
          have of := own_fl ro'
          rw [hL.out] at of
          have HF := Lib.hid of
          clear ro ro' of rb OC BC rc
          go_wp2_with fail
          refine (pick_any _ _ _ _ rr (by omega) (by omega)).mono ?_
          rintro e w4 ⟨m4, m40, m41, rfl, r4, g4, s4⟩
          have b4 := Below.of_grown g4 (B := w.heap.size) (by omega) (Nat.le_refl _)
          have f4 : OwnF w4 g k (pr L) := by
            obtain ⟨c, f⟩ := gk g4 g hlt' (by omega)
            refine ⟨by rw [s4]; exact hlt', fun i hi => ?_⟩
            obtain ⟨q1, q2, q3, q4⟩ := HF.out.2 i hi
            exact ⟨(c _).trans q1, (c _).trans q2, (f _).trans q3, (f _).trans q4⟩
          have c4 := HB.out.trans b4
          obtain ⟨q1, q2, q3, q4⟩ := f4.2 0 (by omega)
          simp only [Nat.zero_mul, Nat.zero_add] at q1 q2 q3 q4
          have HF4 := Lib.hid f4
          have HC4 := Lib.hid c4
          clear b4 f4 c4 g4 HB HF
          by_cases e0 : m4 = 0
          · subst e0
            go_wp2_with fail
            go_ret
            have o := HF4.out.set0 0 1000
            simp only [Nat.zero_mul] at o
            exact ⟨_, k, cp, _, rfl, by omega, hkc, hcm, o.prs', HC4.out.setCell (by simp; omega) _⟩
          · have d0 : (m4 == 0) = false := by simpa using e0
            go_wp2_with fail
            go_ret
            exact ⟨_, k, cp, _, rfl, by omega, hkc, hcm, HF4.out.prs hL.out (fun _ _ => rfl), HC4.out⟩
        · have d1 : decide (1 < (k : Int)) = false := by simp; omega
          obtain ⟨a', cp, hv, hkc, hcm, hp⟩ := own_prs ro hL.out
          have HP := Lib.hid hp
          clear hp ro rb OC BC rc rr
          subst hv
          go_wp2_with fail
          go_ret
          exact ⟨_, k, cp, L, rfl, by omega, hkc, hcm, HP.out, HB.out⟩
end Go.Proofs.Ytkblbppemjnpdaa
