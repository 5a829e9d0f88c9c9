/- The walk of FnBetweenAll. -/
import Derived.Test.YtfggbcpefdamkaaFnNext
import Derived.Test.YtfggbcpefdamkaaAll
import Derived.Test.YtfggbcpefdamkaaBetI
import Derived.Test.YtfggbcpefdamkaaDrawB
namespace Go.Proofs.Ytfggbcpefdamkaa
open Go.RowKit
set_option linter.unusedVariables false
set_option linter.unusedSimpArgs false

theorem count_is3 (a b : Option Addr) (la ca lb cb : Nat) (A B : List Int) (w : World) (hla : la ≤ ca) (hma : ca ≤ maxLen) (hlb : lb ≤ cb) (hmb : cb ≤ maxLen) (h : Ints w a la A) (h' : Ints w b lb B) (ha : a ≠ none) (hb : b ≠ none) (hlim : la + lb ≤ 3000000) (v : Int) (hv : cntV A B = v) :
    Calls Try.prog 12 #[.slice a la ca, .slice b lb cb] w fun e w' => e = .returned (.int .i64 v) ∧ Below w.heap.size w w' := by
  subst hv; exact implCount_any a b la ca lb cb A B w hla hma hlb hmb h h' ha hb hlim

theorem specBet_b (a b : Option Addr) (la ca lb cb : Nat) (A B : List Int) (i k : Int) (w : World) (hla : la ≤ ca) (hma : ca ≤ maxLen) (hlb : lb ≤ cb) (hmb : cb ≤ maxLen) (i2 : i ≤ 9223372036854775807) (k2 : k ≤ 9223372036854775807) (h : Ints w a la A) (h' : Ints w b lb B) :
    Calls Try.prog 15 #[.slice a la ca, .slice b lb cb, .int .i64 i, .int .i64 k] w fun e w' => e = .returned (.int .i64 (betV A B i k)) ∧ Below w.heap.size w w' := by
  refine (specBet_any a b la ca lb cb A B i k w hla hma hlb hmb i2 k2 h h').mono ?_
  rintro e w1 ⟨rfl, m, rfl⟩
  exact ⟨rfl, below_drewN (Below.refl _ _) m⟩
theorem idx_at (W : World) (l : List UInt8) (j : Nat) (hj : j < l.length) : (Instr.index 9 (.string (bs l)) (.int .i64 (j : Int))).run Try.prog W = .ok (.int .u8 ((l[j]'hj).toNat : Int)) W := by
  rw [run_index_string W _ _ _ _ Try.underlying9, dif_pos ⟨by omega, by rw [bs_size]; omega⟩]
  rfl
theorem u8_97 (x : UInt8) : (x.toNat = 97) = (x = 97) := propext ⟨fun q => UInt8.toNat_inj.mp q, fun q => by rw [q]; rfl⟩
theorem u8_98 (x : UInt8) : (x.toNat = 98) = (x = 98) := propext ⟨fun q => UInt8.toNat_inj.mp q, fun q => by rw [q]; rfl⟩
/-- The state of the reading of a text. -/
def AtI (l : List UInt8) (I K p x y : Nat) : Prop :=
  (x ≤ I ∧ y ≤ K ∧ ahd (l.drop p) (I - x) (K - y) = ahd l I K) ∨ (x = I + 1 ∧ y ≤ K ∧ ahd l I K = true) ∨ (x ≤ I ∧ y = K + 1 ∧ ahd l I K = false)
theorem AtI_start (l : List UInt8) (I K : Nat) : AtI l I K 0 0 0 := .inl ⟨Nat.zero_le _, Nat.zero_le _, rfl⟩
theorem AtI_bd {l : List UInt8} {I K p x y : Nat} (h : AtI l I K p x y) : x ≤ I + 1 ∧ y ≤ K + 1 := by
  rcases h with ⟨a, b, _⟩ | ⟨a, b, _⟩ | ⟨a, b, _⟩ <;> omega
theorem AtI_step {l : List UInt8} {I K p x y : Nat} (h : AtI l I K p x y) (hp : p < l.length) (hx : x ≤ I) (hy : y ≤ K) :
    ((l[p]'hp) = 97 → AtI l I K (p + 1) (x + 1) y) ∧ ((l[p]'hp) = 98 → AtI l I K (p + 1) x (y + 1)) ∧ (¬ (l[p]'hp) = 97 → ¬ (l[p]'hp) = 98 → AtI l I K (p + 1) x y) := by
  have e : ahd (l.drop p) (I - x) (K - y) = ahd l I K := by
    rcases h with ⟨_, _, c⟩ | ⟨a, _, _⟩ | ⟨_, b, _⟩
    · exact c
    · omega
    · omega
  rw [List.drop_eq_getElem_cons hp] at e
  refine ⟨fun q => ?_, fun q => ?_, fun q1 q2 => ?_⟩
  · rw [q, ahd_a] at e
    by_cases z : I - x = 0
    · rw [if_pos z] at e
      exact .inr (.inl ⟨by omega, hy, e.symm⟩)
    · rw [if_neg z] at e
      exact .inl ⟨by omega, hy, by rw [show I - (x + 1) = I - x - 1 by omega]; exact e⟩
  · rw [q, ahd_b] at e
    by_cases z : K - y = 0
    · rw [if_pos z] at e
      exact .inr (.inr ⟨hx, by omega, e.symm⟩)
    · rw [if_neg z] at e
      exact .inl ⟨hx, by omega, by rw [show K - (y + 1) = K - y - 1 by omega]; exact e⟩
  · rw [ahd_c _ _ _ q1 q2] at e
    exact .inl ⟨hx, hy, e⟩
theorem AtI_end {l : List UInt8} {I K p x y : Nat} (h : AtI l I K p x y) (hq : l.length ≤ p ∨ I < x ∨ K < y) : I < x ↔ ahd l I K = true := by
  rcases h with ⟨a, b, c⟩ | ⟨a, b, c⟩ | ⟨a, b, c⟩
  · have : l.length ≤ p := by omega
    rw [List.drop_eq_nil_of_le this] at c
    have d : ahd l I K = false := c.symm
    constructor
    · intro; omega
    · intro z; rw [z] at d; cases d
  · exact ⟨fun _ => c, fun _ => by omega⟩
  · constructor
    · intro; omega
    · intro z; rw [z] at c; cases c

set_option maxRecDepth 100000 in
set_option maxHeartbeats 3200000 in
theorem fnBetweenAll_walk (a : Option Addr) (len cap : Nat) (zs : List Int) (w : World) (h : IsRow .u8 w a len cap zs) :
    Calls Try.prog 6 #[.slice a len cap] w fun e w' => e = .returned (.bool true) ∧ Below w.heap.size w w' := by
  obtain ⟨hc, hm⟩ := h.le
  have hm' := hm
  unfold maxLen at hm'
  have h0 := Lib.hid h.bytes
  clear h
  by_cases hl : 1048576 < len
  · go_enter Try.func6, Try.ntmps6
    go_wp2_with fail
    go_ret
    exact ⟨rfl, Below.refl _ _⟩
  · go_enter Try.func6, Try.ntmps6
    go_wp2_with fail
    refine (drawOB_any _ _ _ _ hc hm h0.out).mono ?_
    rintro e w1 ⟨g, g', n, m, c, c', A, B, i, k, rfl, n1, n3, m1, m2, hnc, hmc, hcm, hcm', hA, hB, bA, bB, O1, O2, hgg, i0, i5, k0, k5, b1⟩
    have x1 : c ≤ 9223372036854775807 := hcm
    have x2 : c' ≤ 9223372036854775807 := hcm'
    have HA := Lib.hid hA
    have HBL := Lib.hid hB
    have BA := Lib.hid bA
    have BB := Lib.hid bB
    have OA := Lib.hid O1
    have OB := Lib.hid O2
    have HB := Lib.hid b1
    clear hA hB bA bB O1 O2 b1 h0
    go_wp2_with fail
    refine (implBet_any _ _ _ _ _ _ A B i k _ hnc hcm hmc hcm' (by omega) (by omega) (by omega) (by omega) (OA.out.ints HA.out (fun _ _ => rfl)) (OB.out.ints HBL.out (fun _ _ => rfl)) (by simp) (by simp) (by omega)).mono ?_
    rintro e w2 ⟨rfl, b2⟩
    replace OA := Lib.hid (OA.out.below b2)
    replace OB := Lib.hid (OB.out.below b2)
    replace HB := Lib.hid (Below.step0 HB.out b2)
    clear b2
    go_wp2_with fail
    refine (specBet_b _ _ _ _ _ _ A B i k _ hnc hcm hmc hcm' (by omega) (by omega) (OA.out.ints HA.out (fun _ _ => rfl)) (OB.out.ints HBL.out (fun _ _ => rfl))).mono ?_
    rintro e w3 ⟨rfl, b3⟩
    replace OA := Lib.hid (OA.out.below b3)
    replace OB := Lib.hid (OB.out.below b3)
    replace HB := Lib.hid (Below.step0 HB.out b3)
    clear b3
    have t1 : (betV A B i k != betV A B i k) = false := by simp
    have t2 : (betV A B i k == betV A B i k) = true := by simp
    by_cases hneg : betV A B i k < 0
    · go_wp2_with fail
      go_ret
      exact ⟨rfl, HB.out⟩
    have hok : okB A B = true := by
      cases q : okB A B
      · exact absurd (betV_no (i := i) (k := k) q) (by omega)
      · rfl
    have CB := cntV_bd hok
    have BL := betV_le i k hok
    have HK := Lib.hid hok
    obtain rfl : m = n := by have := (ok_true hok).2.2.1; rw [HA.out, HBL.out] at this; exact this
    have H0 := Lib.hid (show 0 ≤ betV A B i k by omega)
    clear hok
    have TL := cntV_tl HK.out
    have hi0 : 0 ≤ i := by
      obtain ⟨p, q, x, y, hp, hq, e1, e2, e3, e4, hinp, hinq, xx, yy, hx, hy, e⟩ := bet_found HK.out H0.out
      have va := ok_vA HK.out
      have := (sm_bd va.1 p (by omega)).1
      omega
    obtain ⟨II, rfl⟩ : ∃ II : Nat, i = (II : Int) := ⟨i.toNat, by omega⟩
    obtain ⟨KK, rfl⟩ : ∃ KK : Nat, k = (KK : Int) := ⟨k.toNat, by omega⟩
    have AC := Lib.hid (show ((cntP (fun r => ahd (ordT A B r) II KK) (tl A B 0) : Nat) : Int) = betV A B II KK from all_count HK.out H0.out (by omega) (by omega))
    obtain ⟨N, hN⟩ : ∃ N : Nat, cntV A B = (N : Int) := ⟨tl A B 0, TL⟩
    have hNT : tl A B 0 = N := by omega
    rw [hNT] at AC
    rw [hN] at BL CB
    have TN := Lib.hid (show ∀ r : Nat, r < N → nthT A B (r : Int) = ordT A B r ∧ nthB A B (r : Int) = true from fun r hr => nth_at HK.out (by omega))
    have TLN := Lib.hid (show ∀ r : Nat, (ordT A B r).length ≤ 60 from fun r => by
      have := ordT_len HK.out r (k := A.length) (Nat.le_refl _)
      have e : ordT A B r = jn (pt A B r) A.length := rfl
      rw [e]
      rw [HA.out] at this ⊢
      omega)
    clear TL hNT
    go_wp2_with fail
    refine (count_is3 _ _ _ _ _ _ A B _ hnc hcm hmc hcm' (OA.out.ints HA.out (fun _ _ => rfl)) (OB.out.ints HBL.out (fun _ _ => rfl)) (by simp) (by simp) (by omega) (N : Int) hN).mono ?_
    rintro e w4 ⟨rfl, b4⟩
    replace OA := Lib.hid (OA.out.below b4)
    replace OB := Lib.hid (OB.out.below b4)
    replace HB := Lib.hid (Below.step0 HB.out b4)
    clear b4 hN
    by_cases h40 : 40 < N
    · have i1 : (40 : Int) < (N : Int) := by omega
      go_wp2_with fail
      go_ret
      exact ⟨rfl, HB.out⟩
    have i1 : ¬ (40 : Int) < (N : Int) := by omega
    have cle := cntP_le (fun r => ahd (ordT A B r) II KK)
    have CLE := Lib.hid cle
    clear cle
    go_wp2_with fail
    go_loopw [10, 11] (fun mv rv wr => ∃ n : Nat, mv = .int .i64 ((cntP (fun r => ahd (ordT A B r) II KK) n : Nat) : Int) ∧ rv = .int .i64 n ∧ n ≤ N ∧ Hid (Below w4.heap.size w4 wr)) (fun _ rv _ => N - (intOf rv).toNat)
    case atStart => exact ⟨0, rfl, rfl, Nat.zero_le _, Below.refl _ _⟩
    case round =>
      obtain ⟨n, rfl, rfl, hn, W3⟩ := hrel
      by_cases hlt : n < N
      · have i2 : (n : Int) < (N : Int) := by omega
        obtain ⟨y1, y2⟩ := TN.out n hlt
        have Y1 := Lib.hid y1
        have Y2 := Lib.hid y2
        have sl := TLN.out n
        have cl := CLE.out n
        have CS := Lib.hid (show cntP (fun r => ahd (ordT A B r) II KK) (n + 1) = cntP (fun r => ahd (ordT A B r) II KK) n + (if ahd (ordT A B n) II KK = true then 1 else 0) from rfl)
        obtain ⟨C, hC⟩ : ∃ C, cntP (fun r => ahd (ordT A B r) II KK) n = C := ⟨_, rfl⟩
        rw [hC] at CS cl ⊢
        obtain ⟨s, hs⟩ : ∃ s, ordT A B n = s := ⟨_, rfl⟩
        rw [hs] at Y1 CS sl
        clear y1 y2 hC hs
        go_wp2_with fail
        refine (nth_is _ _ _ _ _ _ A B (n : Int) _ hnc hcm hmc hcm' ((OA.out.below W3.out).ints HA.out (fun _ _ => rfl)) ((OB.out.below W3.out).ints HBL.out (fun _ _ => rfl)) (by simp) (by simp) (by omega) Y1.out Y2.out).mono ?_
        rintro e w5 ⟨rfl, b5⟩
        have W5 := Lib.hid (W3.out.trans (b5.mono W3.out.size))
        clear b5 W3
        have hsz : (bs s).size = s.length := bs_size s
        go_wp2_with fail
        go_loop [14, 15, 16] (fun xv yv av => ∃ x y p : Nat, xv = .int .i64 x ∧ yv = .int .i64 y ∧ av = .int .i64 p ∧ p ≤ s.length ∧ Hid (AtI s II KK p x y)) (fun _ _ av => s.length - (intOf av).toNat)
        case atStart => exact ⟨0, 0, 0, rfl, rfl, rfl, Nat.zero_le _, AtI_start _ _ _⟩
        case round =>
          obtain ⟨x, y, p, rfl, rfl, rfl, hp, AI⟩ := hrel
          have ab := AtI_bd AI.out
          by_cases hgo : p < s.length ∧ x ≤ II ∧ y ≤ KK
          · obtain ⟨h1, h2, h3⟩ := hgo
            have IX := fun W => idx_at W s p h1
            obtain ⟨S1, S2, S3⟩ := AtI_step AI.out h1 h2 h3
            have u1 := u8_97 (s[p]'h1)
            have u2 := u8_98 (s[p]'h1)
            rw [← u1] at S1 S3
            rw [← u2] at S2 S3
            generalize (s[p]'h1).toNat = z at IX S1 S2 S3
            have S1 := Lib.hid S1
            have S2 := Lib.hid S2
            have S3 := Lib.hid S3
            have i3 : (p : Int) < ((bs s).size : Int) := by rw [hsz]; omega
            have i4 : (x : Int) ≤ (II : Int) := by omega
            have i5 : (y : Int) ≤ (KK : Int) := by omega
            clear u1 u2 AI
            by_cases z1 : z = 97
            · have Q := Lib.hid (S1.out z1)
              subst z1
              clear S1 S2 S3
              go_wp2_with fail
              go_round
              case rel => exact ⟨x + 1, y, p + 1, by go_num, rfl, by go_num, by omega, Q.out⟩
              case measure => simp [intOf]; omega
            · by_cases z2 : z = 98
              · have Q := Lib.hid (S2.out z2)
                subst z2
                clear S1 S2 S3
                go_wp2_with fail
                go_round
                case rel => exact ⟨x, y + 1, p + 1, rfl, by go_num, by go_num, by omega, Q.out⟩
                case measure => simp [intOf]; omega
              · have Q := Lib.hid (S3.out z1 z2)
                have c1 : (((z : Nat) : Int) == 97) = false := by simp; omega
                have c2 : (((z : Nat) : Int) == 98) = false := by simp; omega
                clear S1 S2 S3
                go_wp2_with fail
                go_round
                case rel => exact ⟨x, y, p + 1, rfl, rfl, by go_num, by omega, Q.out⟩
                case measure => simp [intOf]; omega
          · have EN := AtI_end AI.out (by omega)
            have hlp : (p : Int) ≤ ((bs s).size : Int) := by rw [hsz]; omega
            by_cases g1 : p < s.length
            · have i3 : (p : Int) < ((bs s).size : Int) := by rw [hsz]; omega
              by_cases g2 : x ≤ II
              · have i4 : (x : Int) ≤ (II : Int) := by omega
                have i5 : ¬ (y : Int) ≤ (KK : Int) := by omega
                clear hgo hp
                by_cases hx : II < x
                · have T := EN.1 hx
                  have CS2 := Lib.hid (show cntP (fun r => ahd (ordT A B r) II KK) (n + 1) = C + 1 by rw [CS.out, if_pos T])
                  have i6 : (II : Int) < (x : Int) := by omega
                  clear EN AI T
                  go_wp2_with fail
                  go_roundw
                  case rel => exact ⟨n + 1, by rw [CS2.out]; go_num, by go_num, by omega, W5.out⟩
                  case measure => simp [intOf]; omega
                · have T : ¬ ahd s II KK = true := fun q => hx (EN.2 q)
                  have CS2 := Lib.hid (show cntP (fun r => ahd (ordT A B r) II KK) (n + 1) = C by rw [CS.out, if_neg T, Nat.add_zero])
                  have i6 : ¬ (II : Int) < (x : Int) := by omega
                  clear EN AI T
                  go_wp2_with fail
                  go_roundw
                  case rel => exact ⟨n + 1, by rw [CS2.out], by go_num, by omega, W5.out⟩
                  case measure => simp [intOf]; omega
              · have i4 : ¬ (x : Int) ≤ (II : Int) := by omega
                clear hgo hp
                by_cases hx : II < x
                · have T := EN.1 hx
                  have CS2 := Lib.hid (show cntP (fun r => ahd (ordT A B r) II KK) (n + 1) = C + 1 by rw [CS.out, if_pos T])
                  have i6 : (II : Int) < (x : Int) := by omega
                  clear EN AI T
                  go_wp2_with fail
                  go_roundw
                  case rel => exact ⟨n + 1, by rw [CS2.out]; go_num, by go_num, by omega, W5.out⟩
                  case measure => simp [intOf]; omega
                · have T : ¬ ahd s II KK = true := fun q => hx (EN.2 q)
                  have CS2 := Lib.hid (show cntP (fun r => ahd (ordT A B r) II KK) (n + 1) = C by rw [CS.out, if_neg T, Nat.add_zero])
                  have i6 : ¬ (II : Int) < (x : Int) := by omega
                  clear EN AI T
                  go_wp2_with fail
                  go_roundw
                  case rel => exact ⟨n + 1, by rw [CS2.out], by go_num, by omega, W5.out⟩
                  case measure => simp [intOf]; omega
            · have i3 : ¬ (p : Int) < ((bs s).size : Int) := by rw [hsz]; omega
              clear hgo hp
              by_cases hx : II < x
              · have T := EN.1 hx
                have CS2 := Lib.hid (show cntP (fun r => ahd (ordT A B r) II KK) (n + 1) = C + 1 by rw [CS.out, if_pos T])
                have i6 : (II : Int) < (x : Int) := by omega
                clear EN AI T
                go_wp2_with fail
                go_roundw
                case rel => exact ⟨n + 1, by rw [CS2.out]; go_num, by go_num, by omega, W5.out⟩
                case measure => simp [intOf]; omega
              · have T : ¬ ahd s II KK = true := fun q => hx (EN.2 q)
                have CS2 := Lib.hid (show cntP (fun r => ahd (ordT A B r) II KK) (n + 1) = C by rw [CS.out, if_neg T, Nat.add_zero])
                have i6 : ¬ (II : Int) < (x : Int) := by omega
                clear EN AI T
                go_wp2_with fail
                go_roundw
                case rel => exact ⟨n + 1, by rw [CS2.out], by go_num, by omega, W5.out⟩
                case measure => simp [intOf]; omega
      · obtain rfl : N = n := by omega
        have i2 : ¬ (N : Int) < (N : Int) := by omega
        have t7 : (((cntP (fun r => ahd (ordT A B r) II KK) N : Nat) : Int) == betV A B II KK) = true := by rw [AC.out]; simp
        go_wp2_with fail
        go_ret
        exact ⟨rfl, Below.step0 HB.out W3.out⟩
end Go.Proofs.Ytfggbcpefdamkaa
