/- The orders of a rank: the program. -/
import Derived.Test.YtjiffbddgbigcaaDoorNthS
import Derived.Test.YtjiffbddgbigcaaDoorShelf
import Derived.Deep.RegionHeld3
namespace Go.Proofs.YtjiffbddgbigcaaDoor
open Go.RowKit
set_option linter.unusedVariables false
set_option linter.unusedSimpArgs false

theorem jn_join (f : Nat → List UInt8) : ∀ n, Lib.join ((List.range n).map f) [124] = jn f n := by
  have snoc : ∀ (l : List (List UInt8)) (y : List UInt8), l ≠ [] → Lib.join (l ++ [y]) [124] = Lib.join l [124] ++ [124] ++ y := by
    intro l y h
    cases l with
    | nil => exact absurd rfl h
    | cons x r =>
      rw [List.cons_append, Lib.join_cons, Lib.join_cons]
      unfold Lib.joinTail
      simp
  intro n
  induction n with
  | zero => rfl
  | succ n ih =>
    rw [List.range_succ, List.map_append]
    by_cases c : 0 < n
    · rw [jn_more f c, ← ih]
      exact snoc _ _ (fun e => by have := congrArg List.length e; simp at this; omega)
    · obtain rfl : n = 0 := by omega
      rw [jn_one]
      simp [Lib.join_one]
theorem join_any (g n c : Nat) (f : Nat → List UInt8) (w : World) (hn : n ≤ 4) (hc : n ≤ c) (h : OwnS w g n (fun i => bs (f i))) (hb : (jn f n).length ≤ 1000000) :
    Calls Tryd.prog 32 #[.slice (some ⟨g, 0, none⟩) n c, .string ⟨#[124]⟩] w fun e w' => e = .returned (.string (bs (jn f n))) ∧ Below w.heap.size w w' := by
  have em : ((List.range n).map (fun k => bs (f k))).map (fun s : ByteArray => s.data.toList) = (List.range n).map f := by
    rw [List.map_map]
    exact List.map_congr_left (fun k _ => bs_data (f k))
  have es : (⟨#[124]⟩ : ByteArray).data.toList = [124] := rfl
  have k := sh_strings_Join g 0 c ((List.range n).map (fun k => bs (f k))) ⟨#[124]⟩ w (fun j x hx => by
    have hj : j < n := by
      have := (List.getElem?_eq_some_iff.1 hx).1
      simpa using this
    have e := (h.2 j hj).1
    simp [hj] at hx
    subst hx
    rw [Nat.zero_add]
    exact e) h.1 (by simp; omega) (by simpa using hc) (by rw [em, es, jn_join]; omega)
  rw [em, es, jn_join] at k
  simp only [List.length_map, List.length_range] at k
  exact k
theorem choose_c (s t : Int) (a b : Nat) (hs : s = (a : Int) + (b : Int)) (ht : t = (a : Int)) (hab : a + b ≤ 12) (v : Nat) (hv : ch a b = v) (w : World) : Calls Tryd.prog 30 #[.int .i64 s, .int .i64 t] w fun e w' => e = .returned (.int .i64 (v : Int)) ∧ w' = w := by
  subst hs ht hv
  have h := choose_any (a + b) a (by omega) hab w
  rw [Int.natCast_add] at h
  exact h
theorem partNth_is (s t u : Int) (a b n : Nat) (q : List UInt8) (hs : s = (a : Int)) (ht : t = (b : Int)) (hu : u = (n : Int)) (ha : a ≤ 6) (hb : b ≤ 6) (hn : n < ch a b) (hq : txt (a + b) a b n = q) (w : World) :
    Calls Tryd.prog 31 #[.int .i64 s, .int .i64 t, .int .i64 u] w fun e w' => e = .returned (.string (bs q)) ∧ Below w.heap.size w w' := by
  subst hs ht hu hq; exact partNth_any a b n ha hb hn w
theorem nthB_neg {A B : List Int} {n : Int} (h : n < 0) : nthB A B n = false := by unfold nthB; simp; omega
theorem nthB_big {A B : List Int} {n : Int} (h : cntV A B ≤ n) : nthB A B n = false := by unfold nthB; simp; omega
theorem nthB_all {A B : List Int} {n : Int} (h0 : 0 ≤ n) (h : n < cntV A B) : nthB A B n = true := by
  have ok : okB A B = true := by
    cases hk : okB A B
    · rw [cntV_no hk] at h; omega
    · rfl
  unfold nthB
  rw [ok]
  simp
  omega
/-- A digit and what is left, from the last part on. -/
theorem tl_down {A B : List Int} {r : Nat} (h : okB A B = true) (hr : r < tl A B 0) {k : Nat} (hk : k < A.length) :
    r / tl A B (k + 1) ≤ 728933458176 ∧ r / tl A B (k + 1) / cc A B k = r / tl A B k ∧ r / tl A B (k + 1) % cc A B k = dg A B r k := by
  have b0 := tl_bd h (k := 0) (by omega)
  have m := Nat.div_le_self r (tl A B (k + 1))
  exact ⟨by omega, dg_down r hk, rfl⟩
theorem keepc {W w : World} {g b1 o1 b2 o2 : Nat} {v1 v2 : Value} (h1 : b1 < g) (h2 : b2 < g) (e1 : W.cell? ⟨b1, o1, none⟩ = some v1) (e2 : W.cell? ⟨b2, o2, none⟩ = some v2) (b : Below g W w) :
    w.cell? ⟨b1, o1, none⟩ = some v1 ∧ w.cell? ⟨b2, o2, none⟩ = some v2 ∧ Below g W w := ⟨(b.cell (p := ⟨b1, o1, none⟩) h1).trans e1, (b.cell (p := ⟨b2, o2, none⟩) h2).trans e2, b⟩
set_option maxHeartbeats 3200000 in
theorem implNth_any (a b : Option Addr) (la ca lb cb : Nat) (A B : List Int) (n : Int) (w : World) (hla : la ≤ ca) (hma : ca ≤ maxLen) (hlb : lb ≤ cb) (hmb : cb ≤ maxLen) (h : Ints w a la A) (h' : Ints w b lb B) (ha : a ≠ none) (hb : b ≠ none) (hlim : la + lb ≤ 3000000) :
    Calls Tryd.prog 12 #[.slice a la ca, .slice b lb cb, .int .i64 n] w fun e w' => e = .returned (.tuple #[.string (bs (nthT A B n)), .bool (nthB A B n)]) ∧ Below w.heap.size w w' := by
  have hm1 : ca ≤ 9223372036854775807 := hma
  have hm2 : cb ≤ 9223372036854775807 := hmb
  obtain ⟨i0, hi, hz0, hz1, hz2⟩ := info_parts infoStr
  have H := Lib.hid h
  have H' := Lib.hid h'
  clear h h'
  by_cases hneg : n < 0
  · have YB := nthB_neg (A := A) (B := B) hneg
    rw [YB, nthT_no YB]
    clear YB
    go_enter Tryd.func12, Tryd.ntmps12
    go_wp2_with fail
    go_ret2
    exact ⟨rfl, Below.refl _ _⟩
  by_cases hbig : cntV A B ≤ n
  · have YB := nthB_big hbig
    rw [YB, nthT_no YB]
    clear YB
    go_enter Tryd.func12, Tryd.ntmps12
    go_wp2_with fail
    refine (implCount_any _ _ _ _ _ _ A B _ hla hma hlb hmb H.out H'.out ha hb hlim).mono ?_
    rintro e w1 ⟨rfl, b1⟩
    go_wp2_with fail
    go_ret2
    exact ⟨rfl, b1⟩
  have hbig2 : n < cntV A B := by omega
  have hyes := nthB_all (by omega) hbig2
  obtain ⟨hok, r, rfl, hr⟩ := nthB_yes hyes
  have OK := Lib.hid hok
  have HR := Lib.hid hr
  obtain ⟨g1, g2, g3, g4, g5⟩ := ok_true hok
  have TN := Lib.hid (nthT_yes hyes)
  have YB := Lib.hid hyes
  have HL := Lib.hid H.out.1
  obtain rfl : lb = la := by have := H'.out.1; have := H.out.1; omega
  have hl4 : lb ≤ 4 := by have := H.out.1; omega
  have hl1 : 1 ≤ lb := by have := H.out.1; omega
  obtain ⟨ba, oa, rfl, hba, hcA⟩ : ∃ bb off, a = some ⟨bb, off, none⟩ ∧ bb < w.heap.size ∧ IntsAt w bb off A := by
    rcases H.out.2 with q | ⟨bb, off, q1, q2, q3⟩
    · omega
    · exact ⟨bb, off, q1, q2, q3⟩
  obtain ⟨bb, ob, rfl, hbb, hcB⟩ : ∃ bb off, b = some ⟨bb, off, none⟩ ∧ bb < w.heap.size ∧ IntsAt w bb off B := by
    rcases H'.out.2 with q | ⟨bb, off, q1, q2, q3⟩
    · omega
    · exact ⟨bb, off, q1, q2, q3⟩
  have HCA := Lib.hid hcA
  have HCB := Lib.hid hcB
  have G4 := Lib.hid g4
  have G5 := Lib.hid g5
  have TS := Lib.hid (fun k (hk : k < lb) => tl_down hok hr (k := k) (by rw [H.out.1]; exact hk))
  clear hcA hcB hok hr g1 g2 g3 g4 g5 hyes ha hb
  go_enter Tryd.func12, Tryd.ntmps12
  go_wp2_with fail
  refine (implCount_any _ _ _ _ _ _ A B _ hla hma hlb hmb H.out H'.out (by simp) (by simp) hlim).mono ?_
  rintro e w1 ⟨rfl, b1⟩
  have B1 := Lib.hid b1
  clear b1
  go_wp2_with (refine wpList_make_full _ rfl _ _ 43 rfl w1.heap.size 9 i0 (.string ByteArray.empty) 1 Tryd.underlying43 hi hz0 hz1 .i64 .i64 _ _ lb rfl rfl rfl rfl (by rw [hz2]; omega) (by unfold maxLen; omega) (Nat.le_refl _) ?_; intro w2 hown hgrow)
  have O0 := Lib.hid (own_smade hown)
  have B2 := Lib.hid (B1.out.trans (((Below.refl w1.heap.size w1).grown hgrow (Nat.le_refl _) (by simp)).mono B1.out.size))
  have hg9 : w.heap.size ≤ w1.heap.size := B1.out.size
  clear hown hgrow B1
  go_wp2_with fail
  generalize w1.heap.size = g at *
  go_loopw [2, 9] (fun vn vk wr => ∃ (j : Nat) (kk : Int), vn = .int .i64 ((r / tl A B j : Nat) : Int) ∧ vk = .int .i64 kk ∧ kk = (j : Int) - 1 ∧ j ≤ lb ∧ Hid (OwnS wr g lb (fun i => if j ≤ i then bs (pt A B r i) else ByteArray.empty)) ∧ Hid (Below w.heap.size w wr)) (fun _ vk _ => (intOf vk + 1).toNat)
  case atStart => exact ⟨lb, _, by rw [← HL.out, tl_last, Nat.div_one], rfl, by go_num, Nat.le_refl _, O0.out.congr (fun i hi => by rw [if_neg (by omega)]), B2.out⟩
  case round =>
    obtain ⟨j, kk, rfl, rfl, hkk, hj, RO, HB⟩ := hrel
    by_cases hz : j = 0
    · subst hz
      obtain rfl : kk = -1 := by omega
      have E := Lib.hid (show bs (jn (pt A B r) lb) = bs (nthT A B r) by rw [TN.out, ← HL.out]; rfl)
      have O1 := Lib.hid (RO.out.congr (f' := fun i => bs (pt A B r i)) (fun i _ => by rw [if_pos (Nat.zero_le _)]))
      clear RO hkk
      go_wp2_with fail
      refine (join_any g lb lb (pt A B r) _ hl4 (Nat.le_refl _) O1.out (by have := ordT_len OK.out r (k := lb) (by rw [HL.out]; exact Nat.le_refl _); omega)).mono ?_
      rintro e w3 ⟨rfl, b3⟩
      go_wp2_with fail
      go_ret2
      exact ⟨by rw [E.out, YB.out]; rfl, Below.step0 HB.out b3⟩
    · obtain ⟨k, rfl⟩ : ∃ k, j = k + 1 := ⟨j - 1, by omega⟩
      obtain rfl : kk = (k : Int) := by omega
      have hlt : k < lb := by omega
      obtain ⟨q3, q5, q6⟩ := TS.out k hlt
      have bA := G4.out k (by rw [HL.out]; exact hlt)
      have bB := G5.out k (by rw [HL.out]; exact hlt)
      obtain ⟨α, hα, hα2⟩ : ∃ α : Nat, it A k = (α : Int) ∧ ni A k = α := ⟨(it A k).toNat, by omega, rfl⟩
      obtain ⟨β, hβ, hβ2⟩ : ∃ β : Nat, it B k = (β : Int) ∧ ni B k = β := ⟨(it B k).toNat, by omega, rfl⟩
      have u0 : wr.cell? ⟨ba, oa + k, none⟩ = some (.int .i64 α) := by rw [← hα]; exact (HB.out.cell (p := ⟨ba, oa + k, none⟩) hba).trans (HCA.out k (by rw [HL.out]; exact hlt))
      have u1 : wr.cell? ⟨bb, ob + k, none⟩ = some (.int .i64 β) := by rw [← hβ]; exact (HB.out.cell (p := ⟨bb, ob + k, none⟩) hbb).trans (HCB.out k (by have := H'.out.1; omega))
      have DL := Lib.hid (show dg A B r k < ch α β by have := dg_lt A B r k; unfold cc at this; rw [hα2, hβ2] at this; exact this)
      have PT := Lib.hid (show txt (α + β) α β (dg A B r k) = pt A B r k by unfold pt; rw [hα2, hβ2])
      have i0' : (0 : Int) ≤ (k : Int) := by omega
      have i1 : (k : Int) < (lb : Int) := by omega
      have i1 : (k : Int) + 1 ≤ (lb : Int) := by omega
      have cce : cc A B k = ch α β := by unfold cc; rw [hα2, hβ2]
      rw [cce] at q5 q6
      obtain ⟨ν, hν⟩ : ∃ ν, r / tl A B (k + 1) = ν := ⟨_, rfl⟩
      obtain ⟨τ, hτ⟩ : ∃ τ, ch α β = τ := ⟨_, rfl⟩
      obtain ⟨δ, hδ⟩ : ∃ δ, dg A B r k = δ := ⟨_, rfl⟩
      have t1 := ch_pos α β
      have t2 := ch_bd α (by omega) β (by omega)
      rw [hν] at q3 q5 q6
      rw [hτ] at q5 q6 t1 t2
      rw [hδ] at q6 DL PT
      rw [hν]
      have q7 : (ν : Int) % (τ : Int) = (δ : Int) := by rw [← q6]; rfl
      have q8 : (ν : Int).tmod (τ : Int) = (δ : Int) := by rw [← q6]; rfl
      have q9 : (ν : Int) / (τ : Int) = ((r / tl A B k : Nat) : Int) := by rw [← q5]; rfl
      have QR := Lib.hid q9
      have q55 : r / tl A B k ≤ 728933458176 := by rw [← q5]; exact Nat.le_trans (Nat.div_le_self _ _) q3
      have HT := Lib.hid hτ
      have bl : α ≤ 6 ∧ β ≤ 6 := by omega
      obtain ⟨bl1, bl2⟩ := bl
      have a1 : IntKind.i64.wrap ((α : Int) + (β : Int)) = (α : Int) + (β : Int) := IntWalk.i64_in _ (by omega)
      obtain ⟨w0, hw0⟩ := RO.out.2 k hlt
      have HRO := RO
      have hgl := RO.out.1
      clear bA bB hα hα2 hβ hβ2 q5 q6 q9 hν hτ hδ cce hkk hz
      go_wp2_with fail
      go_quiet ((go_at_call 30; exact Calls.quiet_of_same (choose_c _ _ α β (by first | rfl | exact a1) rfl (by omega) τ HT.out _)))
      go_wp2_with fail
      obtain ⟨wq, hwq⟩ : ∃ wq, wr.drewN nq = wq := ⟨_, rfl⟩
      have v0 : wq.cell? ⟨ba, oa + k, none⟩ = some (.int .i64 α) := by rw [← hwq, cell_drewN]; exact u0
      have v1 : wq.cell? ⟨bb, ob + k, none⟩ = some (.int .i64 β) := by rw [← hwq, cell_drewN]; exact u1
      have VR := Lib.hid (show OwnS wq g lb (fun i => if k + 1 ≤ i then bs (pt A B r i) else ByteArray.empty) by rw [← hwq]; exact RO.out.below (below_drewN (Below.refl _ _) nq))
      have VB := Lib.hid (show Below w.heap.size w wq by rw [← hwq]; exact below_drewN HB.out nq)
      rw [hwq]
      have hba2 : ba < g := Nat.lt_of_lt_of_le hba hg9
      have hbb2 : bb < g := Nat.lt_of_lt_of_le hbb hg9
      have hgl2 := VR.out.1
      obtain ⟨x0, y0⟩ := VR.out.2 k hlt
      dsimp only at x0
      rw [if_neg (by omega)] at x0
      clear u0 u1 RO HRO HB w0 hw0 hgl hwq
      obtain ⟨q, hq⟩ : ∃ q, pt A B r k = q := ⟨_, rfl⟩
      rw [hq] at PT
      have HQ := Lib.hid hq
      clear hq
      have tz : τ ≠ 0 := by omega
      go_region_held3 (fun w' => w'.cell? ⟨ba, oa + k, none⟩ = some (.int .i64 α) ∧ w'.cell? ⟨bb, ob + k, none⟩ = some (.int .i64 β) ∧ Below g wq w')
        (first | exact keepc hba2 hbb2 v0 v1 (Below.refl _ _).drew | exact keepc hba2 hbb2 v0 v1 (Below.refl _ _) | (go_split_ands; exact keepc hba2 hbb2 v0 v1 b9) | (go_split_ands; exact keepc hba2 hbb2 v0 v1 (b9.setCell (p := ⟨g, k, none⟩) (Nat.le_refl _) _)))
        ((go_at_call 31; go_split_ands; (with_reducible refine (partNth_is _ _ _ α β δ q rfl rfl (by first | rfl | exact q7) bl1 bl2 DL.out PT.out _).mono ?_); rintro e w8 ⟨rfl, b8⟩; have z0 := (b8.cell (p := ⟨g, k, none⟩) hgl2).trans x0; have z1 := (b8.frozen (p := ⟨g, k, none⟩) hgl2).trans y0; have b9 : Below g wq w8 := (Below.refl wq.heap.size wq).drew.trans b8 |>.mono (Nat.le_of_lt hgl2)))
      all_goals
        go_split_ands
        have VR2 := Lib.hid ((VR.out.below ((Below.refl wq.heap.size wq).drew.trans b8)).set k (bs q))
        have VB2 := Lib.hid ((VB.out.trans (b9.mono hg9)).setCell (p := ⟨g, k, none⟩) hg9 (.string (bs q)))
        clear VR VB
        go_wp2_with fail
        go_roundw
        case rel =>
          refine ⟨k, _, by first | rfl | (rw [QR.out]; done) | (rw [QR.out]; simp only [← IntWalk.i64_left]; generalize r / tl A B k = z at q55 ⊢; rw [IntWalk.i64_in _ (by omega)]), rfl, by go_num, by omega, VR2.out.congr (fun i hi => ?_), VB2.out⟩
          try dsimp only
          by_cases e : i = k
          · subst e; rw [if_pos rfl, if_pos (Nat.le_refl _), HQ.out]
          · rw [if_neg e]
            by_cases e2 : k + 1 ≤ i
            · rw [if_pos e2, if_pos (by omega)]
            · rw [if_neg e2, if_neg (by omega)]
        case measure => simp [intOf] <;> omega
theorem specNth_b (a b : Option Addr) (la ca lb cb : Nat) (A B : List Int) (n : Int) (w : World) (hla : la ≤ ca) (hma : ca ≤ maxLen) (hlb : lb ≤ cb) (hmb : cb ≤ maxLen) (h : Ints w a la A) (h' : Ints w b lb B) :
    Calls Tryd.prog 13 #[.slice a la ca, .slice b lb cb, .int .i64 n] w fun e w' => e = .returned (.tuple #[.string (bs (nthT A B n)), .bool (nthB A B n)]) ∧ Below w.heap.size w w' := by
  refine (specNth_any a b la ca lb cb A B n w hla hma hlb hmb h h').mono ?_
  rintro e w1 ⟨rfl, m, rfl⟩
  exact ⟨rfl, below_drewN (Below.refl _ _) m⟩
end Go.Proofs.YtjiffbddgbigcaaDoor
