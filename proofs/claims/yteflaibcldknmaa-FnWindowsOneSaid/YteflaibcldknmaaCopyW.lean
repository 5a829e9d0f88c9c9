/- A copy of a row of windows; rows with one window changed. -/
import Derived.Test.YteflaibcldknmaaTightI
import Derived.Test.YteflaibcldknmaaSameW
namespace Go.Proofs.Yteflaibcldknmaa
open Go.RowKit
set_option linter.unusedVariables false
set_option linter.unusedSimpArgs false

theorem copy_base (W : World) : (W.alloc (.cells #[] 35)).ownsRow W.heap.size 35 2 (.slice (some ⟨W.heap.size, 0, none⟩) 0 0) 0 [] :=
  World.ownsRow_lit (base := W.heap.size) (e := 35) (size := 2) W #[] 0 (Nat.le_refl _) (by unfold maxLen; omega) (by simp)

theorem copy_open {W w1 : World} {v1 : Value} {n : Nat} {L : List (Int × Int)} (h1 : 1 ≤ n) (hL : L.length = n) (o1 : w1.ownsRow W.heap.size 35 2 v1 n (fl L))
    (g1 : (W.alloc (.cells #[] 35)).grownBy w1 (Value.ownBlock (.slice (some ⟨W.heap.size, 0, none⟩) 0 0))) :
    ∃ g c, v1 = .slice (some ⟨g, 0, none⟩) n c ∧ n ≤ c ∧ c ≤ maxLen ∧ OwnF w1 g n (pr L) ∧ W.heap.size ≤ g ∧ Below W.heap.size W w1 := by
  have b1 := ((Below.refl W.heap.size W).alloc (Nat.le_refl _) (.cells #[] 35)).grown g1 (by simp) (fun j hj => ((copy_base W).lt j hj).1)
  have o2 := o1
  obtain ⟨g, c, rfl, hc, hcm, O, hg⟩ := own_val o2 hL (row_some o2 h1)
  exact ⟨g, c, rfl, hc, hcm, O, hg, b1⟩

theorem copy_src {W : World} {g n : Nat} {L : List (Int × Int)} (h : OwnF W g n (pr L)) (hL : L.length = n) (h1 : 1 ≤ n) {o : Obj} : ∀ j u, (fl L)[j]? = some u → (W.alloc o).cell? ((⟨g, 0, none⟩ : Addr).add j) = some u :=
  fun j u hj => cell_alloc_of (prs_src (h.prs hL (fun _ _ => rfl)) h1 j u hj)

theorem OwnF.put {w : World} {g n : Nat} {L : List (Int × Int)} (h : OwnF w g n (pr L)) (hL : L.length = n) (k : Nat) (hk : k < n) (x : Int × Int) :
    OwnF ((w.setCell ⟨g, k * 2, none⟩ (.int .i64 x.1)).setCell ⟨g, k * 2 + 1, none⟩ (.int .i64 x.2)) g n (pr (L.set k x)) :=
  (h.set k x).congr (fun i _ => (pr_set L k x i (by omega)).symm)

theorem OwnF.put1 {w : World} {g n : Nat} {L : List (Int × Int)} (h : OwnF w g n (pr L)) (hL : L.length = n) (k : Nat) (hk : k < n) (u : Int) :
    OwnF (w.setCell ⟨g, k * 2 + 1, none⟩ (.int .i64 u)) g n (pr (L.set k ((pr L k).1, u))) :=
  (h.set1 k u).congr (fun i _ => by rw [pr_set L k _ i (by omega)]; split <;> simp_all)

theorem OwnF.put0 {w : World} {g n : Nat} {L : List (Int × Int)} (h : OwnF w g n (pr L)) (hL : L.length = n) (k : Nat) (hk : k < n) (u : Int) :
    OwnF (w.setCell ⟨g, k * 2, none⟩ (.int .i64 u)) g n (pr (L.set k (u, (pr L k).2))) :=
  (h.set0 k u).congr (fun i _ => by rw [pr_set L k _ i (by omega)]; split <;> simp_all)

theorem wd_set {L S : List (Int × Int)} {k : Nat} {x : Int × Int} (h : wdB L S = true) (hk : k < L.length) (hx : rgB x = true) : wdB (L.set k x) S = true := by
  obtain ⟨w1, w2, w3, w4, w5⟩ := wd_true h
  refine wd_mk ⟨by simpa using w1, by simpa using w2, by simpa using w3, fun i hi => ?_, w5⟩
  rw [List.length_set] at hi
  rw [pr_set L k x i hk]
  split
  · exact hx
  · exact w4 i hi
theorem wd_setS {L S : List (Int × Int)} {k : Nat} {x : Int × Int} (h : wdB L S = true) (hk : k < S.length) (hx : rgB x = true) : wdB L (S.set k x) = true := by
  obtain ⟨w1, w2, w3, w4, w5⟩ := wd_true h
  refine wd_mk ⟨w1, w2, by simpa using w3, w4, fun i hi => ?_⟩
  rw [List.length_set] at hi
  rw [pr_set S k x i hk]
  split
  · exact hx
  · exact w5 i hi
theorem wd_set_no {L S : List (Int × Int)} {k : Nat} {x : Int × Int} (hk : k < L.length) (hx : rgB x = false) : wdB (L.set k x) S = false := by
  cases h : wdB (L.set k x) S with
  | false => rfl
  | true =>
    obtain ⟨_, _, _, w4, _⟩ := wd_true h
    have := w4 k (by simpa using hk)
    rw [pr_set L k x k hk, if_pos rfl, hx] at this
    cases this
theorem rg_old {p : Int × Int} (h : 100000 < p.2) : rgB p = false := by unfold rgB; simp; omega
theorem wd_pr {L S : List (Int × Int)} (h : wdB L S = true) {k : Nat} (hk : k < L.length) : 0 ≤ (pr L k).1 ∧ (pr L k).1 ≤ (pr L k).2 ∧ (pr L k).2 ≤ 100000 := by
  obtain ⟨_, _, _, w4, _⟩ := wd_true h
  exact rg_bd (w4 k hk)

theorem copy_base2 (W : World) (B : Nat) (h : W.heap.size = B) : (W.alloc (.cells #[] 35)).ownsRow B 35 2 (.slice (some ⟨B, 0, none⟩) 0 0) 0 [] := by
  subst h; exact copy_base W
theorem copy_open2 {W w1 : World} {v1 : Value} {n B : Nat} {L : List (Int × Int)} (h : W.heap.size = B) (h1 : 1 ≤ n) (hL : L.length = n) (o1 : w1.ownsRow B 35 2 v1 n (fl L))
    (g1 : (W.alloc (.cells #[] 35)).grownBy w1 (Value.ownBlock (.slice (some ⟨B, 0, none⟩) 0 0))) :
    ∃ g c, v1 = .slice (some ⟨g, 0, none⟩) n c ∧ n ≤ c ∧ c ≤ maxLen ∧ OwnF w1 g n (pr L) ∧ B ≤ g ∧ Below B W w1 := by
  subst h; exact copy_open h1 hL o1 g1

theorem copy_base3 (W : World) (B : Nat) (h : W.heap.size = B) : ((W.alloc (.cells #[] 35)).drew).ownsRow B 35 2 (.slice (some ⟨B, 0, none⟩) 0 0) 0 [] := (copy_base2 W B h).drew
theorem copy_src3 {W : World} {g n : Nat} {L : List (Int × Int)} (h : OwnF W g n (pr L)) (hL : L.length = n) (h1 : 1 ≤ n) {o : Obj} : ∀ j u, (fl L)[j]? = some u → ((W.alloc o).drew).cell? ((⟨g, 0, none⟩ : Addr).add j) = some u := copy_src h hL h1
theorem copy_open3 {W w1 : World} {v1 : Value} {n B : Nat} {L : List (Int × Int)} (h : W.heap.size = B) (h1 : 1 ≤ n) (hL : L.length = n) (o1 : w1.ownsRow B 35 2 v1 n (fl L))
    (g1 : ((W.alloc (.cells #[] 35)).drew).grownBy w1 (Value.ownBlock (.slice (some ⟨B, 0, none⟩) 0 0))) :
    ∃ g c, v1 = .slice (some ⟨g, 0, none⟩) n c ∧ n ≤ c ∧ c ≤ maxLen ∧ OwnF w1 g n (pr L) ∧ B ≤ g ∧ Below B W w1 :=
  copy_open2 h h1 hL o1 ⟨g1.os, g1.tape, g1.output, g1.size, g1.block⟩

theorem OwnF.take {w : World} {g n : Nat} {L : List (Int × Int)} (h : OwnF w g n (pr L)) (k : Nat) (hk : k ≤ n) : OwnF w g k (pr (L.take k)) :=
  ⟨h.1, fun i hi => by rw [pr_take L k i hi]; exact h.2 i (by omega)⟩

theorem twl_one {L S : List (Int × Int)} (h : L.length = 1) : twl L S = L := by
  refine prs_ext (twl_len L S) (fun j hj => ?_)
  rw [twl_len] at hj
  rw [twl_pr L S j hj]
  obtain rfl : j = 0 := by omega
  have := tw_last L S L.length
  rw [h] at this ⊢
  exact this

theorem wd_prS {L S : List (Int × Int)} (h : wdB L S = true) {k : Nat} (hk : k < S.length) : 0 ≤ (pr S k).1 ∧ (pr S k).1 ≤ (pr S k).2 ∧ (pr S k).2 ≤ 100000 := by
  obtain ⟨_, _, _, _, w5⟩ := wd_true h
  exact rg_bd (w5 k hk)

/-- The index that the length of the second text gives. -/
theorem mod_ix (m n : Nat) (h : 1 ≤ n) : ∃ k : Nat, k < n ∧ (m : Int) % (n : Int) = (k : Int) ∧ m % n = k := ⟨m % n, Nat.mod_lt _ (by omega), by omega, rfl⟩
end Go.Proofs.Yteflaibcldknmaa
