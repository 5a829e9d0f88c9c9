/- Plain lemmas for FnMix: the list from its end, the averages. -/
import Derived.Test.YtkblbppemjnpdaaMixP
namespace Go.Proofs.Ytkblbppemjnpdaa
open Go.RowKit

/-- The last c of n pairs, from the end. -/
def rv (L : List (Int × Int)) (n c : Nat) : List (Int × Int) := (List.range c).map fun j => pr L (n - 1 - j)
theorem rv_len (L : List (Int × Int)) (n c : Nat) : (rv L n c).length = c := by simp [rv]
theorem rv_snoc (L : List (Int × Int)) (n m : Nat) (h : m < n) : rv L n (n - m) = rv L n (n - (m + 1)) ++ [pr L m] := by
  have e : n - m = n - (m + 1) + 1 := by omega
  rw [e]
  unfold rv
  rw [List.range_succ, List.map_append]
  congr 1
  show [pr L (n - 1 - (n - (m + 1)))] = [pr L m]
  congr 2
  omega
theorem rv_pr (L : List (Int × Int)) (n c j : Nat) (h : j < c) : pr (rv L n c) j = pr L (n - 1 - j) := pr_map c _ j h

def sF (f : Nat → Int) : Nat → Int
  | 0 => 0
  | k + 1 => sF f k + f k
theorem psA_sF (L : List (Int × Int)) (n : Nat) : psA L n = sF (fun k => (pr L k).1) n := by
  induction n with
  | zero => rfl
  | succ n ih => show psA L n + _ = sF _ n + _; rw [ih]
theorem psH_sF (L : List (Int × Int)) (n : Nat) : psH L n = sF (fun k => (pr L k).2) n := by
  induction n with
  | zero => rfl
  | succ n ih => show psH L n + _ = sF _ n + _; rw [ih]
theorem sF_congr {f g : Nat → Int} {n : Nat} (h : ∀ k, k < n → f k = g k) : sF f n = sF g n := by
  induction n with
  | zero => rfl
  | succ n ih => show sF f n + f n = sF g n + g n; rw [ih (fun k hk => h k (by omega)), h n (by omega)]
theorem sF_front (f : Nat → Int) (n : Nat) : sF f (n + 1) = f 0 + sF (fun k => f (k + 1)) n := by
  induction n with
  | zero => show 0 + f 0 = f 0 + 0; omega
  | succ n ih =>
    show sF f (n + 1) + f (n + 1) = f 0 + (sF (fun k => f (k + 1)) n + f (n + 1))
    rw [ih]; omega
theorem sF_rev (f : Nat → Int) (n : Nat) : sF (fun k => f (n - 1 - k)) n = sF f n := by
  induction n with
  | zero => rfl
  | succ n ih =>
    rw [sF_front]
    have e : sF (fun k => f (n + 1 - 1 - (k + 1))) n = sF (fun k => f (n - 1 - k)) n := sF_congr (fun k hk => by congr 1; omega)
    rw [e, ih]
    show f (n + 1 - 1 - 0) + sF f n = sF f n + f n
    rw [show n + 1 - 1 - 0 = n by omega]; omega

theorem mx_rev {L : List (Int × Int)} {n : Nat} (hn : L.length = n) (h : mxOk L = true) : mxOk (rv L n n) = true ∧ mxA (rv L n n) = mxA L ∧ mxH (rv L n n) = mxH L := by
  obtain ⟨h1, h2, h3, h4⟩ := mx_true h
  have e1 : psA (rv L n n) n = psA L n := by
    rw [psA_sF, psA_sF, ← sF_rev (fun k => (pr L k).1)]
    exact sF_congr fun k hk => by rw [rv_pr L n n k hk]
  have e2 : psH (rv L n n) n = psH L n := by
    rw [psH_sF, psH_sF, ← sF_rev (fun k => (pr L k).2)]
    exact sF_congr fun k hk => by rw [rv_pr L n n k hk]
  have hl := rv_len L n n
  have hall : mxAll (rv L n n) (rv L n n).length := by
    intro i hi
    rw [hl] at hi
    rw [rv_pr L n n i hi]
    exact h3 _ (by omega)
  have hs := mx_sum (L := rv L n n) (by omega) (by omega) hall
  rw [hl, e1, e2, ← hn, h4] at hs
  rw [hn] at hs
  obtain ⟨a1, a2, _⟩ := mx_yes hs
  obtain ⟨b1, b2, _⟩ := mx_yes h
  rw [hl] at a1 a2
  exact ⟨hs, by rw [a1, b1, e1, hn], by rw [a2, b2, e2, hn]⟩

/-- r is less than the ratio of x; the ratio of x is less than r. -/
def nlt (A H : Int) (x : Int × Int) : Bool := flB (wrN A H) (wrD A H) (wrN x.1 x.2) (wrD x.1 x.2)
def ngt (A H : Int) (x : Int × Int) : Bool := flB (wrN x.1 x.2) (wrD x.1 x.2) (wrN A H) (wrD A H)

theorem cross {n d m e g k A H a h : Int} (hg : 1 ≤ g) (hk : 1 ≤ k) (e1 : H = n * g) (e2 : A = d * g) (e3 : h = m * k) (e4 : a = e * k) : (n * e < m * d ↔ H * a < h * A) := by
  have hp : 0 < g * k := Int.mul_pos (by omega) (by omega)
  have l : H * a = n * e * (g * k) := by rw [e1, e4, Int.mul_assoc, Int.mul_left_comm g e k, ← Int.mul_assoc]
  have r : h * A = m * d * (g * k) := by rw [e3, e2, Int.mul_assoc, Int.mul_left_comm k d g, Int.mul_comm k g, ← Int.mul_assoc]
  rw [l, r]
  constructor
  · intro q; exact Int.mul_lt_mul_of_pos_right q hp
  · intro q; exact Int.lt_of_mul_lt_mul_right q (by omega)

theorem wr_cross {A H a h : Int} (h1 : wvB A H = true) (h2 : wvB a h = true) : flB (wrN A H) (wrD A H) (wrN a h) (wrD a h) = decide (H * a < h * A) := by
  unfold flB
  rw [wr_fv h1, wr_fv h2]
  obtain ⟨_, g, hg, a1, a2, _⟩ := wr_facts h1
  obtain ⟨_, k, hk, b1, b2, _⟩ := wr_facts h2
  rw [Bool.eq_iff_iff]
  simp only [Bool.true_and, decide_eq_true_eq]
  exact cross hg hk a1 a2 b1 b2

def lowF (L : List (Int × Int)) (n : Nat) (A H : Int) : Nat → Bool
  | 0 => false
  | c + 1 => lowF L n A H c || !nlt A H (pr L (n - 1 - c))
def highF (L : List (Int × Int)) (n : Nat) (A H : Int) : Nat → Bool
  | 0 => false
  | c + 1 => highF L n A H c || !ngt A H (pr L (n - 1 - c))

theorem lowF_step (L : List (Int × Int)) (n m : Nat) (A H : Int) (h : m < n) : lowF L n A H (n - m) = (lowF L n A H (n - (m + 1)) || !nlt A H (pr L m)) := by
  have e : n - m = n - (m + 1) + 1 := by omega
  rw [e]
  show (lowF L n A H (n - (m + 1)) || !nlt A H (pr L (n - 1 - (n - (m + 1))))) = _
  rw [show n - 1 - (n - (m + 1)) = m by omega]
theorem highF_step (L : List (Int × Int)) (n m : Nat) (A H : Int) (h : m < n) : highF L n A H (n - m) = (highF L n A H (n - (m + 1)) || !ngt A H (pr L m)) := by
  have e : n - m = n - (m + 1) + 1 := by omega
  rw [e]
  show (highF L n A H (n - (m + 1)) || !ngt A H (pr L (n - 1 - (n - (m + 1))))) = _
  rw [show n - 1 - (n - (m + 1)) = m by omega]

theorem lowF_all {L : List (Int × Int)} {n : Nat} {A H : Int} {c : Nat} (h : lowF L n A H c = false) : ∀ j, j < c → nlt A H (pr L (n - 1 - j)) = true := by
  induction c with
  | zero => intro j hj; omega
  | succ c ih =>
    intro j hj
    have h' : lowF L n A H c = false ∧ nlt A H (pr L (n - 1 - c)) = true := by
      have : (lowF L n A H c || !nlt A H (pr L (n - 1 - c))) = false := h
      simpa using this
    by_cases e : j = c
    · subst e; exact h'.2
    · exact ih h'.1 j (by omega)
theorem highF_all {L : List (Int × Int)} {n : Nat} {A H : Int} {c : Nat} (h : highF L n A H c = false) : ∀ j, j < c → ngt A H (pr L (n - 1 - j)) = true := by
  induction c with
  | zero => intro j hj; omega
  | succ c ih =>
    intro j hj
    have h' : highF L n A H c = false ∧ ngt A H (pr L (n - 1 - c)) = true := by
      have : (highF L n A H c || !ngt A H (pr L (n - 1 - c))) = false := h
      simpa using this
    by_cases e : j = c
    · subst e; exact h'.2
    · exact ih h'.1 j (by omega)

theorem sum_lt {L : List (Int × Int)} {A H : Int} {k : Nat} (hk : 1 ≤ k) (h : ∀ j, j < k → H * (pr L j).1 < (pr L j).2 * A) : H * psA L k < psH L k * A := by
  induction k with
  | zero => omega
  | succ k ih =>
    show H * (psA L k + (pr L k).1) < (psH L k + (pr L k).2) * A
    have hl := h k (by omega)
    rw [Int.mul_add, Int.add_mul]
    by_cases e : k = 0
    · subst e
      show H * 0 + _ < 0 * A + _
      simp only [Int.mul_zero, Int.zero_mul]
      omega
    · have := ih (by omega) (fun j hj => h j (by omega))
      omega
theorem sum_gt {L : List (Int × Int)} {A H : Int} {k : Nat} (hk : 1 ≤ k) (h : ∀ j, j < k → (pr L j).2 * A < H * (pr L j).1) : psH L k * A < H * psA L k := by
  induction k with
  | zero => omega
  | succ k ih =>
    show (psH L k + (pr L k).2) * A < H * (psA L k + (pr L k).1)
    have hl := h k (by omega)
    rw [Int.mul_add, Int.add_mul]
    by_cases e : k = 0
    · subst e
      show 0 * A + _ < H * 0 + _
      simp only [Int.mul_zero, Int.zero_mul]
      omega
    · have := ih (by omega) (fun j hj => h j (by omega))
      omega

theorem low_true {L : List (Int × Int)} {n : Nat} (hn : L.length = n) (h : mxOk L = true) : lowF L n (mxA L) (mxH L) n = true := by
  obtain ⟨h1, h2, h3, h4⟩ := mx_true h
  obtain ⟨a1, a2, _⟩ := mx_yes h
  cases hf : lowF L n (mxA L) (mxH L) n with
  | true => rfl
  | false =>
    exfalso
    have hall : ∀ j, j < n → mxH L * (pr L j).1 < (pr L j).2 * mxA L := by
      intro j hj
      have := lowF_all hf (n - 1 - j) (by omega)
      rw [show n - 1 - (n - 1 - j) = j by omega] at this
      unfold nlt at this
      rw [wr_cross (by rw [a1, a2]; exact h4) (h3 j (by omega))] at this
      simpa using this
    have := sum_lt (by omega) hall
    rw [← hn, ← a1, ← a2] at this
    omega
theorem high_true {L : List (Int × Int)} {n : Nat} (hn : L.length = n) (h : mxOk L = true) : highF L n (mxA L) (mxH L) n = true := by
  obtain ⟨h1, h2, h3, h4⟩ := mx_true h
  obtain ⟨a1, a2, _⟩ := mx_yes h
  cases hf : highF L n (mxA L) (mxH L) n with
  | true => rfl
  | false =>
    exfalso
    have hall : ∀ j, j < n → (pr L j).2 * mxA L < mxH L * (pr L j).1 := by
      intro j hj
      have := highF_all hf (n - 1 - j) (by omega)
      rw [show n - 1 - (n - 1 - j) = j by omega] at this
      unfold ngt at this
      rw [wr_cross (h3 j (by omega)) (by rw [a1, a2]; exact h4)] at this
      simpa using this
    have := sum_gt (by omega) hall
    rw [← hn, ← a1, ← a2] at this
    omega

/-- A block that is known whole. -/
def BlkF (w : World) (g : Nat) (t : TypeId) (x y : Int) : Prop := w.heap[g]? = some (.cells #[.int .i64 x, .int .i64 y] t (0, 0))
theorem BlkF.lt {w : World} {g : Nat} {t : TypeId} {x y : Int} (h : BlkF w g t x y) : g < w.heap.size := by
  rcases Nat.lt_or_ge g w.heap.size with k | k
  · exact k
  · unfold BlkF at h; rw [Array.getElem?_eq_none k] at h; cases h
theorem BlkF.new (w : World) (t : TypeId) (x y : Int) : BlkF (w.alloc (.cells #[.int .i64 x, .int .i64 y] t)) w.heap.size t x y := heap_alloc_new w _
theorem BlkF.below {w w' : World} {g : Nat} {t : TypeId} {x y : Int} (h : BlkF w g t x y) (b : Below w.heap.size w w') : BlkF w' g t x y := (b.block g h.lt).trans h
theorem BlkF.alloc {w : World} {g : Nat} {t : TypeId} {x y : Int} (h : BlkF w g t x y) (o : Obj) : BlkF (w.alloc o) g t x y := h.below ((Below.refl _ _).alloc (Nat.le_refl _) o)
theorem BlkF.grown {w w' : World} {g : Nat} {t : TypeId} {x y : Int} {row : Option Nat} (h : BlkF w g t x y) (hg : w.grownBy w' row) (hn : row ≠ some g) : BlkF w' g t x y := (hg.block g h.lt (fun e => hn e.symm)).trans h
theorem BlkF.cells {w : World} {g : Nat} {t : TypeId} {x y : Int} (h : BlkF w g t x y) : w.cell? ⟨g, 0, none⟩ = some (.int .i64 x) ∧ w.cell? ⟨g, 1, none⟩ = some (.int .i64 y) :=
  ⟨cell_of_row w g 0 _ t (0, 0) h, cell_of_row w g 1 _ t (0, 0) h⟩
theorem own_blk_ne {w : World} {base e g n : Nat} {t : TypeId} {v : Value} {xs : List Value} {x y : Int} (h : w.ownsRow base e 2 v n xs) (hg : BlkF w g t x y) (hne : e ≠ t) : v.ownBlock ≠ some g := by
  rcases h.2 with ⟨rfl, _⟩ | ⟨g', cap, cur, rfl, _, hh, _⟩
  · simp [Value.ownBlock]
  · intro he
    have e1 : g' = g := by simpa [Value.ownBlock] using he
    subst e1
    unfold BlkF at hg
    rw [hh] at hg
    injection hg with hg
    injection hg with _ ht
    exact hne ht

theorem own_kept' {w w' : World} {base e size n : Nat} {v : Value} {xs : List Value} (h : w.ownsRow base e size v n xs) (b : Below w.heap.size w w') : w'.ownsRow base e size v n xs := by
  obtain ⟨h1, h2⟩ := h
  refine ⟨h1, ?_⟩
  rcases h2 with h2 | ⟨g, cap, cur, hv, hb, hh, r⟩
  · exact .inl h2
  · refine .inr ⟨g, cap, cur, hv, hb, ?_, r⟩
    have hlt : g < w.heap.size := by
      rcases Nat.lt_or_ge g w.heap.size with k | k
      · exact k
      · rw [Array.getElem?_eq_none k] at hh; cases hh
    rw [b.block g hlt]; exact hh
end Go.Proofs.Ytkblbppemjnpdaa
