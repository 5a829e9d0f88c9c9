/- Contracts over slices of numbers: toIntS, eqIntS, sameInts, sumOf, markIntS, heldIntS; a copy of a row of numbers. -/
import Derived.Test.YtfggbcpefdamkaaInts
import Derived.Test.YtfggbcpefdamkaaWithin
import Derived.Deep.QuietTactic
import Derived.BigQuiet
import Derived.RegionTactic
namespace Go.Proofs.Ytfggbcpefdamkaa
open Go.RowKit
set_option linter.unusedVariables false
set_option linter.unusedSimpArgs false

theorem infoInt : (Try.prog.info? 3).map (fun i => (i.zero, i.size, i.bytes)) = some (some (.int .i64 0), 1, 8) := by kernel_rfl

theorem ints_ext {A B : List Int} (hl : A.length = B.length) (h : ∀ j, j < A.length → it A j = it B j) : A = B := by
  apply List.ext_getElem hl
  intro i h1 h2
  have := h i h1
  unfold it at this
  rw [List.getD_eq_getElem?_getD, List.getElem?_eq_getElem h1, List.getD_eq_getElem?_getD, List.getElem?_eq_getElem h2] at this
  exact this
def eqI (A B : List Int) : Bool := decide (A = B)
theorem eqI_self (A : List Int) : eqI A A = true := by unfold eqI; simp
theorem eqI_no {A B : List Int} (h : A ≠ B) : eqI A B = false := by unfold eqI; simp [h]
theorem eqI_yes {A B : List Int} (h : A = B) : eqI A B = true := by unfold eqI; simp [h]
theorem it_set (A : List Int) (k : Nat) (x : Int) (i : Nat) (h : k < A.length) : it (A.set k x) i = if i = k then x else it A i := by
  unfold it
  rw [List.getD_eq_getElem?_getD, List.getElem?_set]
  by_cases e : i = k
  · subst e; simp [h]
  · rw [if_neg (fun q => e q.symm), if_neg e, List.getD_eq_getElem?_getD]
theorem take_snoc_it (A : List Int) (k : Nat) (h : k < A.length) : A.take (k + 1) = A.take k ++ [it A k] := by
  rw [List.take_succ_eq_append_getElem h]
  unfold it
  rw [List.getD_eq_getElem?_getD, List.getElem?_eq_getElem h]
  rfl

/-- A new slice of numbers. -/
def NewInts (w : World) (len : Nat) (A : List Int) (e : Ending) (w' : World) : Prop :=
  ∃ g : Nat, e = .returned (.slice (some ⟨g, 0, none⟩) len len) ∧ A.length = len ∧ OwnI w' g len (it A) ∧ w.heap.size ≤ g ∧ Below w.heap.size w w'

/-- A row of numbers in a block of a range. -/
def RowI (w : World) (a : Option Addr) (n : Nat) (A : List Int) (lo hi : Nat) : Prop :=
  A.length = n ∧ hi ≤ w.heap.size ∧ (n = 0 ∨ ∃ g : Nat, a = some ⟨g, 0, none⟩ ∧ lo ≤ g ∧ g < hi ∧ OwnI w g n (it A))
theorem RowI.ints {w : World} {a : Option Addr} {n : Nat} {A : List Int} {lo hi : Nat} (h : RowI w a n A lo hi) : Ints w a n A := by
  obtain ⟨h1, _, h2 | ⟨g, rfl, _, _, o⟩⟩ := h
  · exact ⟨h1, .inl h2⟩
  · exact o.ints h1 (fun _ _ => rfl)
theorem RowI.below {w w' : World} {a : Option Addr} {n : Nat} {A : List Int} {lo hi : Nat} (h : RowI w a n A lo hi) (b : Below w.heap.size w w') : RowI w' a n A lo hi := by
  obtain ⟨h1, h0, h2 | ⟨g, rfl, h3, h4, o⟩⟩ := h
  · exact ⟨h1, Nat.le_trans h0 b.size, .inl h2⟩
  · exact ⟨h1, Nat.le_trans h0 b.size, .inr ⟨g, rfl, h3, h4, o.below b⟩⟩
theorem OwnI.within {w w' : World} {g n : Nat} {f : Nat → Int} {lo hi : Nat} (h : OwnI w g n f) (x : Within lo hi w w') (hd : g < lo ∨ hi ≤ g) : OwnI w' g n f := by
  have hb := x.block g h.1 hd
  refine ⟨Nat.lt_of_lt_of_le h.1 x.size, fun i hi' => ?_⟩
  obtain ⟨q1, q2⟩ := h.2 i hi'
  exact ⟨(World.cell?_of_block hb).trans q1, (World.frozen?_of_block hb).trans q2⟩
theorem RowI.within {w w' : World} {a : Option Addr} {n : Nat} {A : List Int} {lo hi lo' hi' : Nat} (h : RowI w a n A lo hi) (x : Within lo' hi' w w') (hd : hi ≤ lo' ∨ hi' ≤ lo) : RowI w' a n A lo hi := by
  obtain ⟨h1, h0, h2 | ⟨g, rfl, h3, h4, o⟩⟩ := h
  · exact ⟨h1, Nat.le_trans h0 x.size, .inl h2⟩
  · exact ⟨h1, Nat.le_trans h0 x.size, .inr ⟨g, rfl, h3, h4, o.within x (by omega)⟩⟩
theorem RowI.of_new {w w' : World} {g n : Nat} {A : List Int} (hl : A.length = n) (o : OwnI w' g n (it A)) (hg : w.heap.size ≤ g) : RowI w' (some ⟨g, 0, none⟩) n A w.heap.size w'.heap.size :=
  ⟨hl, Nat.le_refl _, .inr ⟨g, rfl, hg, o.1, o⟩⟩

theorem OwnI.drew {w : World} {g n : Nat} {f : Nat → Int} (h : OwnI w g n f) : OwnI w.drew g n f := h
def mkI (k : Int) (n : Nat) : List Int := (List.range n).map fun (i : Nat) => k + (i : Int)
theorem mkI_len (k : Int) (n : Nat) : (mkI k n).length = n := by simp [mkI]
theorem mkI_it (k : Int) (n i : Nat) (h : i < n) : it (mkI k n) i = k + (i : Int) := it_map n (fun (i : Nat) => k + (i : Int)) i h
def MarkIPost (w : World) (a : Option Addr) (n : Nat) (lo hi : Nat) (k : Int) (e : Ending) (w' : World) : Prop := e = .returned (.int .i64 (k + (n : Int))) ∧ RowI w' a n (mkI k n) lo hi ∧ Within lo hi w w'

/-- The row that an append to an empty slice leaves. -/
theorem own_vali {w : World} {B e : Nat} {v : Value} {n : Nat} {A : List Int} (h : w.ownsRow B e 1 v n (il A)) (hn : A.length = n) (hv : v.ownBlock ≠ none) :
    ∃ g c, v = .slice (some ⟨g, 0, none⟩) n c ∧ n ≤ c ∧ c ≤ maxLen ∧ OwnI w g n (it A) ∧ B ≤ g := by
  subst hn
  rcases h.2 with ⟨h1, _⟩ | ⟨g, cap, cur, hv', hb, hh, h1, h2, _⟩
  · subst h1; simp [Value.ownBlock] at hv
  · subst hv'
    exact ⟨g, cap, rfl, h1, h2, own_il h, hb⟩
theorem rowi_some {B e size n : Nat} {w : World} {v : Value} {xs : List Value} (h : w.ownsRow B e size v n xs) (hn : 1 ≤ n) : v.ownBlock ≠ none := by
  rcases h.2 with ⟨_, h0⟩ | ⟨g, cap, cur, hv, _⟩
  · omega
  · subst hv; simp [Value.ownBlock]
theorem il_snoc (A : List Int) (x : Int) : il (A ++ [x]) = il A ++ [.int .i64 x] := by simp [il]
theorem int_new (W : World) (x : Value) (t : TypeId) : ∀ j u, [x][j]? = some u → (W.alloc (.cells #[x] t)).cell? ((⟨W.heap.size, 0, none⟩ : Addr).add j) = some u := by
  intro j u hj
  match j, hj with
  | 0, hj => simp at hj; subst hj; simp [Addr.add]
theorem int_new2 (W : World) (o : Obj) (x : Value) (t : TypeId) : ∀ j u, [x][j]? = some u → ((W.alloc o).alloc (.cells #[x] t)).cell? ((⟨W.heap.size + 1, 0, none⟩ : Addr).add j) = some u := by
  have h := int_new (W.alloc o) x t
  rw [World.size_alloc] at h
  exact h
theorem int_one (x : Int) : ∀ u ∈ [Value.int .i64 x], u.oneCell' = true := by
  intro u hu; simp at hu; subst hu; rfl
theorem icopy_base (W : World) : (W.alloc (.cells #[] 3)).ownsRow W.heap.size 3 1 (.slice (some ⟨W.heap.size, 0, none⟩) 0 0) 0 [] :=
  World.ownsRow_lit (base := W.heap.size) (e := 3) (size := 1) W #[] 0 (Nat.le_refl _) (by unfold maxLen; omega) (by simp)
theorem icopy_open {W w1 : World} {v1 : Value} {n : Nat} {A : List Int} (h1 : 1 ≤ n) (hL : A.length = n) (o1 : w1.ownsRow W.heap.size 3 1 v1 n (il A))
    (g1 : (W.alloc (.cells #[] 3)).grownBy w1 (Value.ownBlock (.slice (some ⟨W.heap.size, 0, none⟩) 0 0))) :
    ∃ g c, v1 = .slice (some ⟨g, 0, none⟩) n c ∧ n ≤ c ∧ c ≤ maxLen ∧ OwnI w1 g n (it A) ∧ W.heap.size ≤ g ∧ Below W.heap.size W w1 := by
  have b1 := ((Below.refl W.heap.size W).alloc (Nat.le_refl _) (.cells #[] 3)).grown g1 (by simp) (fun j hj => ((icopy_base W).lt j hj).1)
  obtain ⟨g, c, rfl, hc, hcm, O, hg⟩ := own_vali o1 hL (rowi_some o1 h1)
  exact ⟨g, c, rfl, hc, hcm, O, hg, b1⟩
theorem icell_alloc {w : World} {p : Addr} {u : Value} {o : Obj} (h : w.cell? p = some u) : (w.alloc o).cell? p = some u :=
  (((Below.refl w.heap.size w).alloc (Nat.le_refl _) o).cell (World.block_lt_of_cell? w _ h)).trans h
theorem icopy_src {W : World} {g n : Nat} {A : List Int} (h : OwnI W g n (it A)) (hL : A.length = n) (h1 : 1 ≤ n) {o : Obj} : ∀ j u, (il A)[j]? = some u → (W.alloc o).cell? ((⟨g, 0, none⟩ : Addr).add j) = some u := by
  intro j u hj
  obtain ⟨_, q | ⟨b, off, e, _, hc⟩⟩ := h.ints hL (fun _ _ => rfl)
  · omega
  · cases e; exact icell_alloc (ints_news hc j u hj)
theorem OwnI.put {w : World} {g n : Nat} {A : List Int} (h : OwnI w g n (it A)) (hL : A.length = n) (k : Nat) (hk : k < n) (x : Int) :
    OwnI (w.setCell ⟨g, k, none⟩ (.int .i64 x)) g n (it (A.set k x)) :=
  (h.set k x).congr (fun i _ => (it_set A k x i (by omega)).symm)
theorem OwnI.take {w : World} {g n : Nat} {A : List Int} (h : OwnI w g n (it A)) (k : Nat) (hk : k ≤ n) : OwnI w g k (it (A.take k)) :=
  ⟨h.1, fun i hi => by rw [it_take A k i hi]; exact h.2 i (by omega)⟩

set_option maxHeartbeats 800000 in
theorem toIntS_any (a : Option Addr) (len cap : Nat) (A : List Int) (w : World) (hlc : len ≤ cap) (hm : cap ≤ maxLen) (h20 : len ≤ 1048576) (h : Ints w a len A) :
    Calls Try.prog 8 #[.slice a len cap] w (NewInts w len A) := by
  obtain ⟨i0, hi, hz0, hz1, hz2⟩ := info_parts infoInt
  obtain ⟨hL, h2⟩ := h
  have hm' := hm
  unfold maxLen at hm'
  have HL := Lib.hid hL
  clear hL
  have main : ∀ b off : Nat, a = some ⟨b, off, none⟩ ∧ b < w.heap.size ∧ IntsAt w b off A ∨ len = 0 → Calls Try.prog 8 #[.slice a len cap] w (NewInts w len A) := by
    intro b off hp
    have HP := Lib.hid hp
    clear hp
    go_enter Try.func8, Try.ntmps8
    go_wp2_with (refine wpList_make_full _ rfl _ _ 22 rfl w.heap.size 3 i0 (.int .i64 0) 1 Try.underlying22 hi hz0 hz1 .i64 .i64 _ _ len rfl rfl rfl rfl (by rw [hz2]; omega) (by unfold maxLen; omega) (Nat.le_refl _) ?_; intro w1 hown hgrow)
    have O0 := own_imade hown
    have B0 := (Below.refl w.heap.size w).grown hgrow (Nat.le_refl _) (by simp)
    clear hown hgrow
    go_wp2_with fail
    go_loopw [4] (fun i wr => ∃ k : Nat, i = .int .i64 k ∧ k ≤ len ∧ OwnI wr w.heap.size len (fun j => if j < k then it A j else 0) ∧ Below w.heap.size w wr) (fun i _ => len - (intOf i).toNat)
    case atStart => exact ⟨0, rfl, Nat.zero_le _, O0.congr (fun i _ => by simp), B0⟩
    case round =>
      obtain ⟨k, rfl, hk, O, B⟩ := hrel
      by_cases hlt : k < len
      · rcases HP.out with ⟨rfl, hb, hc⟩ | h0
        · have e0 := (B.cell (p := ⟨b, off + k, none⟩) hb).trans (hc k (by rw [HL.out]; exact hlt))
          obtain ⟨q1, q2⟩ := O.2 k hlt
          have HO := Lib.hid (O.set k (it A k))
          have HB := Lib.hid (B.setCell (p := ⟨w.heap.size, k, none⟩) (Nat.le_refl _) (.int .i64 (it A k)))
          have hgl := O.1
          have i1 : (0 : Int) ≤ (k : Int) := by omega
          have i2 : (k : Int) < (len : Int) := by omega
          clear hc O0 B0 O B
          go_wp2_with fail
          go_roundw
          case rel =>
            refine ⟨k + 1, by go_num, by omega, OwnI.congr (by first | exact HO.out | exact HO.out.drew) (fun j hj => ?_), by first | exact HB.out | exact HB.out.drew⟩
            by_cases e : j = k
            · subst e; rw [if_pos rfl, if_pos (by omega)]
            · rw [if_neg e]
              by_cases e2 : j < k
              · rw [if_pos e2, if_pos (by omega)]
              · rw [if_neg e2, if_neg (by omega)]
          case measure => simp [intOf]; omega
        · omega
      · have HO := Lib.hid O
        have HB := Lib.hid B
        clear O B O0 B0
        go_wp2_with fail
        go_ret
        exact ⟨w.heap.size, rfl, HL.out, HO.out.congr (fun j hj => by rw [if_pos (by omega)]), Nat.le_refl _, HB.out⟩
  rcases h2 with h2 | ⟨b, off, e, hb, hc⟩
  · exact main 0 0 (.inr h2)
  · exact main b off (.inl ⟨e, hb, hc⟩)



set_option maxHeartbeats 800000 in
theorem eqIntS_any (a a' : Option Addr) (n n' c c' : Nat) (A B : List Int) (w : World) (hc : n ≤ c) (hm : c ≤ maxLen) (hc' : n' ≤ c') (hm' : c' ≤ maxLen) (h : Ints w a n A) (h' : Ints w a' n' B) :
    Calls Try.prog 10 #[.slice a n c, .slice a' n' c'] w fun e w' => e = .returned (.bool (eqI A B)) ∧ ∃ m, w' = w.drewN m := by
  have hm1 : c ≤ 9223372036854775807 := hm
  have hm2 : c' ≤ 9223372036854775807 := hm'
  by_cases hn : n = n'
  rotate_left
  · have t0 : ((n : Int) != (n' : Int)) = true := by simp; omega
    have t0' : (n != n') = true := by simpa using hn
    have Z := Lib.hid (eqI_no (A := A) (B := B) (fun q => hn (by rw [← h.1, ← h'.1, q])))
    clear h h' hn
    go_enter Try.func10, Try.ntmps10
    go_wp2_with fail
    go_ret
    exact ⟨by rw [Z.out]; rfl, 0, rfl⟩
  subst hn
  have t0 : ((n : Int) != (n : Int)) = false := by simp
  obtain ⟨hL, h2⟩ := h
  obtain ⟨hL', h3⟩ := h'
  have HL := Lib.hid hL
  have HL' := Lib.hid hL'
  clear hL hL'
  have main : ∀ b off b' off' : Nat, (a = some ⟨b, off, none⟩ ∧ a' = some ⟨b', off', none⟩ ∧ IntsAt w b off A ∧ IntsAt w b' off' B) ∨ n = 0 → Calls Try.prog 10 #[.slice a n c, .slice a' n c'] w fun e w' => e = .returned (.bool (eqI A B)) ∧ ∃ m, w' = w.drewN m := by
    intro b off b' off' hp
    have HP := Lib.hid hp
    clear hp
    go_enter Try.func10, Try.ntmps10
    go_wp2_with fail
    go_loopw [5] (fun i wr => ∃ k : Nat, i = .int .i64 k ∧ k ≤ n ∧ Hid (∀ j, j < k → it A j = it B j) ∧ ∃ m, wr = w.drewN m) (fun i _ => n - (intOf i).toNat)
    case atStart => exact ⟨0, rfl, Nat.zero_le _, (fun j hj => absurd hj (by omega)), 0, rfl⟩
    case round =>
      obtain ⟨k, rfl, hk, hall, m, hwr⟩ := hrel
      have HW := Lib.hid hwr
      by_cases hlt : k < n
      · rcases HP.out with ⟨rfl, rfl, hcc, hcc'⟩ | h0
        · have e0 : wr.cell? ⟨b, off + k, none⟩ = some (.int .i64 (it A k)) := by rw [hwr]; exact hcc k (by rw [HL.out]; exact hlt)
          have e1 : wr.cell? ⟨b', off' + k, none⟩ = some (.int .i64 (it B k)) := by rw [hwr]; exact hcc' k (by rw [HL'.out]; exact hlt)
          have nk : (k : Int) < (n : Int) := by omega
          have n0 : (0 : Int) ≤ (k : Int) := by omega
          have NO := Lib.hid (fun (h : it A k ≠ it B k) => eqI_no (A := A) (B := B) (fun q => h (by rw [q])))
          have YES := Lib.hid (fun (h : it A k = it B k) j (hj : j < k + 1) => show it A j = it B j from if e : j = k then e ▸ h else hall.out j (by omega))
          clear hcc hcc' hwr
          generalize it A k = x1 at *
          generalize it B k = y1 at *
          by_cases h1 : x1 = y1
          · subst h1
            have Z := Lib.hid (YES.out rfl)
            clear NO YES
            go_wp2_with fail
            go_quiet (fail)
            go_wp2_with fail
            go_roundw
            case rel => exact ⟨k + 1, by go_num, by omega, Z, m + nq, by rw [HW.out, World.drewN_drewN]⟩
            case measure => simp [intOf] <;> omega
          · have Z := Lib.hid (NO.out h1)
            have t1 : (x1 != y1) = true := by simpa using h1
            clear NO YES h1
            go_wp2_with fail
            go_quiet (fail)
            go_wp2_with fail
            go_ret
            exact ⟨by rw [Z.out]; rfl, m + nq, by rw [HW.out, World.drewN_drewN]⟩
        · omega
      · obtain rfl : k = n := by omega
        have Z := Lib.hid (eqI_yes (ints_ext (by rw [HL.out, HL'.out]) (fun j hj => hall.out j (by rw [HL.out] at hj; exact hj))))
        clear hwr
        go_wp2_with fail
        go_ret
        exact ⟨by rw [Z.out]; rfl, m, HW.out⟩
  rcases h2 with h2 | ⟨b, off, e, _, hcc⟩
  · exact main 0 0 0 0 (.inr h2)
  · rcases h3 with h3 | ⟨b', off', e', _, hcc'⟩
    · exact main 0 0 0 0 (.inr h3)
    · exact main b off b' off' (.inl ⟨e, e', hcc, hcc'⟩)

theorem eqIntS_b (a a' : Option Addr) (n n' c c' : Nat) (A B : List Int) (w : World) (hc : n ≤ c) (hm : c ≤ maxLen) (hc' : n' ≤ c') (hm' : c' ≤ maxLen) (h : Ints w a n A) (h' : Ints w a' n' B) :
    Calls Try.prog 10 #[.slice a n c, .slice a' n' c'] w fun e w' => e = .returned (.bool (eqI A B)) ∧ Below w.heap.size w w' := by
  refine (eqIntS_any a a' n n' c c' A B w hc hm hc' hm' h h').mono ?_
  rintro e w' ⟨rfl, m, rfl⟩
  exact ⟨rfl, below_drewN (Below.refl _ _) m⟩



def smI (A : List Int) : Nat → Int
  | 0 => 0
  | k + 1 => smI A k + it A k

theorem smI_bd {A : List Int} {lo hi : Int} (h0 : lo ≤ 0) (h1 : 0 ≤ hi) : ∀ k, (∀ i, i < k → lo ≤ it A i ∧ it A i ≤ hi) → (k : Int) * lo ≤ smI A k ∧ smI A k ≤ (k : Int) * hi
  | 0, _ => by simp [smI]
  | k + 1, h => by
    have a := smI_bd h0 h1 k (fun i hi' => h i (by omega))
    have b := h k (by omega)
    have e1 : ((k + 1 : Nat) : Int) * lo = (k : Int) * lo + lo := by rw [Int.natCast_add, Int.add_mul]; simp
    have e2 : ((k + 1 : Nat) : Int) * hi = (k : Int) * hi + hi := by rw [Int.natCast_add, Int.add_mul]; simp
    show _ ≤ smI A k + it A k ∧ smI A k + it A k ≤ _
    omega


end Go.Proofs.Ytfggbcpefdamkaa
