/- Contracts over slices of numbers: toIntS, eqIntS, sameInts, sumOf, markIntS, heldIntS; a copy of a row of numbers. -/
import Derived.Test.YtjiffbddgbigcaaDoorInts
import Derived.Test.YtjiffbddgbigcaaDoorWithin
import Derived.Deep.QuietTactic
import Derived.BigQuiet
import Derived.RegionTactic
namespace Go.Proofs.YtjiffbddgbigcaaDoor
open Go.RowKit
set_option linter.unusedVariables false
set_option linter.unusedSimpArgs false

theorem infoInt : (Tryd.prog.info? 3).map (fun i => (i.zero, i.size, i.bytes)) = some (some (.int .i64 0), 1, 8) := by kernel_rfl

theorem ints_ext {A B : List Int} (hl : A.length = B.length) (h : ∀ j, j < A.length → it A j = it B j) : A = B := by
  apply List.ext_getElem hl
  intro i h1 h2
  have := h i h1
  unfold it at this
  rw [List.getD_eq_getElem?_getD, List.getElem?_eq_getElem h1, List.getD_eq_getElem?_getD, List.getElem?_eq_getElem h2] at this
  exact this
def eqI (A B : List Int) : Bool := decide (A = B)
theorem eqI_self (A : List Int) : eqI A A = true := by unfold eqI; simp
theorem eqI_no {A B : List Int} (h : A ≠ B) : eqI A B = false := by unfold eqI; simp [h]
theorem eqI_yes {A B : List Int} (h : A = B) : eqI A B = true := by unfold eqI; simp [h]
theorem it_set (A : List Int) (k : Nat) (x : Int) (i : Nat) (h : k < A.length) : it (A.set k x) i = if i = k then x else it A i := by
  unfold it
  rw [List.getD_eq_getElem?_getD, List.getElem?_set]
  by_cases e : i = k
  · subst e; simp [h]
  · rw [if_neg (fun q => e q.symm), if_neg e, List.getD_eq_getElem?_getD]
theorem take_snoc_it (A : List Int) (k : Nat) (h : k < A.length) : A.take (k + 1) = A.take k ++ [it A k] := by
  rw [List.take_succ_eq_append_getElem h]
  unfold it
  rw [List.getD_eq_getElem?_getD, List.getElem?_eq_getElem h]
  rfl

/-- A new slice of numbers. -/
def NewInts (w : World) (len : Nat) (A : List Int) (e : Ending) (w' : World) : Prop :=
  ∃ g : Nat, e = .returned (.slice (some ⟨g, 0, none⟩) len len) ∧ A.length = len ∧ OwnI w' g len (it A) ∧ w.heap.size ≤ g ∧ Below w.heap.size w w'

/-- A row of numbers in a block of a range. -/
def RowI (w : World) (a : Option Addr) (n : Nat) (A : List Int) (lo hi : Nat) : Prop :=
  A.length = n ∧ hi ≤ w.heap.size ∧ (n = 0 ∨ ∃ g : Nat, a = some ⟨g, 0, none⟩ ∧ lo ≤ g ∧ g < hi ∧ OwnI w g n (it A))
theorem RowI.ints {w : World} {a : Option Addr} {n : Nat} {A : List Int} {lo hi : Nat} (h : RowI w a n A lo hi) : Ints w a n A := by
  obtain ⟨h1, _, h2 | ⟨g, rfl, _, _, o⟩⟩ := h
  · exact ⟨h1, .inl h2⟩
  · exact o.ints h1 (fun _ _ => rfl)
theorem RowI.below {w w' : World} {a : Option Addr} {n : Nat} {A : List Int} {lo hi : Nat} (h : RowI w a n A lo hi) (b : Below w.heap.size w w') : RowI w' a n A lo hi := by
  obtain ⟨h1, h0, h2 | ⟨g, rfl, h3, h4, o⟩⟩ := h
  · exact ⟨h1, Nat.le_trans h0 b.size, .inl h2⟩
  · exact ⟨h1, Nat.le_trans h0 b.size, .inr ⟨g, rfl, h3, h4, o.below b⟩⟩
theorem OwnI.within {w w' : World} {g n : Nat} {f : Nat → Int} {lo hi : Nat} (h : OwnI w g n f) (x : Within lo hi w w') (hd : g < lo ∨ hi ≤ g) : OwnI w' g n f := by
  have hb := x.block g h.1 hd
  refine ⟨Nat.lt_of_lt_of_le h.1 x.size, fun i hi' => ?_⟩
  obtain ⟨q1, q2⟩ := h.2 i hi'
  exact ⟨(World.cell?_of_block hb).trans q1, (World.frozen?_of_block hb).trans q2⟩
theorem RowI.within {w w' : World} {a : Option Addr} {n : Nat} {A : List Int} {lo hi lo' hi' : Nat} (h : RowI w a n A lo hi) (x : Within lo' hi' w w') (hd : hi ≤ lo' ∨ hi' ≤ lo) : RowI w' a n A lo hi := by
  obtain ⟨h1, h0, h2 | ⟨g, rfl, h3, h4, o⟩⟩ := h
  · exact ⟨h1, Nat.le_trans h0 x.size, .inl h2⟩
  · exact ⟨h1, Nat.le_trans h0 x.size, .inr ⟨g, rfl, h3, h4, o.within x (by omega)⟩⟩
theorem RowI.of_new {w w' : World} {g n : Nat} {A : List Int} (hl : A.length = n) (o : OwnI w' g n (it A)) (hg : w.heap.size ≤ g) : RowI w' (some ⟨g, 0, none⟩) n A w.heap.size w'.heap.size :=
  ⟨hl, Nat.le_refl _, .inr ⟨g, rfl, hg, o.1, o⟩⟩

theorem OwnI.drew {w : World} {g n : Nat} {f : Nat → Int} (h : OwnI w g n f) : OwnI w.drew g n f := h
def mkI (k : Int) (n : Nat) : List Int := (List.range n).map fun (i : Nat) => k + (i : Int)
theorem mkI_len (k : Int) (n : Nat) : (mkI k n).length = n := by simp [mkI]
theorem mkI_it (k : Int) (n i : Nat) (h : i < n) : it (mkI k n) i = k + (i : Int) := it_map n (fun (i : Nat) => k + (i : Int)) i h
def MarkIPost (w : World) (a : Option Addr) (n : Nat) (lo hi : Nat) (k : Int) (e : Ending) (w' : World) : Prop := e = .returned (.int .i64 (k + (n : Int))) ∧ RowI w' a n (mkI k n) lo hi ∧ Within lo hi w w'

/-- The row that an append to an empty slice leaves. -/
theorem own_vali {w : World} {B e : Nat} {v : Value} {n : Nat} {A : List Int} (h : w.ownsRow B e 1 v n (il A)) (hn : A.length = n) (hv : v.ownBlock ≠ none) :
    ∃ g c, v = .slice (some ⟨g, 0, none⟩) n c ∧ n ≤ c ∧ c ≤ maxLen ∧ OwnI w g n (it A) ∧ B ≤ g := by
  subst hn
  rcases h.2 with ⟨h1, _⟩ | ⟨g, cap, cur, hv', hb, hh, h1, h2, _⟩
  · subst h1; simp [Value.ownBlock] at hv
  · subst hv'
    exact ⟨g, cap, rfl, h1, h2, own_il h, hb⟩
theorem rowi_some {B e size n : Nat} {w : World} {v : Value} {xs : List Value} (h : w.ownsRow B e size v n xs) (hn : 1 ≤ n) : v.ownBlock ≠ none := by
  rcases h.2 with ⟨_, h0⟩ | ⟨g, cap, cur, hv, _⟩
  · omega
  · subst hv; simp [Value.ownBlock]
theorem il_snoc (A : List Int) (x : Int) : il (A ++ [x]) = il A ++ [.int .i64 x] := by simp [il]
theorem int_new (W : World) (x : Value) (t : TypeId) : ∀ j u, [x][j]? = some u → (W.alloc (.cells #[x] t)).cell? ((⟨W.heap.size, 0, none⟩ : Addr).add j) = some u := by
  intro j u hj
  match j, hj with
  | 0, hj => simp at hj; subst hj; simp [Addr.add]
theorem int_new2 (W : World) (o : Obj) (x : Value) (t : TypeId) : ∀ j u, [x][j]? = some u → ((W.alloc o).alloc (.cells #[x] t)).cell? ((⟨W.heap.size + 1, 0, none⟩ : Addr).add j) = some u := by
  have h := int_new (W.alloc o) x t
  rw [World.size_alloc] at h
  exact h
theorem int_one (x : Int) : ∀ u ∈ [Value.int .i64 x], u.oneCell' = true := by
  intro u hu; simp at hu; subst hu; rfl
theorem icopy_base (W : World) : (W.alloc (.cells #[] 3)).ownsRow W.heap.size 3 1 (.slice (some ⟨W.heap.size, 0, none⟩) 0 0) 0 [] :=
  World.ownsRow_lit (base := W.heap.size) (e := 3) (size := 1) W #[] 0 (Nat.le_refl _) (by unfold maxLen; omega) (by simp)
theorem icopy_open {W w1 : World} {v1 : Value} {n : Nat} {A : List Int} (h1 : 1 ≤ n) (hL : A.length = n) (o1 : w1.ownsRow W.heap.size 3 1 v1 n (il A))
    (g1 : (W.alloc (.cells #[] 3)).grownBy w1 (Value.ownBlock (.slice (some ⟨W.heap.size, 0, none⟩) 0 0))) :
    ∃ g c, v1 = .slice (some ⟨g, 0, none⟩) n c ∧ n ≤ c ∧ c ≤ maxLen ∧ OwnI w1 g n (it A) ∧ W.heap.size ≤ g ∧ Below W.heap.size W w1 := by
  have b1 := ((Below.refl W.heap.size W).alloc (Nat.le_refl _) (.cells #[] 3)).grown g1 (by simp) (fun j hj => ((icopy_base W).lt j hj).1)
  obtain ⟨g, c, rfl, hc, hcm, O, hg⟩ := own_vali o1 hL (rowi_some o1 h1)
  exact ⟨g, c, rfl, hc, hcm, O, hg, b1⟩
theorem icell_alloc {w : World} {p : Addr} {u : Value} {o : Obj} (h : w.cell? p = some u) : (w.alloc o).cell? p = some u :=
  (((Below.refl w.heap.size w).alloc (Nat.le_refl _) o).cell (World.block_lt_of_cell? w _ h)).trans h
theorem icopy_src {W : World} {g n : Nat} {A : List Int} (h : OwnI W g n (it A)) (hL : A.length = n) (h1 : 1 ≤ n) {o : Obj} : ∀ j u, (il A)[j]? = some u → (W.alloc o).cell? ((⟨g, 0, none⟩ : Addr).add j) = some u := by
  intro j u hj
  obtain ⟨_, q | ⟨b, off, e, _, hc⟩⟩ := h.ints hL (fun _ _ => rfl)
  · omega
  · cases e; exact icell_alloc (ints_news hc j u hj)
theorem OwnI.put {w : World} {g n : Nat} {A : List Int} (h : OwnI w g n (it A)) (hL : A.length = n) (k : Nat) (hk : k < n) (x : Int) :
    OwnI (w.setCell ⟨g, k, none⟩ (.int .i64 x)) g n (it (A.set k x)) :=
  (h.set k x).congr (fun i _ => (it_set A k x i (by omega)).symm)
theorem OwnI.take {w : World} {g n : Nat} {A : List Int} (h : OwnI w g n (it A)) (k : Nat) (hk : k ≤ n) : OwnI w g k (it (A.take k)) :=
  ⟨h.1, fun i hi => by rw [it_take A k i hi]; exact h.2 i (by omega)⟩


set_option maxHeartbeats 800000 in
theorem sameInts_any (a a' : Option Addr) (n n' c c' : Nat) (A B : List Int) (w : World) (hc : n ≤ c) (hm : c ≤ maxLen) (hc' : n' ≤ c') (hm' : c' ≤ maxLen) (h : Ints w a n A) (h' : Ints w a' n' B) :
    Calls Tryd.prog 17 #[.slice a n c, .slice a' n' c'] w fun e w' => e = .returned (.bool (eqI A B)) ∧ ∃ m, w' = w.drewN m := by
  have hm1 : c ≤ 9223372036854775807 := hm
  have hm2 : c' ≤ 9223372036854775807 := hm'
  by_cases hn : n = n'
  rotate_left
  · have t0 : ((n : Int) != (n' : Int)) = true := by simp; omega
    have t0' : (n != n') = true := by simpa using hn
    have Z := Lib.hid (eqI_no (A := A) (B := B) (fun q => hn (by rw [← h.1, ← h'.1, q])))
    clear h h' hn
    go_enter Tryd.func17, Tryd.ntmps17
    go_wp2_with fail
    go_ret
    exact ⟨by rw [Z.out]; rfl, 0, rfl⟩
  subst hn
  have t0 : ((n : Int) != (n : Int)) = false := by simp
  obtain ⟨hL, h2⟩ := h
  obtain ⟨hL', h3⟩ := h'
  have HL := Lib.hid hL
  have HL' := Lib.hid hL'
  clear hL hL'
  have main : ∀ b off b' off' : Nat, (a = some ⟨b, off, none⟩ ∧ a' = some ⟨b', off', none⟩ ∧ IntsAt w b off A ∧ IntsAt w b' off' B) ∨ n = 0 → Calls Tryd.prog 17 #[.slice a n c, .slice a' n c'] w fun e w' => e = .returned (.bool (eqI A B)) ∧ ∃ m, w' = w.drewN m := by
    intro b off b' off' hp
    have HP := Lib.hid hp
    clear hp
    go_enter Tryd.func17, Tryd.ntmps17
    go_wp2_with fail
    go_loopw [5] (fun i wr => ∃ k : Nat, i = .int .i64 k ∧ k ≤ n ∧ Hid (∀ j, j < k → it A j = it B j) ∧ ∃ m, wr = w.drewN m) (fun i _ => n - (intOf i).toNat)
    case atStart => exact ⟨0, rfl, Nat.zero_le _, (fun j hj => absurd hj (by omega)), 0, rfl⟩
    case round =>
      obtain ⟨k, rfl, hk, hall, m, hwr⟩ := hrel
      have HW := Lib.hid hwr
      by_cases hlt : k < n
      · rcases HP.out with ⟨rfl, rfl, hcc, hcc'⟩ | h0
        · have e0 : wr.cell? ⟨b, off + k, none⟩ = some (.int .i64 (it A k)) := by rw [hwr]; exact hcc k (by rw [HL.out]; exact hlt)
          have e1 : wr.cell? ⟨b', off' + k, none⟩ = some (.int .i64 (it B k)) := by rw [hwr]; exact hcc' k (by rw [HL'.out]; exact hlt)
          have nk : (k : Int) < (n : Int) := by omega
          have n0 : (0 : Int) ≤ (k : Int) := by omega
          have NO := Lib.hid (fun (h : it A k ≠ it B k) => eqI_no (A := A) (B := B) (fun q => h (by rw [q])))
          have YES := Lib.hid (fun (h : it A k = it B k) j (hj : j < k + 1) => show it A j = it B j from if e : j = k then e ▸ h else hall.out j (by omega))
          clear hcc hcc' hwr
          generalize it A k = x1 at *
          generalize it B k = y1 at *
          by_cases h1 : x1 = y1
          · subst h1
            have Z := Lib.hid (YES.out rfl)
            clear NO YES
            go_wp2_with fail
            go_quiet (fail)
            go_wp2_with fail
            go_roundw
            case rel => exact ⟨k + 1, by go_num, by omega, Z, m + nq, by rw [HW.out, World.drewN_drewN]⟩
            case measure => simp [intOf] <;> omega
          · have Z := Lib.hid (NO.out h1)
            have t1 : (x1 != y1) = true := by simpa using h1
            clear NO YES h1
            go_wp2_with fail
            go_quiet (fail)
            go_wp2_with fail
            go_ret
            exact ⟨by rw [Z.out]; rfl, m + nq, by rw [HW.out, World.drewN_drewN]⟩
        · omega
      · obtain rfl : k = n := by omega
        have Z := Lib.hid (eqI_yes (ints_ext (by rw [HL.out, HL'.out]) (fun j hj => hall.out j (by rw [HL.out] at hj; exact hj))))
        clear hwr
        go_wp2_with fail
        go_ret
        exact ⟨by rw [Z.out]; rfl, m, HW.out⟩
  rcases h2 with h2 | ⟨b, off, e, _, hcc⟩
  · exact main 0 0 0 0 (.inr h2)
  · rcases h3 with h3 | ⟨b', off', e', _, hcc'⟩
    · exact main 0 0 0 0 (.inr h3)
    · exact main b off b' off' (.inl ⟨e, e', hcc, hcc'⟩)

theorem sameInts_b (a a' : Option Addr) (n n' c c' : Nat) (A B : List Int) (w : World) (hc : n ≤ c) (hm : c ≤ maxLen) (hc' : n' ≤ c') (hm' : c' ≤ maxLen) (h : Ints w a n A) (h' : Ints w a' n' B) :
    Calls Tryd.prog 17 #[.slice a n c, .slice a' n' c'] w fun e w' => e = .returned (.bool (eqI A B)) ∧ Below w.heap.size w w' := by
  refine (sameInts_any a a' n n' c c' A B w hc hm hc' hm' h h').mono ?_
  rintro e w' ⟨rfl, m, rfl⟩
  exact ⟨rfl, below_drewN (Below.refl _ _) m⟩

set_option maxHeartbeats 800000 in
theorem eqIntS_any (a a' : Option Addr) (n n' c c' : Nat) (A B : List Int) (w : World) (hc : n ≤ c) (hm : c ≤ maxLen) (hc' : n' ≤ c') (hm' : c' ≤ maxLen) (h : Ints w a n A) (h' : Ints w a' n' B) :
    Calls Tryd.prog 21 #[.slice a n c, .slice a' n' c'] w fun e w' => e = .returned (.bool (eqI A B)) ∧ ∃ m, w' = w.drewN m := by
  have hm1 : c ≤ 9223372036854775807 := hm
  have hm2 : c' ≤ 9223372036854775807 := hm'
  by_cases hn : n = n'
  rotate_left
  · have t0 : ((n : Int) != (n' : Int)) = true := by simp; omega
    have t0' : (n != n') = true := by simpa using hn
    have Z := Lib.hid (eqI_no (A := A) (B := B) (fun q => hn (by rw [← h.1, ← h'.1, q])))
    clear h h' hn
    go_enter Tryd.func21, Tryd.ntmps21
    go_wp2_with fail
    go_ret
    exact ⟨by rw [Z.out]; rfl, 0, rfl⟩
  subst hn
  have t0 : ((n : Int) != (n : Int)) = false := by simp
  obtain ⟨hL, h2⟩ := h
  obtain ⟨hL', h3⟩ := h'
  have HL := Lib.hid hL
  have HL' := Lib.hid hL'
  clear hL hL'
  have main : ∀ b off b' off' : Nat, (a = some ⟨b, off, none⟩ ∧ a' = some ⟨b', off', none⟩ ∧ IntsAt w b off A ∧ IntsAt w b' off' B) ∨ n = 0 → Calls Tryd.prog 21 #[.slice a n c, .slice a' n c'] w fun e w' => e = .returned (.bool (eqI A B)) ∧ ∃ m, w' = w.drewN m := by
    intro b off b' off' hp
    have HP := Lib.hid hp
    clear hp
    go_enter Tryd.func21, Tryd.ntmps21
    go_wp2_with fail
    go_loopw [5] (fun i wr => ∃ k : Nat, i = .int .i64 k ∧ k ≤ n ∧ Hid (∀ j, j < k → it A j = it B j) ∧ ∃ m, wr = w.drewN m) (fun i _ => n - (intOf i).toNat)
    case atStart => exact ⟨0, rfl, Nat.zero_le _, (fun j hj => absurd hj (by omega)), 0, rfl⟩
    case round =>
      obtain ⟨k, rfl, hk, hall, m, hwr⟩ := hrel
      have HW := Lib.hid hwr
      by_cases hlt : k < n
      · rcases HP.out with ⟨rfl, rfl, hcc, hcc'⟩ | h0
        · have e0 : wr.cell? ⟨b, off + k, none⟩ = some (.int .i64 (it A k)) := by rw [hwr]; exact hcc k (by rw [HL.out]; exact hlt)
          have e1 : wr.cell? ⟨b', off' + k, none⟩ = some (.int .i64 (it B k)) := by rw [hwr]; exact hcc' k (by rw [HL'.out]; exact hlt)
          have nk : (k : Int) < (n : Int) := by omega
          have n0 : (0 : Int) ≤ (k : Int) := by omega
          have NO := Lib.hid (fun (h : it A k ≠ it B k) => eqI_no (A := A) (B := B) (fun q => h (by rw [q])))
          have YES := Lib.hid (fun (h : it A k = it B k) j (hj : j < k + 1) => show it A j = it B j from if e : j = k then e ▸ h else hall.out j (by omega))
          clear hcc hcc' hwr
          generalize it A k = x1 at *
          generalize it B k = y1 at *
          by_cases h1 : x1 = y1
          · subst h1
            have Z := Lib.hid (YES.out rfl)
            clear NO YES
            go_wp2_with fail
            go_quiet (fail)
            go_wp2_with fail
            go_roundw
            case rel => exact ⟨k + 1, by go_num, by omega, Z, m + nq, by rw [HW.out, World.drewN_drewN]⟩
            case measure => simp [intOf] <;> omega
          · have Z := Lib.hid (NO.out h1)
            have t1 : (x1 != y1) = true := by simpa using h1
            clear NO YES h1
            go_wp2_with fail
            go_quiet (fail)
            go_wp2_with fail
            go_ret
            exact ⟨by rw [Z.out]; rfl, m + nq, by rw [HW.out, World.drewN_drewN]⟩
        · omega
      · obtain rfl : k = n := by omega
        have Z := Lib.hid (eqI_yes (ints_ext (by rw [HL.out, HL'.out]) (fun j hj => hall.out j (by rw [HL.out] at hj; exact hj))))
        clear hwr
        go_wp2_with fail
        go_ret
        exact ⟨by rw [Z.out]; rfl, m, HW.out⟩
  rcases h2 with h2 | ⟨b, off, e, _, hcc⟩
  · exact main 0 0 0 0 (.inr h2)
  · rcases h3 with h3 | ⟨b', off', e', _, hcc'⟩
    · exact main 0 0 0 0 (.inr h3)
    · exact main b off b' off' (.inl ⟨e, e', hcc, hcc'⟩)

theorem eqIntS_b (a a' : Option Addr) (n n' c c' : Nat) (A B : List Int) (w : World) (hc : n ≤ c) (hm : c ≤ maxLen) (hc' : n' ≤ c') (hm' : c' ≤ maxLen) (h : Ints w a n A) (h' : Ints w a' n' B) :
    Calls Tryd.prog 21 #[.slice a n c, .slice a' n' c'] w fun e w' => e = .returned (.bool (eqI A B)) ∧ Below w.heap.size w w' := by
  refine (eqIntS_any a a' n n' c c' A B w hc hm hc' hm' h h').mono ?_
  rintro e w' ⟨rfl, m, rfl⟩
  exact ⟨rfl, below_drewN (Below.refl _ _) m⟩

set_option maxHeartbeats 400000 in
theorem markIntS_any (a : Option Addr) (n c : Nat) (k : Int) (A : List Int) (lo hi : Nat) (w : World) (hc : n ≤ c) (hm : c ≤ maxLen) (h20 : n ≤ 1048576) (h0 : 0 ≤ k) (h1 : k ≤ 1000000000000) (h : RowI w a n A lo hi) :
    Calls Tryd.prog 22 #[.slice a n c, .int .i64 k] w (MarkIPost w a n lo hi k) := by
  have hm' : c ≤ 9223372036854775807 := hm
  obtain ⟨hl, hh, hn | ⟨g, rfl, h3, h4, o⟩⟩ := h
  · subst hn
    have P := Lib.hid (show MarkIPost w a 0 lo hi k (.returned (.int .i64 k)) w from ⟨ret_int (by omega), ⟨mkI_len k 0, hh, .inl rfl⟩, Within.refl _ _ _⟩)
    go_enter Tryd.func22, Tryd.ntmps22
    go_wp2_with fail
    go_loopw [1, 5] (fun v i wr => v = .int .i64 k ∧ i = .int .i64 0 ∧ wr = w) (fun _ i _ => 0)
    case atStart => exact ⟨rfl, rfl, rfl⟩
    case round =>
      obtain ⟨rfl, rfl, rfl⟩ := hrel
      go_wp2_with fail
      go_ret
      exact P.out
  · have O := Lib.hid o
    clear o hl
    have HH := Lib.hid hh
    clear hh
    go_enter Tryd.func22, Tryd.ntmps22
    go_wp2_with fail
    go_loopw [1, 5] (fun v i wr => ∃ j : Nat, v = .int .i64 (k + (j : Int)) ∧ i = .int .i64 j ∧ j ≤ n ∧ OwnI wr g n (fun q => if q < j then k + (q : Int) else it A q) ∧ Within lo hi w wr) (fun _ i _ => n - (intOf i).toNat)
    case atStart => exact ⟨0, by simp, rfl, Nat.zero_le _, O.out.congr (fun i _ => by simp), Within.refl _ _ _⟩
    case round =>
      obtain ⟨j, rfl, rfl, hj, ro, rw'⟩ := hrel
      by_cases hlt : j < n
      · obtain ⟨q1, q2⟩ := ro.2 j hlt
        have HO := Lib.hid (ro.set j (k + (j : Int)))
        have HW := Lib.hid (rw'.setCell (p := ⟨g, j, none⟩) h3 h4 (.int .i64 (k + (j : Int))))
        have hgl := ro.1
        have i1 : (0 : Int) ≤ (j : Int) := by omega
        have i2 : (j : Int) < (n : Int) := by omega
        clear ro rw'
        go_wp2_with fail
        go_roundw
        case rel =>
          refine ⟨j + 1, by go_num, by go_num, by omega, HO.out.congr (fun q hq => ?_), HW.out⟩
          by_cases e : q = j
          · subst e; rw [if_pos rfl, if_pos (by omega)]
          · rw [if_neg e]
            by_cases e2 : q < j
            · rw [if_pos e2, if_pos (by omega)]
            · rw [if_neg e2, if_neg (by omega)]
        case measure => simp [intOf]; omega
      · obtain rfl : n = j := by omega
        have P := Lib.hid (show MarkIPost w (some ⟨g, 0, none⟩) n lo hi k (.returned (.int .i64 (k + (n : Int)))) wr from
          ⟨rfl, ⟨mkI_len k n, Nat.le_trans HH.out rw'.size, .inr ⟨g, rfl, h3, h4, ro.congr (fun q hq => by rw [if_pos hq]; exact (mkI_it k n q hq).symm)⟩⟩, rw'⟩)
        clear ro rw'
        go_wp2_with fail
        go_ret
        exact P.out

theorem heldIntS_any (a : Option Addr) (n c : Nat) (k : Int) (lo hi : Nat) (w : World) (hc : n ≤ c) (hm : c ≤ maxLen) (h20 : n ≤ 1048576) (h0 : 0 ≤ k) (h1 : k ≤ 1000000000000) (h : RowI w a n (mkI k n) lo hi) :
    Calls Tryd.prog 23 #[.slice a n c, .int .i64 k] w fun e w' => e = .returned (.int .i64 (k + (n : Int))) ∧ w = w' := by
  have hm' : c ≤ 9223372036854775807 := hm
  obtain ⟨hl, hh, hn | ⟨g, rfl, h3, h4, o⟩⟩ := h
  · subst hn
    go_enter Tryd.func23, Tryd.ntmps23
    go_wp2_with fail
    go_loop [1, 5] (fun v i => v = .int .i64 k ∧ i = .int .i64 0) (fun _ i => 0)
    case atStart => exact ⟨rfl, rfl⟩
    case round =>
      obtain ⟨rfl, rfl⟩ := hrel
      go_wp2_with fail
      go_ret
      exact ⟨ret_int (by omega), rfl⟩
  · have O := Lib.hid o
    clear o hl hh
    go_enter Tryd.func23, Tryd.ntmps23
    go_wp2_with fail
    go_loop [1, 5] (fun v i => ∃ j : Nat, v = .int .i64 (k + (j : Int)) ∧ i = .int .i64 j ∧ j ≤ n) (fun _ i => n - (intOf i).toNat)
    case atStart => exact ⟨0, by simp, rfl, Nat.zero_le _⟩
    case round =>
      obtain ⟨j, rfl, rfl, hj⟩ := hrel
      by_cases hlt : j < n
      · obtain ⟨q1, q2⟩ := O.out.2 j hlt
        rw [mkI_it k n j hlt] at q1
        have i1 : (0 : Int) ≤ (j : Int) := by omega
        have i2 : (j : Int) < (n : Int) := by omega
        go_wp2_with fail
        go_round
        case rel => exact ⟨j + 1, by go_num, by go_num, by omega⟩
        case measure => simp [intOf]; omega
      · obtain rfl : n = j := by omega
        go_wp2_with fail
        go_ret
        exact ⟨rfl, rfl⟩

def smI (A : List Int) : Nat → Int
  | 0 => 0
  | k + 1 => smI A k + it A k

theorem smI_bd {A : List Int} {lo hi : Int} (h0 : lo ≤ 0) (h1 : 0 ≤ hi) : ∀ k, (∀ i, i < k → lo ≤ it A i ∧ it A i ≤ hi) → (k : Int) * lo ≤ smI A k ∧ smI A k ≤ (k : Int) * hi
  | 0, _ => by simp [smI]
  | k + 1, h => by
    have a := smI_bd h0 h1 k (fun i hi' => h i (by omega))
    have b := h k (by omega)
    have e1 : ((k + 1 : Nat) : Int) * lo = (k : Int) * lo + lo := by rw [Int.natCast_add, Int.add_mul]; simp
    have e2 : ((k + 1 : Nat) : Int) * hi = (k : Int) * hi + hi := by rw [Int.natCast_add, Int.add_mul]; simp
    show _ ≤ smI A k + it A k ∧ smI A k + it A k ≤ _
    omega

theorem sumOf_any (a : Option Addr) (n c : Nat) (A : List Int) (w : World) (hc : n ≤ c) (hm : c ≤ maxLen) (h20 : n ≤ 1048576) (hb : ∀ i, i < n → -1000000000000 ≤ it A i ∧ it A i ≤ 1000000000000) (h : Ints w a n A) :
    Calls Tryd.prog 25 #[.slice a n c] w fun e w' => e = .returned (.int .i64 (smI A n)) ∧ w = w' := by
  have hm' : c ≤ 9223372036854775807 := hm
  have HBD := Lib.hid (fun k (hk : k ≤ n) => smI_bd (A := A) (lo := -1000000000000) (hi := 1000000000000) (by omega) (by omega) k (fun i hi => hb i (by omega)))
  have HI := Lib.hid hb
  obtain ⟨hL, h2⟩ := h
  have HL := Lib.hid hL
  clear hL hb
  have main : ∀ b off : Nat, (a = some ⟨b, off, none⟩ ∧ IntsAt w b off A) ∨ n = 0 → Calls Tryd.prog 25 #[.slice a n c] w fun e w' => e = .returned (.int .i64 (smI A n)) ∧ w = w' := by
    intro b off hp
    have HP := Lib.hid hp
    clear hp
    go_enter Tryd.func25, Tryd.ntmps25
    go_wp2_with fail
    go_loop [3, 4] (fun v i => ∃ j : Nat, v = .int .i64 (smI A j) ∧ i = .int .i64 j ∧ j ≤ n) (fun _ i => n - (intOf i).toNat)
    case atStart => exact ⟨0, rfl, rfl, Nat.zero_le _⟩
    case round =>
      obtain ⟨j, rfl, rfl, hj⟩ := hrel
      by_cases hlt : j < n
      · rcases HP.out with ⟨rfl, hcc⟩ | h0
        · have e0 := hcc j (by rw [HL.out]; exact hlt)
          have q1 := HBD.out j hj
          have q2 := HI.out j hlt
          have E := Lib.hid (show smI A (j + 1) = smI A j + it A j from rfl)
          generalize smI A j = x at *
          generalize it A j = y at *
          have i1 : (0 : Int) ≤ (j : Int) := by omega
          have i2 : (j : Int) < (n : Int) := by omega
          have i3 : -9000000000000000000 ≤ x + y := by omega
          have i4 : x + y ≤ 9000000000000000000 := by omega
          clear q1 q2 hcc
          go_wp2_with fail
          go_round
          case rel => exact ⟨j + 1, by rw [E.out], by go_num, by omega⟩
          case measure => simp [intOf]; omega
        · omega
      · obtain rfl : n = j := by omega
        go_wp2_with fail
        go_ret
        exact ⟨rfl, rfl⟩
  rcases h2 with h2 | ⟨b, off, e, _, hcc⟩
  · exact main 0 0 (.inr h2)
  · exact main b off (.inl ⟨e, hcc⟩)

end Go.Proofs.YtjiffbddgbigcaaDoor
