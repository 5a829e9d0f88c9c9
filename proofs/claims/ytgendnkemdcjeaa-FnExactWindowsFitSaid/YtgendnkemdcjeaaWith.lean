/- Worlds that change within a range of blocks; rows of windows in such a range; markWindowS, heldWindowS. -/
import Derived.Test.YtgendnkemdcjeaaWinS
import Derived.Test.YtgendnkemdcjeaaWithin
namespace Go.Proofs.Ytgendnkemdcjeaa
open Go.RowKit
set_option linter.unusedVariables false
set_option linter.unusedSimpArgs false

/-- A row of windows in a block of a range. -/
def RowP (w : World) (a : Option Addr) (n : Nat) (L : List (Int × Int)) (lo hi : Nat) : Prop :=
  L.length = n ∧ hi ≤ w.heap.size ∧ (n = 0 ∨ ∃ g : Nat, a = some ⟨g, 0, none⟩ ∧ lo ≤ g ∧ g < hi ∧ OwnF w g n (pr L))

theorem RowP.prs {w : World} {a : Option Addr} {n : Nat} {L : List (Int × Int)} {lo hi : Nat} (h : RowP w a n L lo hi) : Prs w a n L := by
  obtain ⟨h1, _, h2 | ⟨g, rfl, _, _, o⟩⟩ := h
  · exact ⟨h1, .inl h2⟩
  · exact o.prs h1 (fun _ _ => rfl)
theorem RowP.below {w w' : World} {a : Option Addr} {n : Nat} {L : List (Int × Int)} {lo hi : Nat} (h : RowP w a n L lo hi) (b : Below w.heap.size w w') : RowP w' a n L lo hi := by
  obtain ⟨h1, h0, h2 | ⟨g, rfl, h3, h4, o⟩⟩ := h
  · exact ⟨h1, Nat.le_trans h0 b.size, .inl h2⟩
  · exact ⟨h1, Nat.le_trans h0 b.size, .inr ⟨g, rfl, h3, h4, o.below b⟩⟩
theorem OwnF.within {w w' : World} {g n : Nat} {f : Nat → Int × Int} {lo hi : Nat} (h : OwnF w g n f) (x : Within lo hi w w') (hd : g < lo ∨ hi ≤ g) : OwnF w' g n f := by
  have hb := x.block g h.1 hd
  refine ⟨Nat.lt_of_lt_of_le h.1 x.size, fun i hi' => ?_⟩
  obtain ⟨q1, q2, q3, q4⟩ := h.2 i hi'
  exact ⟨(World.cell?_of_block hb).trans q1, (World.cell?_of_block hb).trans q2, (World.frozen?_of_block hb).trans q3, (World.frozen?_of_block hb).trans q4⟩
theorem RowP.within {w w' : World} {a : Option Addr} {n : Nat} {L : List (Int × Int)} {lo hi lo' hi' : Nat} (h : RowP w a n L lo hi) (x : Within lo' hi' w w') (hd : hi ≤ lo' ∨ hi' ≤ lo) : RowP w' a n L lo hi := by
  obtain ⟨h1, h0, h2 | ⟨g, rfl, h3, h4, o⟩⟩ := h
  · exact ⟨h1, Nat.le_trans h0 x.size, .inl h2⟩
  · exact ⟨h1, Nat.le_trans h0 x.size, .inr ⟨g, rfl, h3, h4, o.within x (by omega)⟩⟩
theorem RowP.of_new {w w' : World} {g n : Nat} {L : List (Int × Int)} (hl : L.length = n) (o : OwnF w' g n (pr L)) (hg : w.heap.size ≤ g) : RowP w' (some ⟨g, 0, none⟩) n L w.heap.size w'.heap.size :=
  ⟨hl, Nat.le_refl _, .inr ⟨g, rfl, hg, o.1, o⟩⟩

/-- What a marked row holds. -/
def mkL (k : Int) (n : Nat) : List (Int × Int) := (List.range n).map fun (i : Nat) => (k + 2 * (i : Int), k + 2 * (i : Int) + 1)
theorem mkL_len (k : Int) (n : Nat) : (mkL k n).length = n := by simp [mkL]
theorem mkL_pr (k : Int) (n i : Nat) (h : i < n) : pr (mkL k n) i = (k + 2 * (i : Int), k + 2 * (i : Int) + 1) := pr_map n (fun (i : Nat) => (k + 2 * (i : Int), k + 2 * (i : Int) + 1)) i h

def MarkPost (w : World) (a : Option Addr) (n : Nat) (lo hi : Nat) (k : Int) (e : Ending) (w' : World) : Prop := e = .returned (.int .i64 (k + 2 * (n : Int))) ∧ RowP w' a n (mkL k n) lo hi ∧ Within lo hi w w'

set_option maxHeartbeats 400000 in
theorem markWindowS_any (a : Option Addr) (n c : Nat) (k : Int) (L : List (Int × Int)) (lo hi : Nat) (w : World) (hc : n ≤ c) (hm : c ≤ maxLen) (h20 : n ≤ 1048576) (h0 : 0 ≤ k) (h1 : k ≤ 1000000000000) (h : RowP w a n L lo hi) :
    Calls Try.prog 27 #[.slice a n c, .int .i64 k] w (MarkPost w a n lo hi k) := by
  have hm' : c ≤ 9223372036854775807 := hm
  obtain ⟨hl, hh, hn | ⟨g, rfl, h3, h4, o⟩⟩ := h
  · subst hn
    have P := Lib.hid (show MarkPost w a 0 lo hi k (.returned (.int .i64 k)) w from ⟨ret_int (by omega), ⟨mkL_len k 0, hh, .inl rfl⟩, Within.refl _ _ _⟩)
    go_enter Try.func27, Try.ntmps27
    go_wp2_with fail
    go_loopw [1, 5] (fun v i wr => v = .int .i64 k ∧ i = .int .i64 0 ∧ wr = w) (fun _ i _ => 0)
    case atStart => exact ⟨rfl, rfl, rfl⟩
    case round =>
      obtain ⟨rfl, rfl, rfl⟩ := hrel
      go_wp2_with fail
      go_ret
      exact P.out
  · have O := Lib.hid o
    clear o hl
    have HH := Lib.hid hh
    clear hh
    go_enter Try.func27, Try.ntmps27
    go_wp2_with fail
    go_loopw [1, 5] (fun v i wr => ∃ j : Nat, v = .int .i64 (k + 2 * (j : Int)) ∧ i = .int .i64 j ∧ j ≤ n ∧ OwnF wr g n (fun q => if q < j then (k + 2 * (q : Int), k + 2 * (q : Int) + 1) else pr L q) ∧ Within lo hi w wr) (fun _ i _ => n - (intOf i).toNat)
    case atStart => exact ⟨0, by simp, rfl, Nat.zero_le _, O.out.congr (fun i _ => by simp), Within.refl _ _ _⟩
    case round =>
      obtain ⟨j, rfl, rfl, hj, ro, rw'⟩ := hrel
      by_cases hlt : j < n
      · obtain ⟨q1, q2, q3, q4⟩ := ro.2 j hlt
        have HO := Lib.hid (ro.set j (k + 2 * (j : Int), k + 2 * (j : Int) + 1))
        have HW := Lib.hid ((rw'.setCell (p := ⟨g, j * 2, none⟩) h3 h4 (.int .i64 (k + 2 * (j : Int)))).setCell (p := ⟨g, j * 2 + 1, none⟩) h3 h4 (.int .i64 (k + 2 * (j : Int) + 1)))
        have hgl := ro.1
        have i1 : (0 : Int) ≤ (j : Int) := by omega
        have i2 : (j : Int) < (n : Int) := by omega
        clear ro rw'
        go_wp2_with fail
        go_roundw
        case rel =>
          refine ⟨j + 1, by go_num, by go_num, by omega, HO.out.congr (fun q hq => ?_), HW.out⟩
          by_cases e : q = j
          · subst e; rw [if_pos rfl, if_pos (by omega)]
          · rw [if_neg e]
            by_cases e2 : q < j
            · rw [if_pos e2, if_pos (by omega)]
            · rw [if_neg e2, if_neg (by omega)]
        case measure => simp [intOf]; omega
      · obtain rfl : n = j := by omega
        have P := Lib.hid (show MarkPost w (some ⟨g, 0, none⟩) n lo hi k (.returned (.int .i64 (k + 2 * (n : Int)))) wr from
          ⟨rfl, ⟨mkL_len k n, Nat.le_trans HH.out rw'.size, .inr ⟨g, rfl, h3, h4, ro.congr (fun q hq => by rw [if_pos hq]; exact (mkL_pr k n q hq).symm)⟩⟩, rw'⟩)
        clear ro rw'
        go_wp2_with fail
        go_ret
        exact P.out

end Go.Proofs.Ytgendnkemdcjeaa
