/- The text of a part: partNth. -/
import Derived.Test.YtjiffbddgbigcaaDoorTxtS
import Derived.Test.YtjiffbddgbigcaaDoorIntC
import Derived.Lib.BufferRead
namespace Go.Proofs.YtjiffbddgbigcaaDoor
open Go.RowKit
set_option linter.unusedVariables false
set_option linter.unusedSimpArgs false

theorem infoU8 : (Tryd.prog.info? 5).map (fun i => (i.zero, i.size, i.bytes)) = some (some (.int .u8 0), 1, 1) := by kernel_rfl
theorem byte_snoc (p : List UInt8) (x : UInt8) : Lib.byteCells (p ++ [x]) = Lib.byteCells p ++ Lib.byteCells [x] := by simp [Lib.byteCells]
theorem byte_one (x : UInt8) : ∀ u ∈ Lib.byteCells [x], u.oneCell' = true := by
  intro u hu
  simp [Lib.byteCells] at hu
  subst hu
  rfl
theorem byte_new (W : World) (x : Value) (t : TypeId) : ∀ j u, [x][j]? = some u → (W.alloc (.cells #[x] t)).cell? ((⟨W.heap.size, 0, none⟩ : Addr).add j) = some u := int_new W x t
/-- The text of a row of bytes. -/
theorem bytes_text {w : World} {B : Nat} {v : Value} {p : List UInt8} (h : w.ownsRow B 5 1 v p.length (Lib.byteCells p)) : (convert 22 9 v).run Tryd.prog w = .ok (.string (bs p)) w := by
  by_cases e : p = []
  · subst e
    have h' : w.ownsRow B 5 1 v 0 [] := h
    obtain ⟨_, h2⟩ := h'
    rcases h2 with ⟨hv, _⟩ | ⟨g, cp, cur, hv, _⟩
    · subst hv
      exact Lib.run_convert_nil_bytes w 22 9 5 _ Tryd.underlying22 Tryd.underlying5 Tryd.underlying9
    · subst hv
      exact run_convert_bytes_back w 22 9 5 _ _ [] Tryd.underlying22 Tryd.underlying5 Tryd.underlying9 (fun j hj => absurd hj (by simp))
  · obtain ⟨a, cap, rfl⟩ : ∃ (g cap : Nat), v = .slice (some ⟨g, 0, none⟩) p.length cap := by
      rcases h.2 with ⟨hv, h0⟩ | ⟨g, cp, cur, hv, _⟩
      · exact absurd (List.eq_nil_of_length_eq_zero (by first | exact h0 | exact h0.1)) e
      · exact ⟨g, cp, hv⟩
    refine run_convert_bytes_back w 22 9 5 _ _ p Tryd.underlying22 Tryd.underlying5 Tryd.underlying9 (fun j hj => ?_)
    rw [add_none, Nat.zero_add, h.cellAt _ (by omega)]
    simp [Lib.byteCells, hj]
theorem choose_n (s t : Int) (d b : Nat) (hs : s = (d : Int) + (b : Int)) (ht : t = (b : Int)) (hab : d + b ≤ 12) (w : World) : Calls Tryd.prog 30 #[.int .i64 s, .int .i64 t] w fun e w' => e = .returned (.int .i64 ((ch d b : Nat) : Int)) ∧ w = w' := by
  subst hs ht
  have h := choose_any (d + b) b (by omega) hab w
  have e : cho (d + b) b = ch d b := by unfold ch; exact (cho_symm d b).symm
  rw [e, Int.natCast_add] at h
  exact h.mono (by rintro e w' ⟨rfl, rfl⟩; exact ⟨rfl, rfl⟩)
set_option maxHeartbeats 1600000 in
theorem partNth_any (a b n : Nat) (ha : a ≤ 6) (hb : b ≤ 6) (hn : n < ch a b) (w : World) :
    Calls Tryd.prog 31 #[.int .i64 a, .int .i64 b, .int .i64 n] w fun e w' => e = .returned (.string (bs (txt (a + b) a b n))) ∧ Below w.heap.size w w' := by
  obtain ⟨i0, hi, hz0, hz1, hz2⟩ := info_parts infoU8
  have HN0 := Lib.hid hn
  clear hn
  go_enter Tryd.func31, Tryd.ntmps31
  go_wp2_with fail
  go_loopw [0, 1, 2, 7] (fun va vb vn o wr => ∃ (p : List UInt8) (a' b' n' : Nat), va = .int .i64 a' ∧ vb = .int .i64 b' ∧ vn = .int .i64 n' ∧ Hid (wr.ownsRow w.heap.size 5 1 o p.length (Lib.byteCells p)) ∧ a' ≤ a ∧ b' ≤ b ∧ p.length + (a' + b') = a + b ∧ Hid (n' < ch a' b') ∧ Hid (p ++ txt (a' + b') a' b' n' = txt (a + b) a b n) ∧ Hid (Below w.heap.size w wr)) (fun va vb _ _ _ => (intOf va).toNat + (intOf vb).toNat)
  case atStart => exact ⟨[], a, b, n, rfl, rfl, rfl, World.ownsRow_nil _ _ _ _, Nat.le_refl _, Nat.le_refl _, by simp, HN0.out, rfl, Below.refl _ _⟩
  case round =>
    obtain ⟨p, a', b', n', rfl, rfl, rfl, RO, h1, h2, hp, HN, HT, HB⟩ := hrel
    have hch : ch a' b' ≤ 924 := ch_bd a' (by omega) b' (by omega)
    have n9 : n' < 924 := Nat.lt_of_lt_of_le HN.out hch
    have a0 : IntKind.i64.wrap ((a' : Int) + (b' : Int)) = (a' : Int) + (b' : Int) := IntWalk.i64_in _ (by omega)
    clear hch
    by_cases hz : a' + b' = 0
    · have i1 : ¬ (0 : Int) < (a' : Int) + (b' : Int) := by omega
      have E := Lib.hid (show p = txt (a + b) a b n by have := HT.out; rw [hz, txt_zero, List.append_nil] at this; exact this)
      have CV := bytes_text RO.out
      clear HN HT hz
      go_wp2_with fail
      go_ret
      exact ⟨by rw [E.out]; rfl, HB.out⟩
    · have i1 : (0 : Int) < (a' : Int) + (b' : Int) := by omega
      obtain ⟨m, hm⟩ : ∃ m, m + 1 = a' + b' := ⟨a' + b' - 1, by omega⟩
      have a3 : IntKind.i64.wrap ((b' : Int) - 1) = (b' : Int) - 1 := IntWalk.i64_in _ (by omega)
      rcases txt_cases hm HN.out with ⟨c, e, f1, f2, f3⟩ | ⟨c, e, f0, f1, f2, f3⟩
      · have T := Lib.hid (show (p ++ [97]) ++ txt (c + b') c b' n' = txt (a + b) a b n by rw [← HT.out, ← hm, f3, f2]; simp)
        have F1 := Lib.hid f1
        have i2 : (0 : Int) < (a' : Int) := by omega
        have i3 : (n' : Int) < ((ch c b' : Nat) : Int) := by omega
        have a1 : IntKind.i64.wrap ((a' : Int) - 1) = (a' : Int) - 1 := IntWalk.i64_in _ (by omega)
        have a2 : IntKind.i64.wrap ((a' : Int) - 1 + (b' : Int)) = (a' : Int) - 1 + (b' : Int) := IntWalk.i64_in _ (by omega)
        have HE := Lib.hid e
        clear f1 f2 f3 HT HN e
        go_wp2_with fail
        refine (choose_n _ _ c b' (by have := HE.out; first | omega | (simp only [a1, a2]; omega)) rfl (by have := HE.out; omega) _).mono ?_
        rintro e _ ⟨rfl, rfl⟩
        go_wp2_with (at_builtin; refine wpList_append_own _ rfl _ _ 22 rfl w.heap.size 5 i0 (.int .u8 0) 1 1 Tryd.underlying22 hi hz0 hz1 hz2 rfl (by decide) _ _ _ rfl (RO.out.alloc _) ⟨wr.heap.size, 0, none⟩ _ _ (Lib.byteCells [97]) rfl rfl (byte_new wr _ _) (byte_one _) (by unfold maxLen; omega) (by omega) (by rw [World.size_alloc]; have := HB.out.size; omega) ?_)
        intro v' w1 o1 g1 _
        have B1 := Lib.hid ((HB.out.alloc HB.out.size _).grown g1 (by rw [World.size_alloc]; have := HB.out.size; omega) (fun j hj => (RO.out.lt j hj).1))
        have R1 := Lib.hid (show w1.ownsRow w.heap.size 5 1 v' (p ++ [97]).length (Lib.byteCells (p ++ [97])) by rw [byte_snoc, List.length_append]; exact o1)
        clear o1 g1
        go_wp2_with fail
        go_roundw
        case rel => exact ⟨p ++ [97], c, b', n', by have := HE.out; congr 1; omega, rfl, rfl, R1.out, by have := HE.out; omega, h2, by have := HE.out; simp; omega, F1.out, T.out, B1.out⟩
        case measure => have := HE.out; simp [intOf]; omega
      · obtain ⟨k, hk⟩ : ∃ k, n' - (if 0 < a' then ch (a' - 1) b' else 0) = k := ⟨_, rfl⟩
        rw [hk] at f1 f3
        have T := Lib.hid (show (p ++ [98]) ++ txt (a' + c) a' c k = txt (a + b) a b n by rw [← HT.out, ← hm, f3, f2]; simp)
        have F1 := Lib.hid f1
        have HE := Lib.hid e
        clear f1 f2 f3 HT HN e
        by_cases hq : 0 < a'
        · rw [if_pos hq] at f0 hk
          have i2 : (0 : Int) < (a' : Int) := by omega
          obtain ⟨d, hd⟩ : ∃ d, a' - 1 = d := ⟨_, rfl⟩
          rw [hd] at f0 hk
          have i3 : ¬ (n' : Int) < ((ch d b' : Nat) : Int) := by omega
          have a1 : IntKind.i64.wrap ((a' : Int) - 1) = (a' : Int) - 1 := IntWalk.i64_in _ (by omega)
          have a4 : IntKind.i64.wrap ((a' : Int) - 1 + (b' : Int)) = (a' : Int) - 1 + (b' : Int) := IntWalk.i64_in _ (by omega)
          have a2 : IntKind.i64.wrap ((n' : Int) - ((ch d b' : Nat) : Int)) = (k : Int) := by rw [IntWalk.i64_in _ (by omega)]; omega
          have HD := Lib.hid hd
          clear hk f0 hd
          go_wp2_with fail
          refine (choose_n _ _ d b' (by have := HD.out; first | omega | (simp only [a1, a4]; omega)) rfl (by have := HD.out; omega) _).mono ?_
          rintro e _ ⟨rfl, rfl⟩
          go_wp2_with (at_builtin; refine wpList_append_own _ rfl _ _ 22 rfl w.heap.size 5 i0 (.int .u8 0) 1 1 Tryd.underlying22 hi hz0 hz1 hz2 rfl (by decide) _ _ _ rfl (RO.out.alloc _) ⟨wr.heap.size, 0, none⟩ _ _ (Lib.byteCells [98]) rfl rfl (byte_new wr _ _) (byte_one _) (by unfold maxLen; omega) (by omega) (by rw [World.size_alloc]; have := HB.out.size; omega) ?_)
          intro v' w1 o1 g1 _
          have B1 := Lib.hid ((HB.out.alloc HB.out.size _).grown g1 (by rw [World.size_alloc]; have := HB.out.size; omega) (fun j hj => (RO.out.lt j hj).1))
          have R1 := Lib.hid (show w1.ownsRow w.heap.size 5 1 v' (p ++ [98]).length (Lib.byteCells (p ++ [98])) by rw [byte_snoc, List.length_append]; exact o1)
          clear o1 g1
          go_wp2_with fail
          go_roundw
          case rel => exact ⟨p ++ [98], a', c, k, rfl, by have := HE.out; congr 1; omega, by first | rfl | rw [a2] | (congr 1; omega), R1.out, h1, by have := HE.out; omega, by have := HE.out; simp; omega, F1.out, T.out, B1.out⟩
          case measure => have := HE.out; simp [intOf]; omega
        · rw [if_neg hq, Nat.sub_zero] at hk
          subst hk
          have i2 : ¬ (0 : Int) < (a' : Int) := by omega
          have i3 : ¬ (n' : Int) < 0 := by omega
          have a2 : IntKind.i64.wrap ((n' : Int) - 0) = (n' : Int) := by rw [IntWalk.i64_in _ (by omega)]; omega
          clear f0
          go_wp2_with (at_builtin; refine wpList_append_own _ rfl _ _ 22 rfl w.heap.size 5 i0 (.int .u8 0) 1 1 Tryd.underlying22 hi hz0 hz1 hz2 rfl (by decide) _ _ _ rfl (RO.out.alloc _) ⟨wr.heap.size, 0, none⟩ _ _ (Lib.byteCells [98]) rfl rfl (byte_new wr _ _) (byte_one _) (by unfold maxLen; omega) (by omega) (by rw [World.size_alloc]; have := HB.out.size; omega) ?_)
          intro v' w1 o1 g1 _
          have B1 := Lib.hid ((HB.out.alloc HB.out.size _).grown g1 (by rw [World.size_alloc]; have := HB.out.size; omega) (fun j hj => (RO.out.lt j hj).1))
          have R1 := Lib.hid (show w1.ownsRow w.heap.size 5 1 v' (p ++ [98]).length (Lib.byteCells (p ++ [98])) by rw [byte_snoc, List.length_append]; exact o1)
          clear o1 g1
          go_wp2_with fail
          go_roundw
          case rel => exact ⟨p ++ [98], a', c, n', rfl, by have := HE.out; congr 1; omega, by first | rfl | rw [a2] | (congr 1; omega), R1.out, h1, by have := HE.out; omega, by have := HE.out; simp; omega, F1.out, T.out, B1.out⟩
          case measure => have := HE.out; simp [intOf]; omega
end Go.Proofs.YtjiffbddgbigcaaDoor
