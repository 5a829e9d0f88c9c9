/- strings.SplitSeq at a bar. -/
import Derived.Test.YtjiffbddgbigcaaDoorRange
import Derived.Test.YtjiffbddgbigcaaDoorSeg
import Derived.Test.YtjiffbddgbigcaaDoorShelf
import Derived.WalkKit
import Derived.OwnWalkIn
import Derived.TacticsInMore
import Derived.LoopNIn
import Derived.LoopIn
import Derived.Maps.AppendAt
namespace Go.Proofs.YtjiffbddgbigcaaDoor
open Go.RowKit Go.Shelf
attribute [local go_sem] Oper.semAt_some
set_option linter.unusedVariables false
set_option linter.unusedSimpArgs false

theorem bs_extract (l : List UInt8) (i j : Nat) : (bs l).extract i j = bs ((l.drop i).take (j - i)) := by
  apply ByteArray.ext
  simp [bs, ByteArray.data_extract]
theorem cut_to (W : World) (l : List UInt8) (j : Nat) (hj : j ≤ l.length) : (Instr.slice 9 (.string (bs l)) none (some (.int .i64 (j : Int))) none).run Tryd.prog W = .ok (.string (bs (l.take j))) W := by
  rw [run_slice_string_to_if W _ _ _ _ Tryd.underlying9, if_pos ⟨by omega, by rw [bs_size]; omega⟩, bs_extract, List.drop_zero, Nat.sub_zero]
  rfl
theorem cut_from (W : World) (l : List UInt8) (j : Nat) (hj : j ≤ l.length) : (Instr.slice 9 (.string (bs l)) (some (.int .i64 (j : Int))) none none).run Tryd.prog W = .ok (.string (bs (l.drop j))) W := by
  rw [run_slice_string_from_if W _ _ _ _ Tryd.underlying9, if_pos ⟨by omega, by rw [bs_size]; omega⟩, bs_extract, bs_size, List.take_of_length_le (by rw [List.length_drop]; show _ ≤ l.length - ((j : Int)).toNat; omega)]
  rfl
theorem bar_cases : ∀ l : List UInt8, (∀ x ∈ l, x ≠ 124) ∨ ∃ p r, l = p ++ 124 :: r ∧ ∀ x ∈ p, x ≠ 124
  | [] => .inl (by simp)
  | c :: l => by
    by_cases h : c = 124
    · exact .inr ⟨[], l, by rw [h]; rfl, by simp⟩
    · rcases bar_cases l with q | ⟨p, r, q1, q2⟩
      · exact .inl (fun x hx => by
          rcases List.mem_cons.mp hx with z | z
          · rw [z]; exact h
          · exact q x z)
      · exact .inr ⟨c :: p, r, by rw [q1]; rfl, fun x hx => by
          rcases List.mem_cons.mp hx with z | z
          · rw [z]; exact h
          · exact q2 x z⟩
theorem idx_none : ∀ l : List UInt8, (∀ x ∈ l, x ≠ 124) → Lib.indexByte l 124 = -1
  | [], _ => rfl
  | c :: l, h => by
    have e : (c == 124) = false := by simpa using h c (by simp)
    unfold Lib.indexByte
    rw [e, idx_none l (fun x hx => h x (by simp [hx]))]
    rfl
theorem idx_bar : ∀ (p r : List UInt8), (∀ x ∈ p, x ≠ 124) → Lib.indexByte (p ++ 124 :: r) 124 = (p.length : Int)
  | [], r, _ => by
    show Lib.indexByte (124 :: r) 124 = _
    unfold Lib.indexByte
    rfl
  | c :: p, r, h => by
    have e : (c == 124) = false := by simpa using h c (by simp)
    rw [List.cons_append]
    unfold Lib.indexByte
    rw [e, idx_bar p r (fun x hx => h x (by simp [hx]))]
    have : ((p.length : Int) == -1) = false := by simp <;> omega
    rw [this]
    simp
/-- strings.Index at a bar. -/
theorem index_any (l : List UInt8) (w : World) (v : Int) (hv : Lib.indexByte l 124 = v) : Calls Tryd.prog 53 #[.string (bs l), .string ⟨#[124]⟩] w fun e w' => e = .returned (.int .i64 v) ∧ w = w' := by
  have h := sh_strings_Index_one (bs l) 124 w
  rw [bs_data, hv] at h
  exact h.mono (by rintro e w' ⟨rfl, rfl⟩; exact ⟨rfl, rfl⟩)
theorem count_any (l : List UInt8) (c : UInt8) (w : World) (v : Nat) (hv : l.count c = v) : Calls Tryd.prog 40 #[.string (bs l), .string ⟨#[c]⟩] w fun e w' => e = .returned (.int .i64 v) ∧ w = w' := by
  have h := sh_strings_Count_one (bs l) c w
  rw [bs_data] at h
  have e : Lib.countByte l c = v := hv
  rw [e] at h
  exact h.mono (by rintro e w' ⟨rfl, rfl⟩; exact ⟨rfl, rfl⟩)
/-- The length of what is left, in the iterator's box. -/
def leftS (b : Nat) (W : World) : Nat := match W.cell? ⟨b, 0, none⟩ with | some (.string s) => s.size | _ => 0
theorem leftS_eq {b : Nat} {W : World} {l : List UInt8} (h : W.cell? ⟨b, 0, none⟩ = some (.string (bs l))) : leftS b W = l.length := by
  unfold leftS
  rw [h]
  exact bs_size l

/-- What the iterator holds. -/
def ItS (bP bS bV lo hi : Nat) (W : World) (l : List UInt8) : Prop :=
  W.cell? ⟨bP, 0, none⟩ = some (.string ⟨#[124]⟩) ∧ W.cell? ⟨bS, 0, none⟩ = some (.string (bs l)) ∧ W.frozen? ⟨bS, 0, none⟩ = false ∧ W.cell? ⟨bV, 0, none⟩ = some (.int .i64 0)
theorem ItS.kr {bP bS bV lo hi : Nat} {W W' : World} {l : List UInt8} (h : ItS bP bS bV lo hi W l) (k : KR lo hi W W') (h1 : lo ≤ bP ∧ bP < hi) (h2 : lo ≤ bS ∧ bS < hi) (h3 : lo ≤ bV ∧ bV < hi) : ItS bP bS bV lo hi W' l :=
  ⟨(k.cell h1.1 h1.2).trans h.1, (k.cell h2.1 h2.2).trans h.2.1, (k.frozen h2.1 h2.2).trans h.2.2.1, (k.cell h3.1 h3.2).trans h.2.2.2⟩

set_option maxRecDepth 100000 in
set_option maxHeartbeats 3200000 in
theorem split1_in (n : Nat) (hn : 1 ≤ n) (l bP bS bV lo hi : Nat) (h1 : lo ≤ bP ∧ bP < hi) (h2 : lo ≤ bS ∧ bS < hi) (h3 : lo ≤ bV ∧ bV < hi) (hne : bP ≠ bS) (hne2 : bV ≠ bS) (s : List UInt8) (hs : s.length ≤ 1000) (J Jx : List (List UInt8) → World → Prop)
    (hJs : ∀ t A v, J t A → J t (A.setCell ⟨bS, 0, none⟩ v))
    (hY : ∀ pre x W1, (∃ r, sg s = pre ++ x :: r) → J pre W1 → YieldAt Fence.wide (n - 1) Tryd.prog l #[.string (bs x)] W1 fun e W' =>
      (e = .returned (.bool true) ∧ J (pre ++ [x]) W' ∧ KR lo hi W1 W') ∨ (e = .returned (.bool false) ∧ Jx (pre ++ [x]) W'))
    (W : World) (hI : ItS bP bS bV lo hi W s) (h0 : J [] W) :
    CallsIn Fence.wide n Tryd.prog 58 #[.func (.yield l) #[] #[], .pointer (some ⟨bP, 0, none⟩), .pointer (some ⟨bS, 0, none⟩), .pointer (some ⟨bV, 0, none⟩)] W fun e W' => (∃ v, e = .returned v) ∧ (J (sg s) W' ∨ ∃ pre, Jx pre W') := by
  have HY := Lib.hid hY
  have HJS := Lib.hid hJs
  have hP : (⟨bS, 0, none⟩ : Addr) ≠ ⟨bP, 0, none⟩ := fun e => hne (by cases e; rfl)
  have hV : (⟨bS, 0, none⟩ : Addr) ≠ ⟨bV, 0, none⟩ := fun e => hne2 (by cases e; rfl)
  obtain ⟨c1, c2, c3, c4⟩ := hI
  have bl := World.block_lt_of_cell? W _ c2
  clear hY hJs
  refine callsIn_of_wp Tryd.func58 rfl trivial ?_ rfl
  simp only [Tryd.ntmps58, List.size_toArray, List.length_cons, List.length_nil, Nat.reduceAdd, Nat.reduceSub, Array.replicate_succ, Array.replicate_zero, List.push_toArray, List.append_toArray, List.nil_append, List.cons_append]
  gi_wp2
  gi_loopw [7] (fun p wr => ∃ (pre : List (List UInt8)) (rest : List UInt8), sg s = pre ++ sg rest ∧ rest.length ≤ 1000 ∧ ItS bP bS bV lo hi wr rest ∧ J pre wr) (fun _ wr => leftS bS wr)
  case atStart => exact ⟨[], s, rfl, hs, ⟨c1, c2, c3, c4⟩, h0⟩
  case round =>
    obtain ⟨pre, rest, hx, hrl, hit, hj⟩ := hrel
    obtain ⟨d1, d2, d3, d4⟩ := hit
    have bw := World.block_lt_of_cell? wr _ d2
    have HIT := Lib.hid (show ItS bP bS bV lo hi wr rest from ⟨d1, d2, d3, d4⟩)
    rcases bar_cases rest with hb | ⟨p, r, hb, hp⟩
    · have IV := Lib.hid (idx_none rest hb)
      have SG := Lib.hid (sg_none rest hb)
      have FX := Lib.hid (show pre ++ [rest] = sg s by rw [hx, SG.out])
      obtain ⟨fn, tmps, assign, body, hy, hR⟩ := HY.out pre rest wr ⟨[], by rw [hx, SG.out]⟩ hj
      have HR := Lib.hid hR
      clear hR hb hx hj
      gi_wp2_with (refine ⟨trivial, ?_⟩; gi_at_call 53; refine (callsIn_wide.2 (index_any rest _ _ IV.out)).mono ?_; rintro e w' ⟨rfl, rfl⟩)
      refine HR.out.mono ?_
      rintro e W3 (⟨rfl, hJ3, hk3⟩ | ⟨rfl, hJx3⟩)
      · gi_wp2
        go_end0
        exact ⟨⟨_, rfl⟩, .inl (FX.out ▸ hJ3)⟩
      · gi_wp2
        go_end0
        exact ⟨⟨_, rfl⟩, .inr ⟨_, hJx3⟩⟩
    · have IV := Lib.hid (show Lib.indexByte rest 124 = (p.length : Int) by rw [hb]; exact idx_bar p r hp)
      have SG := Lib.hid (show sg rest = p :: sg r by rw [hb]; exact sg_app p r hp)
      have FX := Lib.hid (show sg s = (pre ++ [p]) ++ sg r by rw [hx, SG.out]; simp)
      have lr : rest.length = p.length + (r.length + 1) := by rw [hb]; simp
      have hr9 : r.length ≤ 1000 := by omega
      have hrlt : r.length < rest.length := by omega
      have CT := fun V => cut_to V rest p.length (by omega)
      have tk : rest.take p.length = p := by rw [hb]; simp
      rw [tk] at CT
      have CF := fun V => cut_from V rest (p.length + 1) (by omega)
      have dk : rest.drop (p.length + 1) = r := by rw [hb, List.drop_append]; simp
      rw [dk, show ((p.length + 1 : Nat) : Int) = (p.length : Int) + 1 by omega] at CF
      have w1 : IntKind.i64.wrap ((p.length : Int) + 1) = (p.length : Int) + 1 := IntWalk.i64_in _ (by omega)
      have w0 : IntKind.i64.wrap (p.length : Int) = (p.length : Int) := IntWalk.i64_in _ (by omega)
      have w2 := w0
      rw [IntWalk.i64_left] at w2
      obtain ⟨fn, tmps, assign, body, hy, hR⟩ := HY.out pre p wr ⟨sg r, by rw [hx, SG.out]⟩ hj
      have HR := Lib.hid hR
      clear hR hx hj hb tk dk
      gi_wp2_with (refine ⟨trivial, ?_⟩; gi_at_call 53; refine (callsIn_wide.2 (index_any rest _ _ IV.out)).mono ?_; rintro e w' ⟨rfl, rfl⟩)
      refine HR.out.mono ?_
      rintro e W3 (⟨rfl, hJ3, hk3⟩ | ⟨rfl, hJx3⟩)
      · have HT := HIT.out.kr hk3 h1 h2 h3
        have HT3 := Lib.hid HT
        obtain ⟨t1, t2, t3, t4⟩ := HT
        have HJ3 := Lib.hid hJ3
        clear d1 d2 d3 d4 hJ3 hk3 hy
        gi_wp2
        go_roundw
        case rel =>
          refine ⟨pre ++ [p], r, FX.out, hr9, ?_, HJS.out _ _ _ HJ3.out⟩
          obtain ⟨t1, t2, t3, t4⟩ := HT3.out
          exact ⟨by rw [World.cell?_setCell_other _ _ _ _ hP]; exact t1, World.cell?_setCell_same _ _ _ t2, by simpa using t3, by rw [World.cell?_setCell_other _ _ _ _ hV]; exact t4⟩
        case measure =>
          have e1 := leftS_eq (b := bS) (l := rest) HIT.out.2.1
          have e2 := leftS_eq (b := bS) (W := W3.setCell ⟨bS, 0, none⟩ (.string (bs r))) (l := r) (World.cell?_setCell_same _ _ _ HT3.out.2.1)
          rw [e1, e2]
          exact hrlt
      · gi_wp2
        refine bodyPost_ret (results_none rfl _ _ _) rfl ?_
        exact ⟨⟨_, rfl⟩, .inr ⟨_, hJx3⟩⟩
end Go.Proofs.YtjiffbddgbigcaaDoor
