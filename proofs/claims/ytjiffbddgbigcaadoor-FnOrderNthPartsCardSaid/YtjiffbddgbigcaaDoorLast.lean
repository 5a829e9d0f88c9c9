/- A drawn region whose last operation waits for all others: that one is carried out last, behind the others. -/
import Derived.Test.YtjiffbddgbigcaaDoorIn
import Derived.OrdersHeld
namespace Go.Proofs.YtjiffbddgbigcaaDoor
set_option linter.unusedVariables false
set_option linter.unusedSimpArgs false

section
variable {P : Program} {md : Region.Mode} {Q : Exit → Act → World → Prop} {l : List Oper} {o : Oper}

/-- Each operation waits for earlier ones alone. -/
def upB (md : Region.Mode) (l : List Oper) : Bool :=
  (List.range l.length).all fun j => match l[j]? with | some x => x.after.all fun e => !Region.binds md e || decide (e.on < j) | none => true
/-- The last one waits for all. -/
def lastB (md : Region.Mode) (l : List Oper) (o : Oper) : Bool :=
  (List.range l.length).all (fun i => o.after.any fun e => Region.binds md e && e.on == i) && o.after.all (fun e => !Region.binds md e || decide (e.on < l.length)) && o.guard.isNone && o.dst.isNone

/-- What is to hold behind all but the last. -/
def LastQ (P : Program) (o : Oper) (Q : Exit → Act → World → Prop) : Exit → Act → World → Prop
  | .normal, a, w => o.wp P a w (fun a w => Q .normal a w) Q
  | e, a, w => Q e a w

theorem LastQ_else {e : Exit} {a : Act} {w : World} (he : e ≠ .normal) (h : LastQ P o Q e a w) : Q e a w := by
  cases e <;> first | exact h | exact absurd rfl he

theorem wp_post {x : Oper} {Q' : Exit → Act → World → Prop} (h : ∀ e a w, e ≠ .normal → Q' e a w → Q e a w) {K : Act → World → Prop} {a : Act} {w : World} (hh : x.wp P a w K Q') : x.wp P a w K Q := by
  have hL : LetsOut Q' → LetsOut Q := fun ⟨a, w, q⟩ => ⟨a, w, h _ _ _ (by simp) q⟩
  unfold Oper.wp at *
  generalize (execOp a.eval x).run P w = r at *
  cases r with
  | ok n w' =>
    cases n <;> simp only [Oper.upon] at hh ⊢ <;>
      first
        | exact hh
        | exact Calls.mono hh (fun e w'' he => by
            cases e <;> first | exact he | exact h _ _ _ (by simp) he | exact hL he)
  | halt z w' => cases z <;> simp only [Oper.upon] at hh ⊢ <;> first | exact h _ _ _ (by simp) hh | exact hh

theorem at_last {i : Nat} (hi : i < l.length) : (l ++ [o]).toArray[i]? = l.toArray[i]? := by
  simp [List.getElem?_append_left hi]
theorem at_end : (l ++ [o]).toArray[l.length]? = some o := by simp

theorem yielded_last (hd : o.dst = none) (t : Array Value) : yielded (l ++ [o]).toArray t = yielded l.toArray t := by
  funext j
  unfold yielded
  have e : ((l ++ [o]).toArray[j]?).bind (·.dst) = (l.toArray[j]?).bind (·.dst) := by
    rcases Nat.lt_trichotomy j l.length with h | h | h
    · rw [at_last h]
    · subst h; rw [at_end]; simp [hd]
    · simp [List.getElem?_eq_none (show (l ++ [o]).length ≤ j by simp; omega), List.getElem?_eq_none (show l.length ≤ j by omega)]
  rw [e]

theorem wpOp_last (hd : o.dst = none) {i : Nat} (hi : i < l.length) {K : Act → World → Prop} {a : Act} {w : World} (h : wpOp P l.toArray (LastQ P o Q) i K a w) : wpOp P (l ++ [o]).toArray Q i K a w := by
  have hL : LetsOut (LastQ P o Q) → LetsOut Q := fun ⟨a, w, q⟩ => ⟨a, w, LastQ_else (by simp) q⟩
  unfold wpOp at *
  rw [at_last hi, yielded_last hd]
  cases hx : l.toArray[i]? with
  | none => rw [hx] at h; exact h
  | some x =>
    rw [hx] at h
    dsimp only at h ⊢
    split
    · rename_i hw
      rw [if_pos hw] at h
      exact h.imp (wp_post (fun e a w he q => LastQ_else he q)) (fun q => ⟨q.1, hL q.2⟩)
    · rename_i hw
      rw [if_neg hw] at h
      exact h

theorem push_at (listed : Array Bool) (i : Nat) (d : Bool) (h : i < listed.size) : (listed.push false).getD i d = listed.getD i d := by
  simp [Array.getD_eq_getD_getElem?, Array.getElem?_push_lt h, Array.getElem?_eq_getElem h]

theorem up_spec (hu : upB md l = true) {j : Nat} {x : Oper} (hx : l.toArray[j]? = some x) : ∀ e ∈ x.after, Region.binds md e = true → e.on < j := by
  intro e he hb
  have hj : j < l.length := by simpa using (Array.getElem?_eq_some_iff.1 hx).1
  have h := List.all_eq_true.1 hu j (List.mem_range.2 hj)
  have hx' : l[j]? = some x := by simpa using hx
  rw [hx'] at h
  have h2 := Array.all_eq_true_iff_forall_mem.1 h e he
  simpa [hb] using h2

theorem ready_at (hu : upB md l = true) {listed : Array Bool} (hs : listed.size = l.length) {i : Nat} (hi : i < l.length) :
    i ∈ Region.ready md (l ++ [o]).toArray (listed.push false) ↔ i ∈ Region.ready md l.toArray listed := by
  rw [mem_ready, mem_ready, at_last hi, push_at _ _ _ (by omega)]
  constructor
  · rintro ⟨h0, x, hx, h⟩
    refine ⟨h0, x, hx, fun e he hb => ?_⟩
    have := up_spec hu hx e he hb
    have h2 := h e he hb
    rwa [push_at _ _ _ (by omega)] at h2
  · rintro ⟨h0, x, hx, h⟩
    refine ⟨h0, x, hx, fun e he hb => ?_⟩
    have := up_spec hu hx e he hb
    rw [push_at _ _ _ (by omega)]
    exact h e he hb

theorem ready_none (hu : upB md l = true) {listed : Array Bool} (h : Region.ready md l.toArray listed = []) : ∀ j, j < l.length → listed.getD j true = true := by
  intro j
  induction j using Nat.strongRecOn with
  | _ j ih =>
    intro hj
    cases hl : listed.getD j true with
    | true => rfl
    | false =>
      have hx : l.toArray[j]? = some l[j] := by simp [hj]
      have : j ∈ Region.ready md l.toArray listed := mem_ready.2 ⟨hl, l[j], hx, fun e he hb => by
        have h1 := up_spec hu hx e he hb
        have h2 := ih e.on h1 (by omega)
        have hjs : j < listed.size := by
          rcases Nat.lt_or_ge j listed.size with q | q
          · exact q
          · simp [Array.getElem?_eq_none q] at hl
        have hes : e.on < listed.size := by omega
        simp [hes] at h2 ⊢; exact h2⟩
      rw [h] at this
      cases this

theorem last_spec (hl : lastB md l o = true) : (∀ i, i < l.length → ∃ e ∈ o.after, Region.binds md e = true ∧ e.on = i) ∧ (∀ e ∈ o.after, Region.binds md e = true → e.on < l.length) ∧ o.guard = none ∧ o.dst = none := by
  unfold lastB at hl
  simp only [Bool.and_eq_true] at hl
  obtain ⟨⟨⟨h1, h2⟩, h3⟩, h4⟩ := hl
  refine ⟨fun i hi => ?_, fun e he hb => ?_, by simpa using h3, by simpa using h4⟩
  · have := List.all_eq_true.1 h1 i (List.mem_range.2 hi)
    obtain ⟨e, he, hb⟩ := Array.any_eq_true'.1 this
    simp only [Bool.and_eq_true, beq_iff_eq] at hb
    exact ⟨e, he, hb.1, hb.2⟩
  · have := Array.all_eq_true_iff_forall_mem.1 h2 e he
    simpa [hb] using this

/-- The last one comes up behind all others alone. -/
theorem end_ready (hl : lastB md l o = true) {listed : Array Bool} (hs : listed.size = l.length) : l.length ∈ Region.ready md (l ++ [o]).toArray (listed.push false) ↔ ∀ j, j < l.length → listed.getD j false = true := by
  obtain ⟨h1, h2, _⟩ := last_spec hl
  rw [mem_ready, at_end]
  constructor
  · rintro ⟨_, x, hx, h⟩ j hj
    cases hx
    obtain ⟨e, he, hb, rfl⟩ := h1 j hj
    have := h e he hb
    rwa [push_at _ _ _ (by omega)] at this
  · intro h
    refine ⟨by simp [Array.getD_eq_getD_getElem?, ← hs], o, rfl, fun e he hb => ?_⟩
    rw [push_at _ _ _ (by rw [hs]; exact h2 e he hb)]
    exact h _ (h2 e he hb)

theorem ready_lt {listed : Array Bool} {i : Nat} {ops : Array Oper} (h : i ∈ Region.ready md ops listed) : i < ops.size := by
  obtain ⟨_, x, hx, _⟩ := mem_ready.1 h
  exact (Array.getElem?_eq_some_iff.1 hx).1

theorem all_done (hu : upB md l = true) {listed : Array Bool} (h : ∀ j, j < l.length → listed.getD j true = true) : Region.ready md (l ++ [o]).toArray ((listed.push false).setIfInBounds l.length true) = [] ∨ listed.size ≠ l.length := by
  by_cases hs : listed.size = l.length
  · refine .inl ?_
    rw [List.eq_nil_iff_forall_not_mem]
    intro i hi
    have hlt : i < l.length + 1 := by simpa using ready_lt hi
    have h0 := (mem_ready.1 hi).1
    by_cases e : i = l.length
    · subst e
      simp [Array.getD_eq_getD_getElem?, hs] at h0
    · rw [getD_set_ne true (by omega), push_at _ _ _ (by omega), h i (by omega)] at h0
      cases h0
  · exact .inr hs

theorem last_step (hu : upB md l = true) (hl : lastB md l o = true) {listed : Array Bool} {a : Act} {w : World} (hs : listed.size = l.length) (hr : Region.ready md l.toArray listed = []) (hq : LastQ P o Q .normal a w) (f : Nat) :
    wpAny P md (l ++ [o]).toArray Q (f + 1) (listed.push false) a w := by
  obtain ⟨h1, h2, h3, h4⟩ := last_spec hl
  have hall := ready_none hu hr
  have hall' : ∀ j, j < l.length → listed.getD j false = true := fun j hj => by
    have := hall j hj
    have hjs : j < listed.size := by omega
    simp [hjs] at this ⊢; exact this
  have hend := (end_ready hl hs).2 hall'
  have hd := (all_done (o := o) hu hall).resolve_right (fun q => q hs)
  refine ⟨fun q => (by rw [q] at hend; cases hend), fun i hi => ?_⟩
  have hlt : i < l.length + 1 := by simpa using ready_lt hi
  by_cases e : i = l.length
  · subst e
    unfold wpOp
    rw [at_end]
    dsimp only
    rw [if_pos (by simp [Region.wanted, h3])]
    refine .inl (Oper.wp_mono (fun a' w' q => ?_) hq)
    cases f with
    | zero => exact ⟨hd, q⟩
    | succ f => exact ⟨fun _ => q, fun j hj => by rw [hd] at hj; cases hj⟩
  · have := (ready_at (o := o) hu hs (show i < l.length by omega)).1 hi
    rw [hr] at this
    cases this

theorem wpAny_last (hu : upB md l = true) (hl : lastB md l o = true) : ∀ (f : Nat) (listed : Array Bool) (a : Act) (w : World), listed.size = l.length → wpAny P md l.toArray (LastQ P o Q) f listed a w → wpAny P md (l ++ [o]).toArray Q (f + 1) (listed.push false) a w
  | 0, listed, a, w, hs, h => last_step hu hl hs h.1 h.2 0
  | f + 1, listed, a, w, hs, h => by
    cases hr : Region.ready md l.toArray listed with
    | nil => exact last_step hu hl hs hr (h.1 hr) (f + 1)
    | cons r rs =>
      obtain ⟨h1, h2, h3, h4⟩ := last_spec hl
      have hrm : r ∈ Region.ready md l.toArray listed := by rw [hr]; simp
      have hrl : r < l.length := by simpa using ready_lt hrm
      have hrr := (ready_at (o := o) hu hs hrl).2 hrm
      refine ⟨fun q => (by rw [q] at hrr; cases hrr), fun i hi => ?_⟩
      have hlt : i < l.length + 1 := by simpa using ready_lt hi
      by_cases e : i = l.length
      · subst e
        have h5 := (end_ready hl hs).1 hi r hrl
        have h6 := (mem_ready.1 hrm).1
        have hjs : r < listed.size := by omega
        simp [hjs] at h5 h6
        rw [h5] at h6
        cases h6
      · have hil : i < l.length := by omega
        have hi' := (ready_at (o := o) hu hs hil).1 hi
        have h5 := wpOp_last h4 hil (h.2 i hi')
        refine wpOp_mono (fun a' w' q => ?_) h5
        have h6 := wpAny_last hu hl f (listed.setIfInBounds i true) a' w' (by simpa using hs) q
        have h7 : (listed.setIfInBounds i true).push false = (listed.push false).setIfInBounds i true := by
          have his : i < listed.size := by omega
          apply Array.ext_getElem?
          intro k
          simp only [Array.getElem?_push, Array.getElem?_setIfInBounds, Array.size_setIfInBounds, Array.size_push]
          split <;> split <;> simp_all <;> omega
        rwa [h7] at h6

/-- The region, but for its last operation; that one behind it. -/
theorem wp_region_last {id : Nat} {a : Act} {w : World} {ops : List Oper} (S : World → Prop) (n : Nat) (hn : n < ops.length) (he : n + 1 = ops.length) (hm : P.follows .mixedOrders = true) (hu : upB .any (ops.take n) = true) (hl : lastB .any (ops.take n) ops[n] = true) (hS : S w.drew)
    (h : S w.drew → wpAnyH P .any (ops.take n).toArray (LastQ P ops[n] Q) S n (Array.replicate n false) a w.drew) : (Code.region id ops.toArray true).wp P Q a w := by
  have hl1 : (ops.take n).length = n := by rw [List.length_take]; omega
  have hops : ops = ops.take n ++ [ops[n]] := by
    have e2 := List.take_succ_eq_append_getElem hn
    rw [List.take_of_length_le (by omega)] at e2
    exact e2
  refine wp_region_any hm ?_
  have h1 := wpAny_last (o := ops[n]) (Q := Q) hu hl (ops.take n).length (Array.replicate n false) a w.drew (by rw [hl1]; simp) (by rw [hl1]; exact wpAny_of_held _ _ _ _ (h hS))
  have e1 : ((Array.replicate n false).push false) = Array.replicate ops.length false := by
    rw [← he, Array.replicate_succ]
  rw [e1, hl1, ← hops, he] at h1
  simpa using h1
end
end Go.Proofs.YtjiffbddgbigcaaDoor
