/- A drawn region in a round, by the laws of plain regions. -/
import Derived.Test.YtjiffbddgbigcaaDoorRange
import Derived.Deep.RegionHeld3
import Derived.Shelf.RegionOpen
namespace Go.Proofs.YtjiffbddgbigcaaDoor
open Go.RowKit Go.Shelf
set_option linter.unusedVariables false
variable {P : Program} {ops : Array Oper} {Q : Exit → Act → World → Prop}

/-- A region that ends normally alone. -/
def OnlyN (Q : Exit → Act → World → Prop) : Exit → Act → World → Prop
  | .normal, a, w => Q .normal a w
  | _, _, _ => False
theorem OnlyN.imp : ∀ (e : Exit) (a : Act) (w : World), OnlyN Q e a w → Q e a w := fun e a w h => by
  cases e <;> first | exact h | exact (h : False).elim
theorem onlyN_shut (h : LetsOut (OnlyN Q)) : False := by
  obtain ⟨a, w, q⟩ := h
  exact q
theorem uponIn_of {o : Oper} {a : Act} {K : Act → World → Prop} (l n : Nat) : ∀ r : Result Next, o.upon P a K Q r → o.uponIn (Fence.wide.inRound l) n P a K Q r
  | .ok (.value v) w, h => h
  | .ok .skip w, h => h
  | .ok (.defer d) w, h => h
  | .ok (.enter f args) w, h => ⟨fun q => (by cases q), CallsIn.inRound l (callsIn_wide.2 h)⟩
  | .ok (.row row args) w, h => ⟨fun q => (by cases q), fun c cs _ => by
      obtain ⟨v, w', r, s⟩ := h c cs
      exact ⟨v, w', r, stepsIn_wide.2 s⟩⟩
  | .ok (.round _ _ _ _ _) w, h => by cases h
  | .halt (.panic v) w, h => h
  | .halt _ w, h => by
    unfold Oper.upon at h
    unfold Oper.uponIn
    split at h <;> first | exact h.elim | (simp_all; done) | skip
def NoDefer (ops : Array Oper) : Prop := ∀ (i : Nat) (o : Oper), ops[i]? = some o → ∀ c, o.op ≠ Op.defer c
def isDefer : Op → Bool
  | .defer _ => true
  | _ => false
theorem noDefer_of (h : (ops.toList.all fun o => !isDefer o.op) = true) : NoDefer ops := fun i o ho c e => by
  have hm : o ∈ ops.toList := by
    rw [Array.mem_toList_iff]
    exact Array.mem_of_getElem? ho
  have := List.all_eq_true.mp h o hm
  rw [e] at this
  cases this
theorem wpOpIn_of (l n : Nat) (hd : NoDefer ops) {i : Nat} {K K' : Act → World → Prop} {a : Act} {w : World} (hK : ∀ a w, K a w → K' a w) (h : wpOp P ops (OnlyN Q) i K a w) : wpOpIn (Fence.wide.inRound l) n P ops (OnlyN Q) i K' a w := by
  have h' := wpOp_mono hK h
  unfold wpOp at h'
  unfold wpOpIn
  cases ho : ops[i]? with
  | none => rw [ho] at h'; exact h'
  | some o =>
    rw [ho] at h'
    simp only at h' ⊢
    by_cases hw : Region.wanted o (yielded ops a.tmps) = true
    · rw [if_pos hw] at h' ⊢
      rcases h' with h' | ⟨_, h'⟩
      · unfold Oper.wp at h'
        refine ⟨fun _ _ => trivial, ?_⟩
        show o.uponIn _ n P a K' _ ((o.semAt (some l) a.eval).run P w)
        rw [Oper.semAt_some l a.eval o (hd i o ho)]
        exact uponIn_of l n _ h'
      · exact (onlyN_shut h').elim
    · rw [if_neg hw] at h' ⊢
      exact ⟨fun _ _ => trivial, h'⟩
theorem wpAnyIn_of (l n : Nat) (hd : NoDefer ops) {md : Region.Mode} : ∀ (fuel : Nat) (listed : Array Bool) (a : Act) (w : World), wpAny P md ops (OnlyN Q) fuel listed a w → wpAnyIn (Fence.wide.inRound l) n P md ops (OnlyN Q) fuel listed a w
  | 0, _, _, _, h => h
  | fuel + 1, _, _, _, h => ⟨h.1, fun i hi => wpOpIn_of l n hd (fun a w q => wpAnyIn_of l n hd fuel _ a w q) (h.2 i hi)⟩
/-- A drawn region of plain operations, in a round. -/
theorem wpIn_region_plain {id : Nat} {a : Act} {w : World} (l n : Nat) (S : World → Prop) (hd : NoDefer ops) (hm : P.follows .mixedOrders = true)
    (h : wpAnyH P .any ops (OnlyN Q) S ops.size (Array.replicate ops.size false) a w.drew) : (Code.region id ops true).wpIn (Fence.wide.inRound l) n P Q a w :=
  wpIn_mono (wpIn_region_any hm (wpAnyIn_of l n hd _ _ _ _ (wpAny_of_held _ _ _ _ h))) OnlyN.imp
end Go.Proofs.YtjiffbddgbigcaaDoor
