/-
  No cell of these rows narrows 'for every input' (looked for: loops, veiled, ifaces, maps, wideKeys, modest, calm, conditions, laid).
  DERIVED. THE GIVEN ROWS OF THIS SEAT. 8 by the template 'for every input the law returns true; each argument reads behind the call as it read before'; 0 by the template 'total and deterministic' (their statements: YtgendnkemdcjeaaTotals.lean).
  GIVEN WITH THE SEED: the statements are not yours to turn. If you find one false, say at which input.
  Laid BY PROGRAM, IN A SANDBOX (cutbox-rows.mjs): the forced cells as the released guide's own fill.sh prints them over the translation 2c7426276a93bf47… (all of the seat's roots in one cut). By AI agents, Wed Nov 11 2026. No macro, syntax, notation, axiom, sorry.
-/
import Derived.Test.YtgendnkemdcjeaaChecked
import GoSem.Claim
import GoSem.ClaimJoined
import GoSem.ClaimMapViews
import Derived.JoinedTies
import Derived.KernelRfl
namespace Go.Proofs.Ytgendnkemdcjeaa
/- THE CELL 'sum', in the pinned program and in every row, IS THE sha256 OF THE DUMP (.gsa) THAT YtgendnkemdcjeaaProg.lean LOADS. Nothing in Lean hashes anything: it is a label: what it is worth is what the hold of that sum in a sandbox is worth. -/
noncomputable def Try.pinned : Pinned := { name := "ytgendnkemdcjeaa", sum := "2c7426276a93bf47a84129a59b3ea7ec7dbc2c03219afdc99f2c7359b59742cf", checked := Try.checked }
namespace Rows
def none {H : Type} : Left H := { results := [], args := [] }

/-- 'laws.FnExactWindowsFit': WHATEVER THE INPUT: true; the input reads as it did. -/
def fnExactWindowsFitSpec : ChangeSpec := { name := "fnExactWindowsFit", fn := fun _ => fun
  | [d1, d2, d3] => { results := [.lit (.bool true)], args := [d1, d2, d3] }
  | _ => none }
def fnExactWindowsFitRow : OpenClaim := { program := "ytgendnkemdcjeaa", sum := "2c7426276a93bf47a84129a59b3ea7ec7dbc2c03219afdc99f2c7359b59742cf", func := "loop.example/icecores/laws.FnExactWindowsFit", spec := "fnExactWindowsFit", apart := false }
def FnExactWindowsFitSaid : Prop := fnExactWindowsFitRow.holds Try.pinned (OpenSpec.ofChange fnExactWindowsFitSpec)

/-- ITS FALSE NEIGHBOUR: 'it returns false'. Refute it at one input. -/
def fnExactWindowsFitWrong : ChangeSpec := { name := "fnExactWindowsFit", fn := fun _ => fun
  | [d1, d2, d3] => { results := [.lit (.bool false)], args := [d1, d2, d3] }
  | _ => none }
def FnExactWindowsFitWrongFalsely : Prop := fnExactWindowsFitRow.holds Try.pinned (OpenSpec.ofChange fnExactWindowsFitWrong)

/-- 'laws.FnFitPrefix': WHATEVER THE INPUT: true; the input reads as it did. -/
def fnFitPrefixSpec : ChangeSpec := { name := "fnFitPrefix", fn := fun _ => fun
  | [d1, d2] => { results := [.lit (.bool true)], args := [d1, d2] }
  | _ => none }
def fnFitPrefixRow : OpenClaim := { program := "ytgendnkemdcjeaa", sum := "2c7426276a93bf47a84129a59b3ea7ec7dbc2c03219afdc99f2c7359b59742cf", func := "loop.example/icecores/laws.FnFitPrefix", spec := "fnFitPrefix", apart := false }
def FnFitPrefixSaid : Prop := fnFitPrefixRow.holds Try.pinned (OpenSpec.ofChange fnFitPrefixSpec)

/-- ITS FALSE NEIGHBOUR: 'it returns false'. Refute it at one input. -/
def fnFitPrefixWrong : ChangeSpec := { name := "fnFitPrefix", fn := fun _ => fun
  | [d1, d2] => { results := [.lit (.bool false)], args := [d1, d2] }
  | _ => none }
def FnFitPrefixWrongFalsely : Prop := fnFitPrefixRow.holds Try.pinned (OpenSpec.ofChange fnFitPrefixWrong)

/-- 'laws.FnOld': WHATEVER THE INPUT: true; the input reads as it did. -/
def fnOldSpec : ChangeSpec := { name := "fnOld", fn := fun _ => fun
  | [d1, d2] => { results := [.lit (.bool true)], args := [d1, d2] }
  | _ => none }
def fnOldRow : OpenClaim := { program := "ytgendnkemdcjeaa", sum := "2c7426276a93bf47a84129a59b3ea7ec7dbc2c03219afdc99f2c7359b59742cf", func := "loop.example/icecores/laws.FnOld", spec := "fnOld", apart := false }
def FnOldSaid : Prop := fnOldRow.holds Try.pinned (OpenSpec.ofChange fnOldSpec)

/-- ITS FALSE NEIGHBOUR: 'it returns false'. Refute it at one input. -/
def fnOldWrong : ChangeSpec := { name := "fnOld", fn := fun _ => fun
  | [d1, d2] => { results := [.lit (.bool false)], args := [d1, d2] }
  | _ => none }
def FnOldWrongFalsely : Prop := fnOldRow.holds Try.pinned (OpenSpec.ofChange fnOldWrong)

/-- 'laws.FnYoung': WHATEVER THE INPUT: true; the input reads as it did. -/
def fnYoungSpec : ChangeSpec := { name := "fnYoung", fn := fun _ => fun
  | [d1, d2] => { results := [.lit (.bool true)], args := [d1, d2] }
  | _ => none }
def fnYoungRow : OpenClaim := { program := "ytgendnkemdcjeaa", sum := "2c7426276a93bf47a84129a59b3ea7ec7dbc2c03219afdc99f2c7359b59742cf", func := "loop.example/icecores/laws.FnYoung", spec := "fnYoung", apart := false }
def FnYoungSaid : Prop := fnYoungRow.holds Try.pinned (OpenSpec.ofChange fnYoungSpec)

/-- ITS FALSE NEIGHBOUR: 'it returns false'. Refute it at one input. -/
def fnYoungWrong : ChangeSpec := { name := "fnYoung", fn := fun _ => fun
  | [d1, d2] => { results := [.lit (.bool false)], args := [d1, d2] }
  | _ => none }
def FnYoungWrongFalsely : Prop := fnYoungRow.holds Try.pinned (OpenSpec.ofChange fnYoungWrong)

/-- 'laws.FnExactWindowsOld': WHATEVER THE INPUT: true; the input reads as it did. -/
def fnExactWindowsOldSpec : ChangeSpec := { name := "fnExactWindowsOld", fn := fun _ => fun
  | [d1, d2] => { results := [.lit (.bool true)], args := [d1, d2] }
  | _ => none }
def fnExactWindowsOldRow : OpenClaim := { program := "ytgendnkemdcjeaa", sum := "2c7426276a93bf47a84129a59b3ea7ec7dbc2c03219afdc99f2c7359b59742cf", func := "loop.example/icecores/laws.FnExactWindowsOld", spec := "fnExactWindowsOld", apart := false }
def FnExactWindowsOldSaid : Prop := fnExactWindowsOldRow.holds Try.pinned (OpenSpec.ofChange fnExactWindowsOldSpec)

/-- ITS FALSE NEIGHBOUR: 'it returns false'. Refute it at one input. -/
def fnExactWindowsOldWrong : ChangeSpec := { name := "fnExactWindowsOld", fn := fun _ => fun
  | [d1, d2] => { results := [.lit (.bool false)], args := [d1, d2] }
  | _ => none }
def FnExactWindowsOldWrongFalsely : Prop := fnExactWindowsOldRow.holds Try.pinned (OpenSpec.ofChange fnExactWindowsOldWrong)

/-- 'laws.FnExactWindowsYoung': WHATEVER THE INPUT: true; the input reads as it did. -/
def fnExactWindowsYoungSpec : ChangeSpec := { name := "fnExactWindowsYoung", fn := fun _ => fun
  | [d1, d2] => { results := [.lit (.bool true)], args := [d1, d2] }
  | _ => none }
def fnExactWindowsYoungRow : OpenClaim := { program := "ytgendnkemdcjeaa", sum := "2c7426276a93bf47a84129a59b3ea7ec7dbc2c03219afdc99f2c7359b59742cf", func := "loop.example/icecores/laws.FnExactWindowsYoung", spec := "fnExactWindowsYoung", apart := false }
def FnExactWindowsYoungSaid : Prop := fnExactWindowsYoungRow.holds Try.pinned (OpenSpec.ofChange fnExactWindowsYoungSpec)

/-- ITS FALSE NEIGHBOUR: 'it returns false'. Refute it at one input. -/
def fnExactWindowsYoungWrong : ChangeSpec := { name := "fnExactWindowsYoung", fn := fun _ => fun
  | [d1, d2] => { results := [.lit (.bool false)], args := [d1, d2] }
  | _ => none }
def FnExactWindowsYoungWrongFalsely : Prop := fnExactWindowsYoungRow.holds Try.pinned (OpenSpec.ofChange fnExactWindowsYoungWrong)

/-- 'laws.FnFit': WHATEVER THE INPUT: true; the input reads as it did. -/
def fnFitSpec : ChangeSpec := { name := "fnFit", fn := fun _ => fun
  | [d] => { results := [.lit (.bool true)], args := [d] }
  | _ => none }
def fnFitRow : OpenClaim := { program := "ytgendnkemdcjeaa", sum := "2c7426276a93bf47a84129a59b3ea7ec7dbc2c03219afdc99f2c7359b59742cf", func := "loop.example/icecores/laws.FnFit", spec := "fnFit", apart := false }
def FnFitSaid : Prop := fnFitRow.holds Try.pinned (OpenSpec.ofChange fnFitSpec)

/-- ITS FALSE NEIGHBOUR: 'it returns false'. Refute it at one input. -/
def fnFitWrong : ChangeSpec := { name := "fnFit", fn := fun _ => fun
  | [d] => { results := [.lit (.bool false)], args := [d] }
  | _ => none }
def FnFitWrongFalsely : Prop := fnFitRow.holds Try.pinned (OpenSpec.ofChange fnFitWrong)

/-- 'laws.FnFitOrder': WHATEVER THE INPUT: true; the input reads as it did. -/
def fnFitOrderSpec : ChangeSpec := { name := "fnFitOrder", fn := fun _ => fun
  | [d] => { results := [.lit (.bool true)], args := [d] }
  | _ => none }
def fnFitOrderRow : OpenClaim := { program := "ytgendnkemdcjeaa", sum := "2c7426276a93bf47a84129a59b3ea7ec7dbc2c03219afdc99f2c7359b59742cf", func := "loop.example/icecores/laws.FnFitOrder", spec := "fnFitOrder", apart := false }
def FnFitOrderSaid : Prop := fnFitOrderRow.holds Try.pinned (OpenSpec.ofChange fnFitOrderSpec)

/-- ITS FALSE NEIGHBOUR: 'it returns false'. Refute it at one input. -/
def fnFitOrderWrong : ChangeSpec := { name := "fnFitOrder", fn := fun _ => fun
  | [d] => { results := [.lit (.bool false)], args := [d] }
  | _ => none }
def FnFitOrderWrongFalsely : Prop := fnFitOrderRow.holds Try.pinned (OpenSpec.ofChange fnFitOrderWrong)

/- THE SECOND FORM. 'bulk': how many values and letters a reading holds, each counted each time it is reached (what is shared counts as often as it is met; a slice's spare places count too). A statement '..UptoSaid' is the law's where the arguments, and the package variables that the reading takes, are together of bulk at most 1048576: NARROWER than '..Said'. Prove '..Said' where nothing that the law and all that it calls make is longer than what came in: it says more and counts as full. Else prove '..UptoSaid'. A law counts once. -/
mutual
def uptoBulk {H : Type} : DataW H → Nat
  | .lit (.string bytes) => bytes.length + 1
  | .lit _ => 1
  | .nil => 1
  | .ptr d => uptoBulk d + 1
  | .slice elems spare => uptoBulkAll elems + uptoBulkAll spare + 1
  | .agg parts => uptoBulkAll parts + 1
  | .iface _ d => uptoBulk d + 1
  | .map entries => uptoBulkEntries entries + 1
  | .held _ => 1
def uptoBulkAll {H : Type} : List (DataW H) → Nat
  | [] => 0
  | d :: r => uptoBulk d + uptoBulkAll r
def uptoBulkEntries {H : Type} : List (Lit × DataW H) → Nat
  | [] => 0
  | x :: r => uptoBulkEntry x + uptoBulkEntries r
def uptoBulkEntry {H : Type} : Lit × DataW H → Nat
  | (.string bytes, d) => bytes.length + uptoBulk d + 1
  | (_, d) => uptoBulk d + 1
 end
def uptoSmall : (H : Type) → List (DataW H) → Bool := fun _ ds => decide (uptoBulkAll ds ≤ 1048576)
def OpenSpec.upto (s : _root_.Go.ChangeSpec) : _root_.Go.OpenSpec := { _root_.Go.OpenSpec.ofChange s with cond := some uptoSmall }

/-- 'laws.FnExactWindowsFit', WHERE WHAT IT READS IS OF BULK AT MOST 1048576: true; the input reads as it did. -/
def fnExactWindowsFitUptoRow : OpenClaim := { program := "ytgendnkemdcjeaa", sum := "2c7426276a93bf47a84129a59b3ea7ec7dbc2c03219afdc99f2c7359b59742cf", func := "loop.example/icecores/laws.FnExactWindowsFit", spec := "fnExactWindowsFit", apart := false, narrowed := true }
def FnExactWindowsFitUptoSaid : Prop := fnExactWindowsFitUptoRow.holds Try.pinned (OpenSpec.upto fnExactWindowsFitSpec)

/-- 'laws.FnFitPrefix', WHERE WHAT IT READS IS OF BULK AT MOST 1048576: true; the input reads as it did. -/
def fnFitPrefixUptoRow : OpenClaim := { program := "ytgendnkemdcjeaa", sum := "2c7426276a93bf47a84129a59b3ea7ec7dbc2c03219afdc99f2c7359b59742cf", func := "loop.example/icecores/laws.FnFitPrefix", spec := "fnFitPrefix", apart := false, narrowed := true }
def FnFitPrefixUptoSaid : Prop := fnFitPrefixUptoRow.holds Try.pinned (OpenSpec.upto fnFitPrefixSpec)

/-- 'laws.FnOld', WHERE WHAT IT READS IS OF BULK AT MOST 1048576: true; the input reads as it did. -/
def fnOldUptoRow : OpenClaim := { program := "ytgendnkemdcjeaa", sum := "2c7426276a93bf47a84129a59b3ea7ec7dbc2c03219afdc99f2c7359b59742cf", func := "loop.example/icecores/laws.FnOld", spec := "fnOld", apart := false, narrowed := true }
def FnOldUptoSaid : Prop := fnOldUptoRow.holds Try.pinned (OpenSpec.upto fnOldSpec)

/-- 'laws.FnYoung', WHERE WHAT IT READS IS OF BULK AT MOST 1048576: true; the input reads as it did. -/
def fnYoungUptoRow : OpenClaim := { program := "ytgendnkemdcjeaa", sum := "2c7426276a93bf47a84129a59b3ea7ec7dbc2c03219afdc99f2c7359b59742cf", func := "loop.example/icecores/laws.FnYoung", spec := "fnYoung", apart := false, narrowed := true }
def FnYoungUptoSaid : Prop := fnYoungUptoRow.holds Try.pinned (OpenSpec.upto fnYoungSpec)

/-- 'laws.FnExactWindowsOld', WHERE WHAT IT READS IS OF BULK AT MOST 1048576: true; the input reads as it did. -/
def fnExactWindowsOldUptoRow : OpenClaim := { program := "ytgendnkemdcjeaa", sum := "2c7426276a93bf47a84129a59b3ea7ec7dbc2c03219afdc99f2c7359b59742cf", func := "loop.example/icecores/laws.FnExactWindowsOld", spec := "fnExactWindowsOld", apart := false, narrowed := true }
def FnExactWindowsOldUptoSaid : Prop := fnExactWindowsOldUptoRow.holds Try.pinned (OpenSpec.upto fnExactWindowsOldSpec)

/-- 'laws.FnExactWindowsYoung', WHERE WHAT IT READS IS OF BULK AT MOST 1048576: true; the input reads as it did. -/
def fnExactWindowsYoungUptoRow : OpenClaim := { program := "ytgendnkemdcjeaa", sum := "2c7426276a93bf47a84129a59b3ea7ec7dbc2c03219afdc99f2c7359b59742cf", func := "loop.example/icecores/laws.FnExactWindowsYoung", spec := "fnExactWindowsYoung", apart := false, narrowed := true }
def FnExactWindowsYoungUptoSaid : Prop := fnExactWindowsYoungUptoRow.holds Try.pinned (OpenSpec.upto fnExactWindowsYoungSpec)

/-- 'laws.FnFit', WHERE WHAT IT READS IS OF BULK AT MOST 1048576: true; the input reads as it did. -/
def fnFitUptoRow : OpenClaim := { program := "ytgendnkemdcjeaa", sum := "2c7426276a93bf47a84129a59b3ea7ec7dbc2c03219afdc99f2c7359b59742cf", func := "loop.example/icecores/laws.FnFit", spec := "fnFit", apart := false, narrowed := true }
def FnFitUptoSaid : Prop := fnFitUptoRow.holds Try.pinned (OpenSpec.upto fnFitSpec)

/-- 'laws.FnFitOrder', WHERE WHAT IT READS IS OF BULK AT MOST 1048576: true; the input reads as it did. -/
def fnFitOrderUptoRow : OpenClaim := { program := "ytgendnkemdcjeaa", sum := "2c7426276a93bf47a84129a59b3ea7ec7dbc2c03219afdc99f2c7359b59742cf", func := "loop.example/icecores/laws.FnFitOrder", spec := "fnFitOrder", apart := false, narrowed := true }
def FnFitOrderUptoSaid : Prop := fnFitOrderUptoRow.holds Try.pinned (OpenSpec.upto fnFitOrderSpec)

end Rows
end Go.Proofs.Ytgendnkemdcjeaa
