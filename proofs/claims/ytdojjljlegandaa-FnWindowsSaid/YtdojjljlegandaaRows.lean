/-
  No cell of these rows narrows 'for every input' (looked for: loops, veiled, ifaces, maps, wideKeys, modest, calm, conditions, laid).
  DERIVED. THE GIVEN ROWS OF THIS SEAT. 10 by the template 'for every input the law returns true; each argument reads behind the call as it read before'; 0 by the template 'total and deterministic' (their statements: YtdojjljlegandaaTotals.lean).
  GIVEN WITH THE SEED: the statements are not yours to turn. If you find one false, say at which input.
  Laid BY PROGRAM, IN A SANDBOX (cutbox-rows.mjs): the forced cells as the released guide's own fill.sh prints them over the translation a28f82bb9c6ec984… (all of the seat's roots in one cut). By AI agents, Wed Nov 11 2026. No macro, syntax, notation, axiom, sorry.
-/
import Derived.Test.YtdojjljlegandaaChecked
import GoSem.Claim
import GoSem.ClaimJoined
import GoSem.ClaimMapViews
import Derived.JoinedTies
import Derived.KernelRfl
namespace Go.Proofs.Ytdojjljlegandaa
/- THE CELL 'sum', in the pinned program and in every row, IS THE sha256 OF THE DUMP (.gsa) THAT YtdojjljlegandaaProg.lean LOADS. Nothing in Lean hashes anything: it is a label: what it is worth is what the hold of that sum in a sandbox is worth. -/
noncomputable def Try.pinned : Pinned := { name := "ytdojjljlegandaa", sum := "a28f82bb9c6ec984e03414ef037ae4c96efad622fe2ce8a5d305d20bdab6c3a3", checked := Try.checked }
namespace Rows
def none {H : Type} : Left H := { results := [], args := [] }

/-- 'laws.FnExactWindowsValid': WHATEVER THE INPUT: true; the input reads as it did. -/
def fnExactWindowsValidSpec : ChangeSpec := { name := "fnExactWindowsValid", fn := fun _ => fun
  | [d1, d2] => { results := [.lit (.bool true)], args := [d1, d2] }
  | _ => none }
def fnExactWindowsValidRow : OpenClaim := { program := "ytdojjljlegandaa", sum := "a28f82bb9c6ec984e03414ef037ae4c96efad622fe2ce8a5d305d20bdab6c3a3", func := "loop.example/icecores/laws.FnExactWindowsValid", spec := "fnExactWindowsValid", apart := false }
def FnExactWindowsValidSaid : Prop := fnExactWindowsValidRow.holds Try.pinned (OpenSpec.ofChange fnExactWindowsValidSpec)

/-- ITS FALSE NEIGHBOUR: 'it returns false'. Refute it at one input. -/
def fnExactWindowsValidWrong : ChangeSpec := { name := "fnExactWindowsValid", fn := fun _ => fun
  | [d1, d2] => { results := [.lit (.bool false)], args := [d1, d2] }
  | _ => none }
def FnExactWindowsValidWrongFalsely : Prop := fnExactWindowsValidRow.holds Try.pinned (OpenSpec.ofChange fnExactWindowsValidWrong)

/-- 'laws.FnWindows': WHATEVER THE INPUT: true; the input reads as it did. -/
def fnWindowsSpec : ChangeSpec := { name := "fnWindows", fn := fun _ => fun
  | [d1, d2] => { results := [.lit (.bool true)], args := [d1, d2] }
  | _ => none }
def fnWindowsRow : OpenClaim := { program := "ytdojjljlegandaa", sum := "a28f82bb9c6ec984e03414ef037ae4c96efad622fe2ce8a5d305d20bdab6c3a3", func := "loop.example/icecores/laws.FnWindows", spec := "fnWindows", apart := false }
def FnWindowsSaid : Prop := fnWindowsRow.holds Try.pinned (OpenSpec.ofChange fnWindowsSpec)

/-- ITS FALSE NEIGHBOUR: 'it returns false'. Refute it at one input. -/
def fnWindowsWrong : ChangeSpec := { name := "fnWindows", fn := fun _ => fun
  | [d1, d2] => { results := [.lit (.bool false)], args := [d1, d2] }
  | _ => none }
def FnWindowsWrongFalsely : Prop := fnWindowsRow.holds Try.pinned (OpenSpec.ofChange fnWindowsWrong)

/-- 'laws.FnTight': WHATEVER THE INPUT: true; the input reads as it did. -/
def fnTightSpec : ChangeSpec := { name := "fnTight", fn := fun _ => fun
  | [d] => { results := [.lit (.bool true)], args := [d] }
  | _ => none }
def fnTightRow : OpenClaim := { program := "ytdojjljlegandaa", sum := "a28f82bb9c6ec984e03414ef037ae4c96efad622fe2ce8a5d305d20bdab6c3a3", func := "loop.example/icecores/laws.FnTight", spec := "fnTight", apart := false }
def FnTightSaid : Prop := fnTightRow.holds Try.pinned (OpenSpec.ofChange fnTightSpec)

/-- ITS FALSE NEIGHBOUR: 'it returns false'. Refute it at one input. -/
def fnTightWrong : ChangeSpec := { name := "fnTight", fn := fun _ => fun
  | [d] => { results := [.lit (.bool false)], args := [d] }
  | _ => none }
def FnTightWrongFalsely : Prop := fnTightRow.holds Try.pinned (OpenSpec.ofChange fnTightWrong)

/-- 'laws.FnTightAny': WHATEVER THE INPUT: true; the input reads as it did. -/
def fnTightAnySpec : ChangeSpec := { name := "fnTightAny", fn := fun _ => fun
  | [d1, d2] => { results := [.lit (.bool true)], args := [d1, d2] }
  | _ => none }
def fnTightAnyRow : OpenClaim := { program := "ytdojjljlegandaa", sum := "a28f82bb9c6ec984e03414ef037ae4c96efad622fe2ce8a5d305d20bdab6c3a3", func := "loop.example/icecores/laws.FnTightAny", spec := "fnTightAny", apart := false }
def FnTightAnySaid : Prop := fnTightAnyRow.holds Try.pinned (OpenSpec.ofChange fnTightAnySpec)

/-- ITS FALSE NEIGHBOUR: 'it returns false'. Refute it at one input. -/
def fnTightAnyWrong : ChangeSpec := { name := "fnTightAny", fn := fun _ => fun
  | [d1, d2] => { results := [.lit (.bool false)], args := [d1, d2] }
  | _ => none }
def FnTightAnyWrongFalsely : Prop := fnTightAnyRow.holds Try.pinned (OpenSpec.ofChange fnTightAnyWrong)

/-- 'laws.FnTightFirst': WHATEVER THE INPUT: true; the input reads as it did. -/
def fnTightFirstSpec : ChangeSpec := { name := "fnTightFirst", fn := fun _ => fun
  | [d1, d2] => { results := [.lit (.bool true)], args := [d1, d2] }
  | _ => none }
def fnTightFirstRow : OpenClaim := { program := "ytdojjljlegandaa", sum := "a28f82bb9c6ec984e03414ef037ae4c96efad622fe2ce8a5d305d20bdab6c3a3", func := "loop.example/icecores/laws.FnTightFirst", spec := "fnTightFirst", apart := false }
def FnTightFirstSaid : Prop := fnTightFirstRow.holds Try.pinned (OpenSpec.ofChange fnTightFirstSpec)

/-- ITS FALSE NEIGHBOUR: 'it returns false'. Refute it at one input. -/
def fnTightFirstWrong : ChangeSpec := { name := "fnTightFirst", fn := fun _ => fun
  | [d1, d2] => { results := [.lit (.bool false)], args := [d1, d2] }
  | _ => none }
def FnTightFirstWrongFalsely : Prop := fnTightFirstRow.holds Try.pinned (OpenSpec.ofChange fnTightFirstWrong)

/-- 'laws.FnTightNone': WHATEVER THE INPUT: true; the input reads as it did. -/
def fnTightNoneSpec : ChangeSpec := { name := "fnTightNone", fn := fun _ => fun
  | [d1, d2] => { results := [.lit (.bool true)], args := [d1, d2] }
  | _ => none }
def fnTightNoneRow : OpenClaim := { program := "ytdojjljlegandaa", sum := "a28f82bb9c6ec984e03414ef037ae4c96efad622fe2ce8a5d305d20bdab6c3a3", func := "loop.example/icecores/laws.FnTightNone", spec := "fnTightNone", apart := false }
def FnTightNoneSaid : Prop := fnTightNoneRow.holds Try.pinned (OpenSpec.ofChange fnTightNoneSpec)

/-- ITS FALSE NEIGHBOUR: 'it returns false'. Refute it at one input. -/
def fnTightNoneWrong : ChangeSpec := { name := "fnTightNone", fn := fun _ => fun
  | [d1, d2] => { results := [.lit (.bool false)], args := [d1, d2] }
  | _ => none }
def FnTightNoneWrongFalsely : Prop := fnTightNoneRow.holds Try.pinned (OpenSpec.ofChange fnTightNoneWrong)

/-- 'laws.FnTightShift': WHATEVER THE INPUT: true; the input reads as it did. -/
def fnTightShiftSpec : ChangeSpec := { name := "fnTightShift", fn := fun _ => fun
  | [d] => { results := [.lit (.bool true)], args := [d] }
  | _ => none }
def fnTightShiftRow : OpenClaim := { program := "ytdojjljlegandaa", sum := "a28f82bb9c6ec984e03414ef037ae4c96efad622fe2ce8a5d305d20bdab6c3a3", func := "loop.example/icecores/laws.FnTightShift", spec := "fnTightShift", apart := false }
def FnTightShiftSaid : Prop := fnTightShiftRow.holds Try.pinned (OpenSpec.ofChange fnTightShiftSpec)

/-- ITS FALSE NEIGHBOUR: 'it returns false'. Refute it at one input. -/
def fnTightShiftWrong : ChangeSpec := { name := "fnTightShift", fn := fun _ => fun
  | [d] => { results := [.lit (.bool false)], args := [d] }
  | _ => none }
def FnTightShiftWrongFalsely : Prop := fnTightShiftRow.holds Try.pinned (OpenSpec.ofChange fnTightShiftWrong)

/-- 'laws.FnTightSteps': WHATEVER THE INPUT: true; the input reads as it did. -/
def fnTightStepsSpec : ChangeSpec := { name := "fnTightSteps", fn := fun _ => fun
  | [d1, d2] => { results := [.lit (.bool true)], args := [d1, d2] }
  | _ => none }
def fnTightStepsRow : OpenClaim := { program := "ytdojjljlegandaa", sum := "a28f82bb9c6ec984e03414ef037ae4c96efad622fe2ce8a5d305d20bdab6c3a3", func := "loop.example/icecores/laws.FnTightSteps", spec := "fnTightSteps", apart := false }
def FnTightStepsSaid : Prop := fnTightStepsRow.holds Try.pinned (OpenSpec.ofChange fnTightStepsSpec)

/-- ITS FALSE NEIGHBOUR: 'it returns false'. Refute it at one input. -/
def fnTightStepsWrong : ChangeSpec := { name := "fnTightSteps", fn := fun _ => fun
  | [d1, d2] => { results := [.lit (.bool false)], args := [d1, d2] }
  | _ => none }
def FnTightStepsWrongFalsely : Prop := fnTightStepsRow.holds Try.pinned (OpenSpec.ofChange fnTightStepsWrong)

/-- 'laws.FnTightWider': WHATEVER THE INPUT: true; the input reads as it did. -/
def fnTightWiderSpec : ChangeSpec := { name := "fnTightWider", fn := fun _ => fun
  | [d1, d2] => { results := [.lit (.bool true)], args := [d1, d2] }
  | _ => none }
def fnTightWiderRow : OpenClaim := { program := "ytdojjljlegandaa", sum := "a28f82bb9c6ec984e03414ef037ae4c96efad622fe2ce8a5d305d20bdab6c3a3", func := "loop.example/icecores/laws.FnTightWider", spec := "fnTightWider", apart := false }
def FnTightWiderSaid : Prop := fnTightWiderRow.holds Try.pinned (OpenSpec.ofChange fnTightWiderSpec)

/-- ITS FALSE NEIGHBOUR: 'it returns false'. Refute it at one input. -/
def fnTightWiderWrong : ChangeSpec := { name := "fnTightWider", fn := fun _ => fun
  | [d1, d2] => { results := [.lit (.bool false)], args := [d1, d2] }
  | _ => none }
def FnTightWiderWrongFalsely : Prop := fnTightWiderRow.holds Try.pinned (OpenSpec.ofChange fnTightWiderWrong)

/-- 'laws.FnExactWindowsTight': WHATEVER THE INPUT: true; the input reads as it did. -/
def fnExactWindowsTightSpec : ChangeSpec := { name := "fnExactWindowsTight", fn := fun _ => fun
  | [d1, d2] => { results := [.lit (.bool true)], args := [d1, d2] }
  | _ => none }
def fnExactWindowsTightRow : OpenClaim := { program := "ytdojjljlegandaa", sum := "a28f82bb9c6ec984e03414ef037ae4c96efad622fe2ce8a5d305d20bdab6c3a3", func := "loop.example/icecores/laws.FnExactWindowsTight", spec := "fnExactWindowsTight", apart := false }
def FnExactWindowsTightSaid : Prop := fnExactWindowsTightRow.holds Try.pinned (OpenSpec.ofChange fnExactWindowsTightSpec)

/-- ITS FALSE NEIGHBOUR: 'it returns false'. Refute it at one input. -/
def fnExactWindowsTightWrong : ChangeSpec := { name := "fnExactWindowsTight", fn := fun _ => fun
  | [d1, d2] => { results := [.lit (.bool false)], args := [d1, d2] }
  | _ => none }
def FnExactWindowsTightWrongFalsely : Prop := fnExactWindowsTightRow.holds Try.pinned (OpenSpec.ofChange fnExactWindowsTightWrong)

/- THE SECOND FORM. 'bulk': how many values and letters a reading holds, each counted each time it is reached (what is shared counts as often as it is met; a slice's spare places count too). A statement '..UptoSaid' is the law's where the arguments, and the package variables that the reading takes, are together of bulk at most 1048576: NARROWER than '..Said'. Prove '..Said' where nothing that the law and all that it calls make is longer than what came in: it says more and counts as full. Else prove '..UptoSaid'. A law counts once. -/
mutual
def uptoBulk {H : Type} : DataW H → Nat
  | .lit (.string bytes) => bytes.length + 1
  | .lit _ => 1
  | .nil => 1
  | .ptr d => uptoBulk d + 1
  | .slice elems spare => uptoBulkAll elems + uptoBulkAll spare + 1
  | .agg parts => uptoBulkAll parts + 1
  | .iface _ d => uptoBulk d + 1
  | .map entries => uptoBulkEntries entries + 1
  | .held _ => 1
def uptoBulkAll {H : Type} : List (DataW H) → Nat
  | [] => 0
  | d :: r => uptoBulk d + uptoBulkAll r
def uptoBulkEntries {H : Type} : List (Lit × DataW H) → Nat
  | [] => 0
  | x :: r => uptoBulkEntry x + uptoBulkEntries r
def uptoBulkEntry {H : Type} : Lit × DataW H → Nat
  | (.string bytes, d) => bytes.length + uptoBulk d + 1
  | (_, d) => uptoBulk d + 1
 end
def uptoSmall : (H : Type) → List (DataW H) → Bool := fun _ ds => decide (uptoBulkAll ds ≤ 1048576)
def OpenSpec.upto (s : _root_.Go.ChangeSpec) : _root_.Go.OpenSpec := { _root_.Go.OpenSpec.ofChange s with cond := some uptoSmall }

/-- 'laws.FnExactWindowsValid', WHERE WHAT IT READS IS OF BULK AT MOST 1048576: true; the input reads as it did. -/
def fnExactWindowsValidUptoRow : OpenClaim := { program := "ytdojjljlegandaa", sum := "a28f82bb9c6ec984e03414ef037ae4c96efad622fe2ce8a5d305d20bdab6c3a3", func := "loop.example/icecores/laws.FnExactWindowsValid", spec := "fnExactWindowsValid", apart := false, narrowed := true }
def FnExactWindowsValidUptoSaid : Prop := fnExactWindowsValidUptoRow.holds Try.pinned (OpenSpec.upto fnExactWindowsValidSpec)

/-- 'laws.FnWindows', WHERE WHAT IT READS IS OF BULK AT MOST 1048576: true; the input reads as it did. -/
def fnWindowsUptoRow : OpenClaim := { program := "ytdojjljlegandaa", sum := "a28f82bb9c6ec984e03414ef037ae4c96efad622fe2ce8a5d305d20bdab6c3a3", func := "loop.example/icecores/laws.FnWindows", spec := "fnWindows", apart := false, narrowed := true }
def FnWindowsUptoSaid : Prop := fnWindowsUptoRow.holds Try.pinned (OpenSpec.upto fnWindowsSpec)

/-- 'laws.FnTight', WHERE WHAT IT READS IS OF BULK AT MOST 1048576: true; the input reads as it did. -/
def fnTightUptoRow : OpenClaim := { program := "ytdojjljlegandaa", sum := "a28f82bb9c6ec984e03414ef037ae4c96efad622fe2ce8a5d305d20bdab6c3a3", func := "loop.example/icecores/laws.FnTight", spec := "fnTight", apart := false, narrowed := true }
def FnTightUptoSaid : Prop := fnTightUptoRow.holds Try.pinned (OpenSpec.upto fnTightSpec)

/-- 'laws.FnTightAny', WHERE WHAT IT READS IS OF BULK AT MOST 1048576: true; the input reads as it did. -/
def fnTightAnyUptoRow : OpenClaim := { program := "ytdojjljlegandaa", sum := "a28f82bb9c6ec984e03414ef037ae4c96efad622fe2ce8a5d305d20bdab6c3a3", func := "loop.example/icecores/laws.FnTightAny", spec := "fnTightAny", apart := false, narrowed := true }
def FnTightAnyUptoSaid : Prop := fnTightAnyUptoRow.holds Try.pinned (OpenSpec.upto fnTightAnySpec)

/-- 'laws.FnTightFirst', WHERE WHAT IT READS IS OF BULK AT MOST 1048576: true; the input reads as it did. -/
def fnTightFirstUptoRow : OpenClaim := { program := "ytdojjljlegandaa", sum := "a28f82bb9c6ec984e03414ef037ae4c96efad622fe2ce8a5d305d20bdab6c3a3", func := "loop.example/icecores/laws.FnTightFirst", spec := "fnTightFirst", apart := false, narrowed := true }
def FnTightFirstUptoSaid : Prop := fnTightFirstUptoRow.holds Try.pinned (OpenSpec.upto fnTightFirstSpec)

/-- 'laws.FnTightNone', WHERE WHAT IT READS IS OF BULK AT MOST 1048576: true; the input reads as it did. -/
def fnTightNoneUptoRow : OpenClaim := { program := "ytdojjljlegandaa", sum := "a28f82bb9c6ec984e03414ef037ae4c96efad622fe2ce8a5d305d20bdab6c3a3", func := "loop.example/icecores/laws.FnTightNone", spec := "fnTightNone", apart := false, narrowed := true }
def FnTightNoneUptoSaid : Prop := fnTightNoneUptoRow.holds Try.pinned (OpenSpec.upto fnTightNoneSpec)

/-- 'laws.FnTightShift', WHERE WHAT IT READS IS OF BULK AT MOST 1048576: true; the input reads as it did. -/
def fnTightShiftUptoRow : OpenClaim := { program := "ytdojjljlegandaa", sum := "a28f82bb9c6ec984e03414ef037ae4c96efad622fe2ce8a5d305d20bdab6c3a3", func := "loop.example/icecores/laws.FnTightShift", spec := "fnTightShift", apart := false, narrowed := true }
def FnTightShiftUptoSaid : Prop := fnTightShiftUptoRow.holds Try.pinned (OpenSpec.upto fnTightShiftSpec)

/-- 'laws.FnTightSteps', WHERE WHAT IT READS IS OF BULK AT MOST 1048576: true; the input reads as it did. -/
def fnTightStepsUptoRow : OpenClaim := { program := "ytdojjljlegandaa", sum := "a28f82bb9c6ec984e03414ef037ae4c96efad622fe2ce8a5d305d20bdab6c3a3", func := "loop.example/icecores/laws.FnTightSteps", spec := "fnTightSteps", apart := false, narrowed := true }
def FnTightStepsUptoSaid : Prop := fnTightStepsUptoRow.holds Try.pinned (OpenSpec.upto fnTightStepsSpec)

/-- 'laws.FnTightWider', WHERE WHAT IT READS IS OF BULK AT MOST 1048576: true; the input reads as it did. -/
def fnTightWiderUptoRow : OpenClaim := { program := "ytdojjljlegandaa", sum := "a28f82bb9c6ec984e03414ef037ae4c96efad622fe2ce8a5d305d20bdab6c3a3", func := "loop.example/icecores/laws.FnTightWider", spec := "fnTightWider", apart := false, narrowed := true }
def FnTightWiderUptoSaid : Prop := fnTightWiderUptoRow.holds Try.pinned (OpenSpec.upto fnTightWiderSpec)

/-- 'laws.FnExactWindowsTight', WHERE WHAT IT READS IS OF BULK AT MOST 1048576: true; the input reads as it did. -/
def fnExactWindowsTightUptoRow : OpenClaim := { program := "ytdojjljlegandaa", sum := "a28f82bb9c6ec984e03414ef037ae4c96efad622fe2ce8a5d305d20bdab6c3a3", func := "loop.example/icecores/laws.FnExactWindowsTight", spec := "fnExactWindowsTight", apart := false, narrowed := true }
def FnExactWindowsTightUptoSaid : Prop := fnExactWindowsTightUptoRow.holds Try.pinned (OpenSpec.upto fnExactWindowsTightSpec)

end Rows
end Go.Proofs.Ytdojjljlegandaa
