/-
  No cell of these rows narrows 'for every input' (looked for: loops, veiled, ifaces, maps, wideKeys, modest, calm, conditions, laid).
  DERIVED. THE GIVEN ROWS OF THIS SEAT. 14 by the template 'for every input the law returns true; each argument reads behind the call as it read before'; 0 by the template 'total and deterministic' (their statements: YtkblbppemjnpdaaTotals.lean).
  GIVEN WITH THE SEED: the statements are not yours to turn. If you find one false, say at which input.
  Laid BY PROGRAM, IN A SANDBOX (cutbox-rows.mjs): the forced cells as the released guide's own fill.sh prints them over the translation 0f8a0a4245cac72f… (all of the seat's roots in one cut). By AI agents, Wed Nov 11 2026. No macro, syntax, notation, axiom, sorry.
-/
import Derived.Test.YtkblbppemjnpdaaChecked
import GoSem.Claim
import GoSem.ClaimJoined
import GoSem.ClaimMapViews
import Derived.JoinedTies
import Derived.KernelRfl
namespace Go.Proofs.Ytkblbppemjnpdaa
/- THE CELL 'sum', in the pinned program and in every row, IS THE sha256 OF THE DUMP (.gsa) THAT YtkblbppemjnpdaaProg.lean LOADS. Nothing in Lean hashes anything: it is a label: what it is worth is what the hold of that sum in a sandbox is worth. -/
noncomputable def Try.pinned : Pinned := { name := "ytkblbppemjnpdaa", sum := "0f8a0a4245cac72f988894bf0bd43c8b8b065e4a0651cb3f191dc30c1febdb3c", checked := Try.checked }
namespace Rows
def none {H : Type} : Left H := { results := [], args := [] }

/-- 'laws.FnExactWaterValid': WHATEVER THE INPUT: true; the input reads as it did. -/
def fnExactWaterValidSpec : ChangeSpec := { name := "fnExactWaterValid", fn := fun _ => fun
  | [d] => { results := [.lit (.bool true)], args := [d] }
  | _ => none }
def fnExactWaterValidRow : OpenClaim := { program := "ytkblbppemjnpdaa", sum := "0f8a0a4245cac72f988894bf0bd43c8b8b065e4a0651cb3f191dc30c1febdb3c", func := "loop.example/icecores/laws.FnExactWaterValid", spec := "fnExactWaterValid", apart := false }
def FnExactWaterValidSaid : Prop := fnExactWaterValidRow.holds Try.pinned (OpenSpec.ofChange fnExactWaterValidSpec)

/-- ITS FALSE NEIGHBOUR: 'it returns false'. Refute it at one input. -/
def fnExactWaterValidWrong : ChangeSpec := { name := "fnExactWaterValid", fn := fun _ => fun
  | [d] => { results := [.lit (.bool false)], args := [d] }
  | _ => none }
def FnExactWaterValidWrongFalsely : Prop := fnExactWaterValidRow.holds Try.pinned (OpenSpec.ofChange fnExactWaterValidWrong)

/-- 'laws.FnWater': WHATEVER THE INPUT: true; the input reads as it did. -/
def fnWaterSpec : ChangeSpec := { name := "fnWater", fn := fun _ => fun
  | [d] => { results := [.lit (.bool true)], args := [d] }
  | _ => none }
def fnWaterRow : OpenClaim := { program := "ytkblbppemjnpdaa", sum := "0f8a0a4245cac72f988894bf0bd43c8b8b065e4a0651cb3f191dc30c1febdb3c", func := "loop.example/icecores/laws.FnWater", spec := "fnWater", apart := false }
def FnWaterSaid : Prop := fnWaterRow.holds Try.pinned (OpenSpec.ofChange fnWaterSpec)

/-- ITS FALSE NEIGHBOUR: 'it returns false'. Refute it at one input. -/
def fnWaterWrong : ChangeSpec := { name := "fnWater", fn := fun _ => fun
  | [d] => { results := [.lit (.bool false)], args := [d] }
  | _ => none }
def FnWaterWrongFalsely : Prop := fnWaterRow.holds Try.pinned (OpenSpec.ofChange fnWaterWrong)

/-- 'laws.FnExactWaterMix': WHATEVER THE INPUT: true; the input reads as it did. -/
def fnExactWaterMixSpec : ChangeSpec := { name := "fnExactWaterMix", fn := fun _ => fun
  | [d] => { results := [.lit (.bool true)], args := [d] }
  | _ => none }
def fnExactWaterMixRow : OpenClaim := { program := "ytkblbppemjnpdaa", sum := "0f8a0a4245cac72f988894bf0bd43c8b8b065e4a0651cb3f191dc30c1febdb3c", func := "loop.example/icecores/laws.FnExactWaterMix", spec := "fnExactWaterMix", apart := false }
def FnExactWaterMixSaid : Prop := fnExactWaterMixRow.holds Try.pinned (OpenSpec.ofChange fnExactWaterMixSpec)

/-- ITS FALSE NEIGHBOUR: 'it returns false'. Refute it at one input. -/
def fnExactWaterMixWrong : ChangeSpec := { name := "fnExactWaterMix", fn := fun _ => fun
  | [d] => { results := [.lit (.bool false)], args := [d] }
  | _ => none }
def FnExactWaterMixWrongFalsely : Prop := fnExactWaterMixRow.holds Try.pinned (OpenSpec.ofChange fnExactWaterMixWrong)

/-- 'laws.FnMixAmount': WHATEVER THE INPUT: true; the input reads as it did. -/
def fnMixAmountSpec : ChangeSpec := { name := "fnMixAmount", fn := fun _ => fun
  | [d] => { results := [.lit (.bool true)], args := [d] }
  | _ => none }
def fnMixAmountRow : OpenClaim := { program := "ytkblbppemjnpdaa", sum := "0f8a0a4245cac72f988894bf0bd43c8b8b065e4a0651cb3f191dc30c1febdb3c", func := "loop.example/icecores/laws.FnMixAmount", spec := "fnMixAmount", apart := false }
def FnMixAmountSaid : Prop := fnMixAmountRow.holds Try.pinned (OpenSpec.ofChange fnMixAmountSpec)

/-- ITS FALSE NEIGHBOUR: 'it returns false'. Refute it at one input. -/
def fnMixAmountWrong : ChangeSpec := { name := "fnMixAmount", fn := fun _ => fun
  | [d] => { results := [.lit (.bool false)], args := [d] }
  | _ => none }
def FnMixAmountWrongFalsely : Prop := fnMixAmountRow.holds Try.pinned (OpenSpec.ofChange fnMixAmountWrong)

/-- 'laws.FnMixParts': WHATEVER THE INPUT: true; the input reads as it did. -/
def fnMixPartsSpec : ChangeSpec := { name := "fnMixParts", fn := fun _ => fun
  | [d1, d2] => { results := [.lit (.bool true)], args := [d1, d2] }
  | _ => none }
def fnMixPartsRow : OpenClaim := { program := "ytkblbppemjnpdaa", sum := "0f8a0a4245cac72f988894bf0bd43c8b8b065e4a0651cb3f191dc30c1febdb3c", func := "loop.example/icecores/laws.FnMixParts", spec := "fnMixParts", apart := false }
def FnMixPartsSaid : Prop := fnMixPartsRow.holds Try.pinned (OpenSpec.ofChange fnMixPartsSpec)

/-- ITS FALSE NEIGHBOUR: 'it returns false'. Refute it at one input. -/
def fnMixPartsWrong : ChangeSpec := { name := "fnMixParts", fn := fun _ => fun
  | [d1, d2] => { results := [.lit (.bool false)], args := [d1, d2] }
  | _ => none }
def FnMixPartsWrongFalsely : Prop := fnMixPartsRow.holds Try.pinned (OpenSpec.ofChange fnMixPartsWrong)

/-- 'laws.FnExactWaterRatio': WHATEVER THE INPUT: true; the input reads as it did. -/
def fnExactWaterRatioSpec : ChangeSpec := { name := "fnExactWaterRatio", fn := fun _ => fun
  | [d] => { results := [.lit (.bool true)], args := [d] }
  | _ => none }
def fnExactWaterRatioRow : OpenClaim := { program := "ytkblbppemjnpdaa", sum := "0f8a0a4245cac72f988894bf0bd43c8b8b065e4a0651cb3f191dc30c1febdb3c", func := "loop.example/icecores/laws.FnExactWaterRatio", spec := "fnExactWaterRatio", apart := false }
def FnExactWaterRatioSaid : Prop := fnExactWaterRatioRow.holds Try.pinned (OpenSpec.ofChange fnExactWaterRatioSpec)

/-- ITS FALSE NEIGHBOUR: 'it returns false'. Refute it at one input. -/
def fnExactWaterRatioWrong : ChangeSpec := { name := "fnExactWaterRatio", fn := fun _ => fun
  | [d] => { results := [.lit (.bool false)], args := [d] }
  | _ => none }
def FnExactWaterRatioWrongFalsely : Prop := fnExactWaterRatioRow.holds Try.pinned (OpenSpec.ofChange fnExactWaterRatioWrong)

/-- 'laws.FnExactWaterDelta': WHATEVER THE INPUT: true; the input reads as it did. -/
def fnExactWaterDeltaSpec : ChangeSpec := { name := "fnExactWaterDelta", fn := fun _ => fun
  | [d1, d2] => { results := [.lit (.bool true)], args := [d1, d2] }
  | _ => none }
def fnExactWaterDeltaRow : OpenClaim := { program := "ytkblbppemjnpdaa", sum := "0f8a0a4245cac72f988894bf0bd43c8b8b065e4a0651cb3f191dc30c1febdb3c", func := "loop.example/icecores/laws.FnExactWaterDelta", spec := "fnExactWaterDelta", apart := false }
def FnExactWaterDeltaSaid : Prop := fnExactWaterDeltaRow.holds Try.pinned (OpenSpec.ofChange fnExactWaterDeltaSpec)

/-- ITS FALSE NEIGHBOUR: 'it returns false'. Refute it at one input. -/
def fnExactWaterDeltaWrong : ChangeSpec := { name := "fnExactWaterDelta", fn := fun _ => fun
  | [d1, d2] => { results := [.lit (.bool false)], args := [d1, d2] }
  | _ => none }
def FnExactWaterDeltaWrongFalsely : Prop := fnExactWaterDeltaRow.holds Try.pinned (OpenSpec.ofChange fnExactWaterDeltaWrong)

/-- 'laws.FnRatioTwice': WHATEVER THE INPUT: true; the input reads as it did. -/
def fnRatioTwiceSpec : ChangeSpec := { name := "fnRatioTwice", fn := fun _ => fun
  | [d] => { results := [.lit (.bool true)], args := [d] }
  | _ => none }
def fnRatioTwiceRow : OpenClaim := { program := "ytkblbppemjnpdaa", sum := "0f8a0a4245cac72f988894bf0bd43c8b8b065e4a0651cb3f191dc30c1febdb3c", func := "loop.example/icecores/laws.FnRatioTwice", spec := "fnRatioTwice", apart := false }
def FnRatioTwiceSaid : Prop := fnRatioTwiceRow.holds Try.pinned (OpenSpec.ofChange fnRatioTwiceSpec)

/-- ITS FALSE NEIGHBOUR: 'it returns false'. Refute it at one input. -/
def fnRatioTwiceWrong : ChangeSpec := { name := "fnRatioTwice", fn := fun _ => fun
  | [d] => { results := [.lit (.bool false)], args := [d] }
  | _ => none }
def FnRatioTwiceWrongFalsely : Prop := fnRatioTwiceRow.holds Try.pinned (OpenSpec.ofChange fnRatioTwiceWrong)

/-- 'laws.FnMixSame': WHATEVER THE INPUT: true; the input reads as it did. -/
def fnMixSameSpec : ChangeSpec := { name := "fnMixSame", fn := fun _ => fun
  | [d1, d2] => { results := [.lit (.bool true)], args := [d1, d2] }
  | _ => none }
def fnMixSameRow : OpenClaim := { program := "ytkblbppemjnpdaa", sum := "0f8a0a4245cac72f988894bf0bd43c8b8b065e4a0651cb3f191dc30c1febdb3c", func := "loop.example/icecores/laws.FnMixSame", spec := "fnMixSame", apart := false }
def FnMixSameSaid : Prop := fnMixSameRow.holds Try.pinned (OpenSpec.ofChange fnMixSameSpec)

/-- ITS FALSE NEIGHBOUR: 'it returns false'. Refute it at one input. -/
def fnMixSameWrong : ChangeSpec := { name := "fnMixSame", fn := fun _ => fun
  | [d1, d2] => { results := [.lit (.bool false)], args := [d1, d2] }
  | _ => none }
def FnMixSameWrongFalsely : Prop := fnMixSameRow.holds Try.pinned (OpenSpec.ofChange fnMixSameWrong)

/-- 'laws.FnExactWaterSteps': WHATEVER THE INPUT: true; the input reads as it did. -/
def fnExactWaterStepsSpec : ChangeSpec := { name := "fnExactWaterSteps", fn := fun _ => fun
  | [d1, d2, d3] => { results := [.lit (.bool true)], args := [d1, d2, d3] }
  | _ => none }
def fnExactWaterStepsRow : OpenClaim := { program := "ytkblbppemjnpdaa", sum := "0f8a0a4245cac72f988894bf0bd43c8b8b065e4a0651cb3f191dc30c1febdb3c", func := "loop.example/icecores/laws.FnExactWaterSteps", spec := "fnExactWaterSteps", apart := false }
def FnExactWaterStepsSaid : Prop := fnExactWaterStepsRow.holds Try.pinned (OpenSpec.ofChange fnExactWaterStepsSpec)

/-- ITS FALSE NEIGHBOUR: 'it returns false'. Refute it at one input. -/
def fnExactWaterStepsWrong : ChangeSpec := { name := "fnExactWaterSteps", fn := fun _ => fun
  | [d1, d2, d3] => { results := [.lit (.bool false)], args := [d1, d2, d3] }
  | _ => none }
def FnExactWaterStepsWrongFalsely : Prop := fnExactWaterStepsRow.holds Try.pinned (OpenSpec.ofChange fnExactWaterStepsWrong)

/-- 'laws.FnRatioEnds': WHATEVER THE INPUT: true; the input reads as it did. -/
def fnRatioEndsSpec : ChangeSpec := { name := "fnRatioEnds", fn := fun _ => fun
  | [d] => { results := [.lit (.bool true)], args := [d] }
  | _ => none }
def fnRatioEndsRow : OpenClaim := { program := "ytkblbppemjnpdaa", sum := "0f8a0a4245cac72f988894bf0bd43c8b8b065e4a0651cb3f191dc30c1febdb3c", func := "loop.example/icecores/laws.FnRatioEnds", spec := "fnRatioEnds", apart := false }
def FnRatioEndsSaid : Prop := fnRatioEndsRow.holds Try.pinned (OpenSpec.ofChange fnRatioEndsSpec)

/-- ITS FALSE NEIGHBOUR: 'it returns false'. Refute it at one input. -/
def fnRatioEndsWrong : ChangeSpec := { name := "fnRatioEnds", fn := fun _ => fun
  | [d] => { results := [.lit (.bool false)], args := [d] }
  | _ => none }
def FnRatioEndsWrongFalsely : Prop := fnRatioEndsRow.holds Try.pinned (OpenSpec.ofChange fnRatioEndsWrong)

/-- 'laws.FnMix': WHATEVER THE INPUT: true; the input reads as it did. -/
def fnMixSpec : ChangeSpec := { name := "fnMix", fn := fun _ => fun
  | [d] => { results := [.lit (.bool true)], args := [d] }
  | _ => none }
def fnMixRow : OpenClaim := { program := "ytkblbppemjnpdaa", sum := "0f8a0a4245cac72f988894bf0bd43c8b8b065e4a0651cb3f191dc30c1febdb3c", func := "loop.example/icecores/laws.FnMix", spec := "fnMix", apart := false }
def FnMixSaid : Prop := fnMixRow.holds Try.pinned (OpenSpec.ofChange fnMixSpec)

/-- ITS FALSE NEIGHBOUR: 'it returns false'. Refute it at one input. -/
def fnMixWrong : ChangeSpec := { name := "fnMix", fn := fun _ => fun
  | [d] => { results := [.lit (.bool false)], args := [d] }
  | _ => none }
def FnMixWrongFalsely : Prop := fnMixRow.holds Try.pinned (OpenSpec.ofChange fnMixWrong)

/-- 'laws.FnRatio': WHATEVER THE INPUT: true; the input reads as it did. -/
def fnRatioSpec : ChangeSpec := { name := "fnRatio", fn := fun _ => fun
  | [d] => { results := [.lit (.bool true)], args := [d] }
  | _ => none }
def fnRatioRow : OpenClaim := { program := "ytkblbppemjnpdaa", sum := "0f8a0a4245cac72f988894bf0bd43c8b8b065e4a0651cb3f191dc30c1febdb3c", func := "loop.example/icecores/laws.FnRatio", spec := "fnRatio", apart := false }
def FnRatioSaid : Prop := fnRatioRow.holds Try.pinned (OpenSpec.ofChange fnRatioSpec)

/-- ITS FALSE NEIGHBOUR: 'it returns false'. Refute it at one input. -/
def fnRatioWrong : ChangeSpec := { name := "fnRatio", fn := fun _ => fun
  | [d] => { results := [.lit (.bool false)], args := [d] }
  | _ => none }
def FnRatioWrongFalsely : Prop := fnRatioRow.holds Try.pinned (OpenSpec.ofChange fnRatioWrong)

/-- 'laws.FnExactWaterShare': WHATEVER THE INPUT: true; the input reads as it did. -/
def fnExactWaterShareSpec : ChangeSpec := { name := "fnExactWaterShare", fn := fun _ => fun
  | [d1, d2, d3] => { results := [.lit (.bool true)], args := [d1, d2, d3] }
  | _ => none }
def fnExactWaterShareRow : OpenClaim := { program := "ytkblbppemjnpdaa", sum := "0f8a0a4245cac72f988894bf0bd43c8b8b065e4a0651cb3f191dc30c1febdb3c", func := "loop.example/icecores/laws.FnExactWaterShare", spec := "fnExactWaterShare", apart := false }
def FnExactWaterShareSaid : Prop := fnExactWaterShareRow.holds Try.pinned (OpenSpec.ofChange fnExactWaterShareSpec)

/-- ITS FALSE NEIGHBOUR: 'it returns false'. Refute it at one input. -/
def fnExactWaterShareWrong : ChangeSpec := { name := "fnExactWaterShare", fn := fun _ => fun
  | [d1, d2, d3] => { results := [.lit (.bool false)], args := [d1, d2, d3] }
  | _ => none }
def FnExactWaterShareWrongFalsely : Prop := fnExactWaterShareRow.holds Try.pinned (OpenSpec.ofChange fnExactWaterShareWrong)

/- THE SECOND FORM. 'bulk': how many values and letters a reading holds, each counted each time it is reached (what is shared counts as often as it is met; a slice's spare places count too). A statement '..UptoSaid' is the law's where the arguments, and the package variables that the reading takes, are together of bulk at most 1048576: NARROWER than '..Said'. Prove '..Said' where nothing that the law and all that it calls make is longer than what came in: it says more and counts as full. Else prove '..UptoSaid'. A law counts once. -/
mutual
def uptoBulk {H : Type} : DataW H → Nat
  | .lit (.string bytes) => bytes.length + 1
  | .lit _ => 1
  | .nil => 1
  | .ptr d => uptoBulk d + 1
  | .slice elems spare => uptoBulkAll elems + uptoBulkAll spare + 1
  | .agg parts => uptoBulkAll parts + 1
  | .iface _ d => uptoBulk d + 1
  | .map entries => uptoBulkEntries entries + 1
  | .held _ => 1
def uptoBulkAll {H : Type} : List (DataW H) → Nat
  | [] => 0
  | d :: r => uptoBulk d + uptoBulkAll r
def uptoBulkEntries {H : Type} : List (Lit × DataW H) → Nat
  | [] => 0
  | x :: r => uptoBulkEntry x + uptoBulkEntries r
def uptoBulkEntry {H : Type} : Lit × DataW H → Nat
  | (.string bytes, d) => bytes.length + uptoBulk d + 1
  | (_, d) => uptoBulk d + 1
 end
def uptoSmall : (H : Type) → List (DataW H) → Bool := fun _ ds => decide (uptoBulkAll ds ≤ 1048576)
def OpenSpec.upto (s : _root_.Go.ChangeSpec) : _root_.Go.OpenSpec := { _root_.Go.OpenSpec.ofChange s with cond := some uptoSmall }

/-- 'laws.FnExactWaterValid', WHERE WHAT IT READS IS OF BULK AT MOST 1048576: true; the input reads as it did. -/
def fnExactWaterValidUptoRow : OpenClaim := { program := "ytkblbppemjnpdaa", sum := "0f8a0a4245cac72f988894bf0bd43c8b8b065e4a0651cb3f191dc30c1febdb3c", func := "loop.example/icecores/laws.FnExactWaterValid", spec := "fnExactWaterValid", apart := false, narrowed := true }
def FnExactWaterValidUptoSaid : Prop := fnExactWaterValidUptoRow.holds Try.pinned (OpenSpec.upto fnExactWaterValidSpec)

/-- 'laws.FnWater', WHERE WHAT IT READS IS OF BULK AT MOST 1048576: true; the input reads as it did. -/
def fnWaterUptoRow : OpenClaim := { program := "ytkblbppemjnpdaa", sum := "0f8a0a4245cac72f988894bf0bd43c8b8b065e4a0651cb3f191dc30c1febdb3c", func := "loop.example/icecores/laws.FnWater", spec := "fnWater", apart := false, narrowed := true }
def FnWaterUptoSaid : Prop := fnWaterUptoRow.holds Try.pinned (OpenSpec.upto fnWaterSpec)

/-- 'laws.FnExactWaterMix', WHERE WHAT IT READS IS OF BULK AT MOST 1048576: true; the input reads as it did. -/
def fnExactWaterMixUptoRow : OpenClaim := { program := "ytkblbppemjnpdaa", sum := "0f8a0a4245cac72f988894bf0bd43c8b8b065e4a0651cb3f191dc30c1febdb3c", func := "loop.example/icecores/laws.FnExactWaterMix", spec := "fnExactWaterMix", apart := false, narrowed := true }
def FnExactWaterMixUptoSaid : Prop := fnExactWaterMixUptoRow.holds Try.pinned (OpenSpec.upto fnExactWaterMixSpec)

/-- 'laws.FnMixAmount', WHERE WHAT IT READS IS OF BULK AT MOST 1048576: true; the input reads as it did. -/
def fnMixAmountUptoRow : OpenClaim := { program := "ytkblbppemjnpdaa", sum := "0f8a0a4245cac72f988894bf0bd43c8b8b065e4a0651cb3f191dc30c1febdb3c", func := "loop.example/icecores/laws.FnMixAmount", spec := "fnMixAmount", apart := false, narrowed := true }
def FnMixAmountUptoSaid : Prop := fnMixAmountUptoRow.holds Try.pinned (OpenSpec.upto fnMixAmountSpec)

/-- 'laws.FnMixParts', WHERE WHAT IT READS IS OF BULK AT MOST 1048576: true; the input reads as it did. -/
def fnMixPartsUptoRow : OpenClaim := { program := "ytkblbppemjnpdaa", sum := "0f8a0a4245cac72f988894bf0bd43c8b8b065e4a0651cb3f191dc30c1febdb3c", func := "loop.example/icecores/laws.FnMixParts", spec := "fnMixParts", apart := false, narrowed := true }
def FnMixPartsUptoSaid : Prop := fnMixPartsUptoRow.holds Try.pinned (OpenSpec.upto fnMixPartsSpec)

/-- 'laws.FnExactWaterRatio', WHERE WHAT IT READS IS OF BULK AT MOST 1048576: true; the input reads as it did. -/
def fnExactWaterRatioUptoRow : OpenClaim := { program := "ytkblbppemjnpdaa", sum := "0f8a0a4245cac72f988894bf0bd43c8b8b065e4a0651cb3f191dc30c1febdb3c", func := "loop.example/icecores/laws.FnExactWaterRatio", spec := "fnExactWaterRatio", apart := false, narrowed := true }
def FnExactWaterRatioUptoSaid : Prop := fnExactWaterRatioUptoRow.holds Try.pinned (OpenSpec.upto fnExactWaterRatioSpec)

/-- 'laws.FnExactWaterDelta', WHERE WHAT IT READS IS OF BULK AT MOST 1048576: true; the input reads as it did. -/
def fnExactWaterDeltaUptoRow : OpenClaim := { program := "ytkblbppemjnpdaa", sum := "0f8a0a4245cac72f988894bf0bd43c8b8b065e4a0651cb3f191dc30c1febdb3c", func := "loop.example/icecores/laws.FnExactWaterDelta", spec := "fnExactWaterDelta", apart := false, narrowed := true }
def FnExactWaterDeltaUptoSaid : Prop := fnExactWaterDeltaUptoRow.holds Try.pinned (OpenSpec.upto fnExactWaterDeltaSpec)

/-- 'laws.FnRatioTwice', WHERE WHAT IT READS IS OF BULK AT MOST 1048576: true; the input reads as it did. -/
def fnRatioTwiceUptoRow : OpenClaim := { program := "ytkblbppemjnpdaa", sum := "0f8a0a4245cac72f988894bf0bd43c8b8b065e4a0651cb3f191dc30c1febdb3c", func := "loop.example/icecores/laws.FnRatioTwice", spec := "fnRatioTwice", apart := false, narrowed := true }
def FnRatioTwiceUptoSaid : Prop := fnRatioTwiceUptoRow.holds Try.pinned (OpenSpec.upto fnRatioTwiceSpec)

/-- 'laws.FnMixSame', WHERE WHAT IT READS IS OF BULK AT MOST 1048576: true; the input reads as it did. -/
def fnMixSameUptoRow : OpenClaim := { program := "ytkblbppemjnpdaa", sum := "0f8a0a4245cac72f988894bf0bd43c8b8b065e4a0651cb3f191dc30c1febdb3c", func := "loop.example/icecores/laws.FnMixSame", spec := "fnMixSame", apart := false, narrowed := true }
def FnMixSameUptoSaid : Prop := fnMixSameUptoRow.holds Try.pinned (OpenSpec.upto fnMixSameSpec)

/-- 'laws.FnExactWaterSteps', WHERE WHAT IT READS IS OF BULK AT MOST 1048576: true; the input reads as it did. -/
def fnExactWaterStepsUptoRow : OpenClaim := { program := "ytkblbppemjnpdaa", sum := "0f8a0a4245cac72f988894bf0bd43c8b8b065e4a0651cb3f191dc30c1febdb3c", func := "loop.example/icecores/laws.FnExactWaterSteps", spec := "fnExactWaterSteps", apart := false, narrowed := true }
def FnExactWaterStepsUptoSaid : Prop := fnExactWaterStepsUptoRow.holds Try.pinned (OpenSpec.upto fnExactWaterStepsSpec)

/-- 'laws.FnRatioEnds', WHERE WHAT IT READS IS OF BULK AT MOST 1048576: true; the input reads as it did. -/
def fnRatioEndsUptoRow : OpenClaim := { program := "ytkblbppemjnpdaa", sum := "0f8a0a4245cac72f988894bf0bd43c8b8b065e4a0651cb3f191dc30c1febdb3c", func := "loop.example/icecores/laws.FnRatioEnds", spec := "fnRatioEnds", apart := false, narrowed := true }
def FnRatioEndsUptoSaid : Prop := fnRatioEndsUptoRow.holds Try.pinned (OpenSpec.upto fnRatioEndsSpec)

/-- 'laws.FnMix', WHERE WHAT IT READS IS OF BULK AT MOST 1048576: true; the input reads as it did. -/
def fnMixUptoRow : OpenClaim := { program := "ytkblbppemjnpdaa", sum := "0f8a0a4245cac72f988894bf0bd43c8b8b065e4a0651cb3f191dc30c1febdb3c", func := "loop.example/icecores/laws.FnMix", spec := "fnMix", apart := false, narrowed := true }
def FnMixUptoSaid : Prop := fnMixUptoRow.holds Try.pinned (OpenSpec.upto fnMixSpec)

/-- 'laws.FnRatio', WHERE WHAT IT READS IS OF BULK AT MOST 1048576: true; the input reads as it did. -/
def fnRatioUptoRow : OpenClaim := { program := "ytkblbppemjnpdaa", sum := "0f8a0a4245cac72f988894bf0bd43c8b8b065e4a0651cb3f191dc30c1febdb3c", func := "loop.example/icecores/laws.FnRatio", spec := "fnRatio", apart := false, narrowed := true }
def FnRatioUptoSaid : Prop := fnRatioUptoRow.holds Try.pinned (OpenSpec.upto fnRatioSpec)

/-- 'laws.FnExactWaterShare', WHERE WHAT IT READS IS OF BULK AT MOST 1048576: true; the input reads as it did. -/
def fnExactWaterShareUptoRow : OpenClaim := { program := "ytkblbppemjnpdaa", sum := "0f8a0a4245cac72f988894bf0bd43c8b8b065e4a0651cb3f191dc30c1febdb3c", func := "loop.example/icecores/laws.FnExactWaterShare", spec := "fnExactWaterShare", apart := false, narrowed := true }
def FnExactWaterShareUptoSaid : Prop := fnExactWaterShareUptoRow.holds Try.pinned (OpenSpec.upto fnExactWaterShareSpec)

end Rows
end Go.Proofs.Ytkblbppemjnpdaa
