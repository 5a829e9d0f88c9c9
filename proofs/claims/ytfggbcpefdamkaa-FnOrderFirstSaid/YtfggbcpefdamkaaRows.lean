/-
  No cell of these rows narrows 'for every input' (looked for: loops, veiled, ifaces, maps, wideKeys, modest, calm, conditions, laid).
  DERIVED. THE GIVEN ROWS OF THIS SEAT. 4 by the template 'for every input the law returns true; each argument reads behind the call as it read before'; 0 by the template 'total and deterministic' (their statements: YtfggbcpefdamkaaTotals.lean).
  GIVEN WITH THE SEED: the statements are not yours to turn. If you find one false, say at which input.
  Laid BY PROGRAM, IN A SANDBOX (cutbox-rows.mjs): the forced cells as the released guide's own fill.sh prints them over the translation 675f925c0156315d… (all of the seat's roots in one cut). By AI agents, Wed Nov 11 2026. No macro, syntax, notation, axiom, sorry.
-/
import Derived.Test.YtfggbcpefdamkaaChecked
import GoSem.Claim
import GoSem.ClaimJoined
import GoSem.ClaimMapViews
import Derived.JoinedTies
import Derived.KernelRfl
namespace Go.Proofs.Ytfggbcpefdamkaa
/- THE CELL 'sum', in the pinned program and in every row, IS THE sha256 OF THE DUMP (.gsa) THAT YtfggbcpefdamkaaProg.lean LOADS. Nothing in Lean hashes anything: it is a label: what it is worth is what the hold of that sum in a sandbox is worth. -/
noncomputable def Try.pinned : Pinned := { name := "ytfggbcpefdamkaa", sum := "675f925c0156315db4caef5543feed51a4b0f35f06fc13fe792aa850ef113c80", checked := Try.checked }
namespace Rows
def none {H : Type} : Left H := { results := [], args := [] }

/-- 'laws.FnExactOrderNth': WHATEVER THE INPUT: true; the input reads as it did. -/
def fnExactOrderNthSpec : ChangeSpec := { name := "fnExactOrderNth", fn := fun _ => fun
  | [d1, d2, d3] => { results := [.lit (.bool true)], args := [d1, d2, d3] }
  | _ => none }
def fnExactOrderNthRow : OpenClaim := { program := "ytfggbcpefdamkaa", sum := "675f925c0156315db4caef5543feed51a4b0f35f06fc13fe792aa850ef113c80", func := "loop.example/icecores/laws.FnExactOrderNth", spec := "fnExactOrderNth", inPlace := ["internal/abi.NoEscape", "internal/bytealg.MakeNoZero"], apart := false }
def FnExactOrderNthSaid : Prop := fnExactOrderNthRow.holds Try.pinned (OpenSpec.ofChange fnExactOrderNthSpec)

/-- ITS FALSE NEIGHBOUR: 'it returns false'. Refute it at one input. -/
def fnExactOrderNthWrong : ChangeSpec := { name := "fnExactOrderNth", fn := fun _ => fun
  | [d1, d2, d3] => { results := [.lit (.bool false)], args := [d1, d2, d3] }
  | _ => none }
def FnExactOrderNthWrongFalsely : Prop := fnExactOrderNthRow.holds Try.pinned (OpenSpec.ofChange fnExactOrderNthWrong)

/-- 'laws.FnOrderFirst': WHATEVER THE INPUT: true; the input reads as it did. -/
def fnOrderFirstSpec : ChangeSpec := { name := "fnOrderFirst", fn := fun _ => fun
  | [d] => { results := [.lit (.bool true)], args := [d] }
  | _ => none }
def fnOrderFirstRow : OpenClaim := { program := "ytfggbcpefdamkaa", sum := "675f925c0156315db4caef5543feed51a4b0f35f06fc13fe792aa850ef113c80", func := "loop.example/icecores/laws.FnOrderFirst", spec := "fnOrderFirst", inPlace := ["internal/abi.NoEscape", "internal/bytealg.MakeNoZero"], apart := false }
def FnOrderFirstSaid : Prop := fnOrderFirstRow.holds Try.pinned (OpenSpec.ofChange fnOrderFirstSpec)

/-- ITS FALSE NEIGHBOUR: 'it returns false'. Refute it at one input. -/
def fnOrderFirstWrong : ChangeSpec := { name := "fnOrderFirst", fn := fun _ => fun
  | [d] => { results := [.lit (.bool false)], args := [d] }
  | _ => none }
def FnOrderFirstWrongFalsely : Prop := fnOrderFirstRow.holds Try.pinned (OpenSpec.ofChange fnOrderFirstWrong)

/-- 'laws.FnOrderNext': WHATEVER THE INPUT: true; the input reads as it did. -/
def fnOrderNextSpec : ChangeSpec := { name := "fnOrderNext", fn := fun _ => fun
  | [d] => { results := [.lit (.bool true)], args := [d] }
  | _ => none }
def fnOrderNextRow : OpenClaim := { program := "ytfggbcpefdamkaa", sum := "675f925c0156315db4caef5543feed51a4b0f35f06fc13fe792aa850ef113c80", func := "loop.example/icecores/laws.FnOrderNext", spec := "fnOrderNext", inPlace := ["internal/abi.NoEscape", "internal/bytealg.MakeNoZero"], apart := false }
def FnOrderNextSaid : Prop := fnOrderNextRow.holds Try.pinned (OpenSpec.ofChange fnOrderNextSpec)

/-- ITS FALSE NEIGHBOUR: 'it returns false'. Refute it at one input. -/
def fnOrderNextWrong : ChangeSpec := { name := "fnOrderNext", fn := fun _ => fun
  | [d] => { results := [.lit (.bool false)], args := [d] }
  | _ => none }
def FnOrderNextWrongFalsely : Prop := fnOrderNextRow.holds Try.pinned (OpenSpec.ofChange fnOrderNextWrong)

/-- 'laws.FnBetweenAll': WHATEVER THE INPUT: true; the input reads as it did. -/
def fnBetweenAllSpec : ChangeSpec := { name := "fnBetweenAll", fn := fun _ => fun
  | [d] => { results := [.lit (.bool true)], args := [d] }
  | _ => none }
def fnBetweenAllRow : OpenClaim := { program := "ytfggbcpefdamkaa", sum := "675f925c0156315db4caef5543feed51a4b0f35f06fc13fe792aa850ef113c80", func := "loop.example/icecores/laws.FnBetweenAll", spec := "fnBetweenAll", inPlace := ["internal/abi.NoEscape", "internal/bytealg.MakeNoZero"], apart := false }
def FnBetweenAllSaid : Prop := fnBetweenAllRow.holds Try.pinned (OpenSpec.ofChange fnBetweenAllSpec)

/-- ITS FALSE NEIGHBOUR: 'it returns false'. Refute it at one input. -/
def fnBetweenAllWrong : ChangeSpec := { name := "fnBetweenAll", fn := fun _ => fun
  | [d] => { results := [.lit (.bool false)], args := [d] }
  | _ => none }
def FnBetweenAllWrongFalsely : Prop := fnBetweenAllRow.holds Try.pinned (OpenSpec.ofChange fnBetweenAllWrong)

/- THE SECOND FORM. 'bulk': how many values and letters a reading holds, each counted each time it is reached (what is shared counts as often as it is met; a slice's spare places count too). A statement '..UptoSaid' is the law's where the arguments, and the package variables that the reading takes, are together of bulk at most 1048576: NARROWER than '..Said'. Prove '..Said' where nothing that the law and all that it calls make is longer than what came in: it says more and counts as full. Else prove '..UptoSaid'. A law counts once. -/
mutual
def uptoBulk {H : Type} : DataW H → Nat
  | .lit (.string bytes) => bytes.length + 1
  | .lit _ => 1
  | .nil => 1
  | .ptr d => uptoBulk d + 1
  | .slice elems spare => uptoBulkAll elems + uptoBulkAll spare + 1
  | .agg parts => uptoBulkAll parts + 1
  | .iface _ d => uptoBulk d + 1
  | .map entries => uptoBulkEntries entries + 1
  | .held _ => 1
def uptoBulkAll {H : Type} : List (DataW H) → Nat
  | [] => 0
  | d :: r => uptoBulk d + uptoBulkAll r
def uptoBulkEntries {H : Type} : List (Lit × DataW H) → Nat
  | [] => 0
  | x :: r => uptoBulkEntry x + uptoBulkEntries r
def uptoBulkEntry {H : Type} : Lit × DataW H → Nat
  | (.string bytes, d) => bytes.length + uptoBulk d + 1
  | (_, d) => uptoBulk d + 1
 end
def uptoSmall : (H : Type) → List (DataW H) → Bool := fun _ ds => decide (uptoBulkAll ds ≤ 1048576)
def OpenSpec.upto (s : _root_.Go.ChangeSpec) : _root_.Go.OpenSpec := { _root_.Go.OpenSpec.ofChange s with cond := some uptoSmall }

/-- 'laws.FnExactOrderNth', WHERE WHAT IT READS IS OF BULK AT MOST 1048576: true; the input reads as it did. -/
def fnExactOrderNthUptoRow : OpenClaim := { program := "ytfggbcpefdamkaa", sum := "675f925c0156315db4caef5543feed51a4b0f35f06fc13fe792aa850ef113c80", func := "loop.example/icecores/laws.FnExactOrderNth", spec := "fnExactOrderNth", inPlace := ["internal/abi.NoEscape", "internal/bytealg.MakeNoZero"], apart := false, narrowed := true }
def FnExactOrderNthUptoSaid : Prop := fnExactOrderNthUptoRow.holds Try.pinned (OpenSpec.upto fnExactOrderNthSpec)

/-- 'laws.FnOrderFirst', WHERE WHAT IT READS IS OF BULK AT MOST 1048576: true; the input reads as it did. -/
def fnOrderFirstUptoRow : OpenClaim := { program := "ytfggbcpefdamkaa", sum := "675f925c0156315db4caef5543feed51a4b0f35f06fc13fe792aa850ef113c80", func := "loop.example/icecores/laws.FnOrderFirst", spec := "fnOrderFirst", inPlace := ["internal/abi.NoEscape", "internal/bytealg.MakeNoZero"], apart := false, narrowed := true }
def FnOrderFirstUptoSaid : Prop := fnOrderFirstUptoRow.holds Try.pinned (OpenSpec.upto fnOrderFirstSpec)

/-- 'laws.FnOrderNext', WHERE WHAT IT READS IS OF BULK AT MOST 1048576: true; the input reads as it did. -/
def fnOrderNextUptoRow : OpenClaim := { program := "ytfggbcpefdamkaa", sum := "675f925c0156315db4caef5543feed51a4b0f35f06fc13fe792aa850ef113c80", func := "loop.example/icecores/laws.FnOrderNext", spec := "fnOrderNext", inPlace := ["internal/abi.NoEscape", "internal/bytealg.MakeNoZero"], apart := false, narrowed := true }
def FnOrderNextUptoSaid : Prop := fnOrderNextUptoRow.holds Try.pinned (OpenSpec.upto fnOrderNextSpec)

/-- 'laws.FnBetweenAll', WHERE WHAT IT READS IS OF BULK AT MOST 1048576: true; the input reads as it did. -/
def fnBetweenAllUptoRow : OpenClaim := { program := "ytfggbcpefdamkaa", sum := "675f925c0156315db4caef5543feed51a4b0f35f06fc13fe792aa850ef113c80", func := "loop.example/icecores/laws.FnBetweenAll", spec := "fnBetweenAll", inPlace := ["internal/abi.NoEscape", "internal/bytealg.MakeNoZero"], apart := false, narrowed := true }
def FnBetweenAllUptoSaid : Prop := fnBetweenAllUptoRow.holds Try.pinned (OpenSpec.upto fnBetweenAllSpec)

end Rows
end Go.Proofs.Ytfggbcpefdamkaa
