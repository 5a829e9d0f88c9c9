/-
  NARROWER THAN 'FOR EVERY INPUT', by the rows' own cells (each row's printed sentence says how): FnOrderNthParts: laid · FnOrderNth: laid · FnOrderRank: laid · FnExactOrderParts: laid · FnExactOrderRank: laid · FnOrderPartsJoin: laid · FnOrderParts: laid · FnOrderRankTurn: laid.
  DERIVED. THE GIVEN ROWS OF THIS SEAT. 8 by the template 'for every input the law returns true; each argument reads behind the call as it read before'; 0 by the template 'total and deterministic' (their statements: YtjiffbddgbigcaaDoorTotals.lean).
  GIVEN WITH THE SEED: the statements are not yours to turn. If you find one false, say at which input.
  Laid BY PROGRAM, IN A SANDBOX (cutbox-rows.mjs): the forced cells as the released guide's own fill.sh prints them over the translation 31e992390f7bde26… (all of the seat's roots in one cut). By AI agents, Wed Nov 11 2026. No macro, syntax, notation, axiom, sorry.
-/
import Derived.Test.YtjiffbddgbigcaaDoorChecked
import GoSem.PinnedTables
import GoSem.Claim
import GoSem.ClaimJoined
import GoSem.ClaimMapViews
import Derived.JoinedTies
import Derived.KernelRfl
namespace Go.Proofs.YtjiffbddgbigcaaDoor
/- THE CELL 'sum', in the pinned program and in every row, IS THE sha256 OF THE DUMP (.gsa) THAT YtjiffbddgbigcaaDoorProg.lean LOADS. Nothing in Lean hashes anything: it is a label: what it is worth is what the hold of that sum in a sandbox is worth. -/
noncomputable def Tryd.pinned : Pinned := { name := "ytjiffbddgbigcaadoor", sum := "31e992390f7bde2686c7424f63b5e91aee620af51a2c11fa7fe4a1bc21f57cab", checked := Tryd.checked }
namespace Rows
def none {H : Type} : Left H := { results := [], args := [] }

/- WHAT THE LISTED PACKAGE-LEVEL VARIABLES READ AS WHEN THE CALL BEGINS. Each datum BY PROGRAM (the guide's laid-datum.mjs) off the statement by which the dump's own 'gosem.cut.vars' lays the variable. In a bare row this is a premise. The card (YtjiffbddgbigcaaDoorCards.lean) ties it to the program's text. -/
def laid_unicode_utf8_acceptRanges {H : Type} : DataW H := .agg [.agg [.lit (.int .u8 128), .lit (.int .u8 191)], .agg [.lit (.int .u8 160), .lit (.int .u8 191)], .agg [.lit (.int .u8 128), .lit (.int .u8 159)], .agg [.lit (.int .u8 144), .lit (.int .u8 191)], .agg [.lit (.int .u8 128), .lit (.int .u8 143)], .agg [.lit (.int .u8 0), .lit (.int .u8 0)], .agg [.lit (.int .u8 0), .lit (.int .u8 0)], .agg [.lit (.int .u8 0), .lit (.int .u8 0)], .agg [.lit (.int .u8 0), .lit (.int .u8 0)], .agg [.lit (.int .u8 0), .lit (.int .u8 0)], .agg [.lit (.int .u8 0), .lit (.int .u8 0)], .agg [.lit (.int .u8 0), .lit (.int .u8 0)], .agg [.lit (.int .u8 0), .lit (.int .u8 0)], .agg [.lit (.int .u8 0), .lit (.int .u8 0)], .agg [.lit (.int .u8 0), .lit (.int .u8 0)], .agg [.lit (.int .u8 0), .lit (.int .u8 0)]]
/-- One of Go's own tables, pinned by name: the form's constant. -/
def laid_unicode_utf8_first : DataW Unit := Go.Pinned.utf8First

/-- 'laws.FnOrderNthParts': WHATEVER THE INPUT: true; the input reads as it did. -/
def fnOrderNthPartsSpec : ChangeSpec := { name := "fnOrderNthParts", fn := fun _ => fun
  | [d] => { results := [.lit (.bool true)], args := [d] }
  | _ => none }
def fnOrderNthPartsRow : OpenClaim := { program := "ytjiffbddgbigcaadoor", sum := "31e992390f7bde2686c7424f63b5e91aee620af51a2c11fa7fe4a1bc21f57cab", func := "loop.example/icecores/laws.FnOrderNthParts", spec := "fnOrderNthParts", inPlace := ["internal/abi.NoEscape", "internal/bytealg.MakeNoZero", "internal/bytealg.IndexByteString", "internal/bytealg.IndexString", "internal/bytealg.CountString"], unfollowed := true, recurses := true, named := ["unicode/utf8.first", "unicode/utf8.acceptRanges", "internal/bytealg.MaxLen"], apart := false, laid := [("unicode/utf8.acceptRanges", laid_unicode_utf8_acceptRanges), ("unicode/utf8.first", laid_unicode_utf8_first)] }
def FnOrderNthPartsSaid : Prop := fnOrderNthPartsRow.holds Tryd.pinned (OpenSpec.ofChange fnOrderNthPartsSpec)

/-- ITS FALSE NEIGHBOUR: 'it returns false'. Refute it at one input. -/
def fnOrderNthPartsWrong : ChangeSpec := { name := "fnOrderNthParts", fn := fun _ => fun
  | [d] => { results := [.lit (.bool false)], args := [d] }
  | _ => none }
def FnOrderNthPartsWrongFalsely : Prop := fnOrderNthPartsRow.holds Tryd.pinned (OpenSpec.ofChange fnOrderNthPartsWrong)

/-- 'laws.FnOrderNth': WHATEVER THE INPUT: true; the input reads as it did. -/
def fnOrderNthSpec : ChangeSpec := { name := "fnOrderNth", fn := fun _ => fun
  | [d] => { results := [.lit (.bool true)], args := [d] }
  | _ => none }
def fnOrderNthRow : OpenClaim := { program := "ytjiffbddgbigcaadoor", sum := "31e992390f7bde2686c7424f63b5e91aee620af51a2c11fa7fe4a1bc21f57cab", func := "loop.example/icecores/laws.FnOrderNth", spec := "fnOrderNth", inPlace := ["internal/abi.NoEscape", "internal/bytealg.MakeNoZero", "internal/bytealg.IndexByteString", "internal/bytealg.IndexString", "internal/bytealg.CountString"], unfollowed := true, recurses := true, named := ["unicode/utf8.first", "unicode/utf8.acceptRanges", "internal/bytealg.MaxLen"], apart := false, laid := [("unicode/utf8.acceptRanges", laid_unicode_utf8_acceptRanges), ("unicode/utf8.first", laid_unicode_utf8_first)] }
def FnOrderNthSaid : Prop := fnOrderNthRow.holds Tryd.pinned (OpenSpec.ofChange fnOrderNthSpec)

/-- ITS FALSE NEIGHBOUR: 'it returns false'. Refute it at one input. -/
def fnOrderNthWrong : ChangeSpec := { name := "fnOrderNth", fn := fun _ => fun
  | [d] => { results := [.lit (.bool false)], args := [d] }
  | _ => none }
def FnOrderNthWrongFalsely : Prop := fnOrderNthRow.holds Tryd.pinned (OpenSpec.ofChange fnOrderNthWrong)

/-- 'laws.FnOrderRank': WHATEVER THE INPUT: true; the input reads as it did. -/
def fnOrderRankSpec : ChangeSpec := { name := "fnOrderRank", fn := fun _ => fun
  | [d] => { results := [.lit (.bool true)], args := [d] }
  | _ => none }
def fnOrderRankRow : OpenClaim := { program := "ytjiffbddgbigcaadoor", sum := "31e992390f7bde2686c7424f63b5e91aee620af51a2c11fa7fe4a1bc21f57cab", func := "loop.example/icecores/laws.FnOrderRank", spec := "fnOrderRank", inPlace := ["internal/bytealg.IndexByteString", "internal/bytealg.IndexString", "internal/bytealg.CountString", "internal/abi.NoEscape", "internal/bytealg.MakeNoZero"], unfollowed := true, recurses := true, named := ["unicode/utf8.first", "unicode/utf8.acceptRanges", "internal/bytealg.MaxLen"], apart := false, laid := [("unicode/utf8.acceptRanges", laid_unicode_utf8_acceptRanges), ("unicode/utf8.first", laid_unicode_utf8_first)] }
def FnOrderRankSaid : Prop := fnOrderRankRow.holds Tryd.pinned (OpenSpec.ofChange fnOrderRankSpec)

/-- ITS FALSE NEIGHBOUR: 'it returns false'. Refute it at one input. -/
def fnOrderRankWrong : ChangeSpec := { name := "fnOrderRank", fn := fun _ => fun
  | [d] => { results := [.lit (.bool false)], args := [d] }
  | _ => none }
def FnOrderRankWrongFalsely : Prop := fnOrderRankRow.holds Tryd.pinned (OpenSpec.ofChange fnOrderRankWrong)

/-- 'laws.FnExactOrderParts': WHATEVER THE INPUT: true; the input reads as it did. -/
def fnExactOrderPartsSpec : ChangeSpec := { name := "fnExactOrderParts", fn := fun _ => fun
  | [d] => { results := [.lit (.bool true)], args := [d] }
  | _ => none }
def fnExactOrderPartsRow : OpenClaim := { program := "ytjiffbddgbigcaadoor", sum := "31e992390f7bde2686c7424f63b5e91aee620af51a2c11fa7fe4a1bc21f57cab", func := "loop.example/icecores/laws.FnExactOrderParts", spec := "fnExactOrderParts", inPlace := ["internal/bytealg.IndexByteString", "internal/bytealg.IndexString", "internal/bytealg.CountString"], unfollowed := true, recurses := true, named := ["unicode/utf8.first", "unicode/utf8.acceptRanges", "internal/bytealg.MaxLen"], apart := false, laid := [("unicode/utf8.acceptRanges", laid_unicode_utf8_acceptRanges), ("unicode/utf8.first", laid_unicode_utf8_first)] }
def FnExactOrderPartsSaid : Prop := fnExactOrderPartsRow.holds Tryd.pinned (OpenSpec.ofChange fnExactOrderPartsSpec)

/-- ITS FALSE NEIGHBOUR: 'it returns false'. Refute it at one input. -/
def fnExactOrderPartsWrong : ChangeSpec := { name := "fnExactOrderParts", fn := fun _ => fun
  | [d] => { results := [.lit (.bool false)], args := [d] }
  | _ => none }
def FnExactOrderPartsWrongFalsely : Prop := fnExactOrderPartsRow.holds Tryd.pinned (OpenSpec.ofChange fnExactOrderPartsWrong)

/-- 'laws.FnExactOrderRank': WHATEVER THE INPUT: true; the input reads as it did. -/
def fnExactOrderRankSpec : ChangeSpec := { name := "fnExactOrderRank", fn := fun _ => fun
  | [d] => { results := [.lit (.bool true)], args := [d] }
  | _ => none }
def fnExactOrderRankRow : OpenClaim := { program := "ytjiffbddgbigcaadoor", sum := "31e992390f7bde2686c7424f63b5e91aee620af51a2c11fa7fe4a1bc21f57cab", func := "loop.example/icecores/laws.FnExactOrderRank", spec := "fnExactOrderRank", inPlace := ["internal/bytealg.IndexByteString", "internal/bytealg.IndexString", "internal/bytealg.CountString"], unfollowed := true, recurses := true, named := ["unicode/utf8.first", "unicode/utf8.acceptRanges", "internal/bytealg.MaxLen"], apart := false, laid := [("unicode/utf8.acceptRanges", laid_unicode_utf8_acceptRanges), ("unicode/utf8.first", laid_unicode_utf8_first)] }
def FnExactOrderRankSaid : Prop := fnExactOrderRankRow.holds Tryd.pinned (OpenSpec.ofChange fnExactOrderRankSpec)

/-- ITS FALSE NEIGHBOUR: 'it returns false'. Refute it at one input. -/
def fnExactOrderRankWrong : ChangeSpec := { name := "fnExactOrderRank", fn := fun _ => fun
  | [d] => { results := [.lit (.bool false)], args := [d] }
  | _ => none }
def FnExactOrderRankWrongFalsely : Prop := fnExactOrderRankRow.holds Tryd.pinned (OpenSpec.ofChange fnExactOrderRankWrong)

/-- 'laws.FnOrderPartsJoin': WHATEVER THE INPUT: true; the input reads as it did. -/
def fnOrderPartsJoinSpec : ChangeSpec := { name := "fnOrderPartsJoin", fn := fun _ => fun
  | [d] => { results := [.lit (.bool true)], args := [d] }
  | _ => none }
def fnOrderPartsJoinRow : OpenClaim := { program := "ytjiffbddgbigcaadoor", sum := "31e992390f7bde2686c7424f63b5e91aee620af51a2c11fa7fe4a1bc21f57cab", func := "loop.example/icecores/laws.FnOrderPartsJoin", spec := "fnOrderPartsJoin", inPlace := ["internal/bytealg.IndexByteString", "internal/bytealg.IndexString", "internal/bytealg.CountString"], unfollowed := true, recurses := true, named := ["unicode/utf8.first", "unicode/utf8.acceptRanges", "internal/bytealg.MaxLen"], apart := false, laid := [("unicode/utf8.acceptRanges", laid_unicode_utf8_acceptRanges), ("unicode/utf8.first", laid_unicode_utf8_first)] }
def FnOrderPartsJoinSaid : Prop := fnOrderPartsJoinRow.holds Tryd.pinned (OpenSpec.ofChange fnOrderPartsJoinSpec)

/-- ITS FALSE NEIGHBOUR: 'it returns false'. Refute it at one input. -/
def fnOrderPartsJoinWrong : ChangeSpec := { name := "fnOrderPartsJoin", fn := fun _ => fun
  | [d] => { results := [.lit (.bool false)], args := [d] }
  | _ => none }
def FnOrderPartsJoinWrongFalsely : Prop := fnOrderPartsJoinRow.holds Tryd.pinned (OpenSpec.ofChange fnOrderPartsJoinWrong)

/-- 'laws.FnOrderParts': WHATEVER THE INPUT: true; the input reads as it did. -/
def fnOrderPartsSpec : ChangeSpec := { name := "fnOrderParts", fn := fun _ => fun
  | [d] => { results := [.lit (.bool true)], args := [d] }
  | _ => none }
def fnOrderPartsRow : OpenClaim := { program := "ytjiffbddgbigcaadoor", sum := "31e992390f7bde2686c7424f63b5e91aee620af51a2c11fa7fe4a1bc21f57cab", func := "loop.example/icecores/laws.FnOrderParts", spec := "fnOrderParts", inPlace := ["internal/bytealg.IndexByteString", "internal/bytealg.IndexString", "internal/bytealg.CountString"], unfollowed := true, recurses := true, named := ["unicode/utf8.first", "unicode/utf8.acceptRanges", "internal/bytealg.MaxLen"], apart := false, laid := [("unicode/utf8.acceptRanges", laid_unicode_utf8_acceptRanges), ("unicode/utf8.first", laid_unicode_utf8_first)] }
def FnOrderPartsSaid : Prop := fnOrderPartsRow.holds Tryd.pinned (OpenSpec.ofChange fnOrderPartsSpec)

/-- ITS FALSE NEIGHBOUR: 'it returns false'. Refute it at one input. -/
def fnOrderPartsWrong : ChangeSpec := { name := "fnOrderParts", fn := fun _ => fun
  | [d] => { results := [.lit (.bool false)], args := [d] }
  | _ => none }
def FnOrderPartsWrongFalsely : Prop := fnOrderPartsRow.holds Tryd.pinned (OpenSpec.ofChange fnOrderPartsWrong)

/-- 'laws.FnOrderRankTurn': WHATEVER THE INPUT: true; the input reads as it did. -/
def fnOrderRankTurnSpec : ChangeSpec := { name := "fnOrderRankTurn", fn := fun _ => fun
  | [d] => { results := [.lit (.bool true)], args := [d] }
  | _ => none }
def fnOrderRankTurnRow : OpenClaim := { program := "ytjiffbddgbigcaadoor", sum := "31e992390f7bde2686c7424f63b5e91aee620af51a2c11fa7fe4a1bc21f57cab", func := "loop.example/icecores/laws.FnOrderRankTurn", spec := "fnOrderRankTurn", inPlace := ["internal/bytealg.IndexByteString", "internal/bytealg.IndexString", "internal/bytealg.CountString"], unfollowed := true, recurses := true, named := ["unicode/utf8.first", "unicode/utf8.acceptRanges", "internal/bytealg.MaxLen"], apart := false, laid := [("unicode/utf8.acceptRanges", laid_unicode_utf8_acceptRanges), ("unicode/utf8.first", laid_unicode_utf8_first)] }
def FnOrderRankTurnSaid : Prop := fnOrderRankTurnRow.holds Tryd.pinned (OpenSpec.ofChange fnOrderRankTurnSpec)

/-- ITS FALSE NEIGHBOUR: 'it returns false'. Refute it at one input. -/
def fnOrderRankTurnWrong : ChangeSpec := { name := "fnOrderRankTurn", fn := fun _ => fun
  | [d] => { results := [.lit (.bool false)], args := [d] }
  | _ => none }
def FnOrderRankTurnWrongFalsely : Prop := fnOrderRankTurnRow.holds Tryd.pinned (OpenSpec.ofChange fnOrderRankTurnWrong)

/- THE SECOND FORM. 'bulk': how many values and letters a reading holds, each counted each time it is reached (what is shared counts as often as it is met; a slice's spare places count too). A statement '..UptoSaid' is the law's where the arguments, and the package variables that the reading takes, are together of bulk at most 1048576: NARROWER than '..Said'. Prove '..Said' where nothing that the law and all that it calls make is longer than what came in: it says more and counts as full. Else prove '..UptoSaid'. A law counts once. -/
mutual
def uptoBulk {H : Type} : DataW H → Nat
  | .lit (.string bytes) => bytes.length + 1
  | .lit _ => 1
  | .nil => 1
  | .ptr d => uptoBulk d + 1
  | .slice elems spare => uptoBulkAll elems + uptoBulkAll spare + 1
  | .agg parts => uptoBulkAll parts + 1
  | .iface _ d => uptoBulk d + 1
  | .map entries => uptoBulkEntries entries + 1
  | .held _ => 1
def uptoBulkAll {H : Type} : List (DataW H) → Nat
  | [] => 0
  | d :: r => uptoBulk d + uptoBulkAll r
def uptoBulkEntries {H : Type} : List (Lit × DataW H) → Nat
  | [] => 0
  | x :: r => uptoBulkEntry x + uptoBulkEntries r
def uptoBulkEntry {H : Type} : Lit × DataW H → Nat
  | (.string bytes, d) => bytes.length + uptoBulk d + 1
  | (_, d) => uptoBulk d + 1
 end
def uptoSmall : (H : Type) → List (DataW H) → Bool := fun _ ds => decide (uptoBulkAll ds ≤ 1048576)
def OpenSpec.upto (s : _root_.Go.ChangeSpec) : _root_.Go.OpenSpec := { _root_.Go.OpenSpec.ofChange s with cond := some uptoSmall }

/-- 'laws.FnOrderNthParts', WHERE WHAT IT READS IS OF BULK AT MOST 1048576: true; the input reads as it did. -/
def fnOrderNthPartsUptoRow : OpenClaim := { program := "ytjiffbddgbigcaadoor", sum := "31e992390f7bde2686c7424f63b5e91aee620af51a2c11fa7fe4a1bc21f57cab", func := "loop.example/icecores/laws.FnOrderNthParts", spec := "fnOrderNthParts", inPlace := ["internal/abi.NoEscape", "internal/bytealg.MakeNoZero", "internal/bytealg.IndexByteString", "internal/bytealg.IndexString", "internal/bytealg.CountString"], unfollowed := true, recurses := true, named := ["unicode/utf8.first", "unicode/utf8.acceptRanges", "internal/bytealg.MaxLen"], apart := false, laid := [("unicode/utf8.acceptRanges", laid_unicode_utf8_acceptRanges), ("unicode/utf8.first", laid_unicode_utf8_first)], narrowed := true }
def FnOrderNthPartsUptoSaid : Prop := fnOrderNthPartsUptoRow.holds Tryd.pinned (OpenSpec.upto fnOrderNthPartsSpec)

/-- 'laws.FnOrderNth', WHERE WHAT IT READS IS OF BULK AT MOST 1048576: true; the input reads as it did. -/
def fnOrderNthUptoRow : OpenClaim := { program := "ytjiffbddgbigcaadoor", sum := "31e992390f7bde2686c7424f63b5e91aee620af51a2c11fa7fe4a1bc21f57cab", func := "loop.example/icecores/laws.FnOrderNth", spec := "fnOrderNth", inPlace := ["internal/abi.NoEscape", "internal/bytealg.MakeNoZero", "internal/bytealg.IndexByteString", "internal/bytealg.IndexString", "internal/bytealg.CountString"], unfollowed := true, recurses := true, named := ["unicode/utf8.first", "unicode/utf8.acceptRanges", "internal/bytealg.MaxLen"], apart := false, laid := [("unicode/utf8.acceptRanges", laid_unicode_utf8_acceptRanges), ("unicode/utf8.first", laid_unicode_utf8_first)], narrowed := true }
def FnOrderNthUptoSaid : Prop := fnOrderNthUptoRow.holds Tryd.pinned (OpenSpec.upto fnOrderNthSpec)

/-- 'laws.FnOrderRank', WHERE WHAT IT READS IS OF BULK AT MOST 1048576: true; the input reads as it did. -/
def fnOrderRankUptoRow : OpenClaim := { program := "ytjiffbddgbigcaadoor", sum := "31e992390f7bde2686c7424f63b5e91aee620af51a2c11fa7fe4a1bc21f57cab", func := "loop.example/icecores/laws.FnOrderRank", spec := "fnOrderRank", inPlace := ["internal/bytealg.IndexByteString", "internal/bytealg.IndexString", "internal/bytealg.CountString", "internal/abi.NoEscape", "internal/bytealg.MakeNoZero"], unfollowed := true, recurses := true, named := ["unicode/utf8.first", "unicode/utf8.acceptRanges", "internal/bytealg.MaxLen"], apart := false, laid := [("unicode/utf8.acceptRanges", laid_unicode_utf8_acceptRanges), ("unicode/utf8.first", laid_unicode_utf8_first)], narrowed := true }
def FnOrderRankUptoSaid : Prop := fnOrderRankUptoRow.holds Tryd.pinned (OpenSpec.upto fnOrderRankSpec)

/-- 'laws.FnExactOrderParts', WHERE WHAT IT READS IS OF BULK AT MOST 1048576: true; the input reads as it did. -/
def fnExactOrderPartsUptoRow : OpenClaim := { program := "ytjiffbddgbigcaadoor", sum := "31e992390f7bde2686c7424f63b5e91aee620af51a2c11fa7fe4a1bc21f57cab", func := "loop.example/icecores/laws.FnExactOrderParts", spec := "fnExactOrderParts", inPlace := ["internal/bytealg.IndexByteString", "internal/bytealg.IndexString", "internal/bytealg.CountString"], unfollowed := true, recurses := true, named := ["unicode/utf8.first", "unicode/utf8.acceptRanges", "internal/bytealg.MaxLen"], apart := false, laid := [("unicode/utf8.acceptRanges", laid_unicode_utf8_acceptRanges), ("unicode/utf8.first", laid_unicode_utf8_first)], narrowed := true }
def FnExactOrderPartsUptoSaid : Prop := fnExactOrderPartsUptoRow.holds Tryd.pinned (OpenSpec.upto fnExactOrderPartsSpec)

/-- 'laws.FnExactOrderRank', WHERE WHAT IT READS IS OF BULK AT MOST 1048576: true; the input reads as it did. -/
def fnExactOrderRankUptoRow : OpenClaim := { program := "ytjiffbddgbigcaadoor", sum := "31e992390f7bde2686c7424f63b5e91aee620af51a2c11fa7fe4a1bc21f57cab", func := "loop.example/icecores/laws.FnExactOrderRank", spec := "fnExactOrderRank", inPlace := ["internal/bytealg.IndexByteString", "internal/bytealg.IndexString", "internal/bytealg.CountString"], unfollowed := true, recurses := true, named := ["unicode/utf8.first", "unicode/utf8.acceptRanges", "internal/bytealg.MaxLen"], apart := false, laid := [("unicode/utf8.acceptRanges", laid_unicode_utf8_acceptRanges), ("unicode/utf8.first", laid_unicode_utf8_first)], narrowed := true }
def FnExactOrderRankUptoSaid : Prop := fnExactOrderRankUptoRow.holds Tryd.pinned (OpenSpec.upto fnExactOrderRankSpec)

/-- 'laws.FnOrderPartsJoin', WHERE WHAT IT READS IS OF BULK AT MOST 1048576: true; the input reads as it did. -/
def fnOrderPartsJoinUptoRow : OpenClaim := { program := "ytjiffbddgbigcaadoor", sum := "31e992390f7bde2686c7424f63b5e91aee620af51a2c11fa7fe4a1bc21f57cab", func := "loop.example/icecores/laws.FnOrderPartsJoin", spec := "fnOrderPartsJoin", inPlace := ["internal/bytealg.IndexByteString", "internal/bytealg.IndexString", "internal/bytealg.CountString"], unfollowed := true, recurses := true, named := ["unicode/utf8.first", "unicode/utf8.acceptRanges", "internal/bytealg.MaxLen"], apart := false, laid := [("unicode/utf8.acceptRanges", laid_unicode_utf8_acceptRanges), ("unicode/utf8.first", laid_unicode_utf8_first)], narrowed := true }
def FnOrderPartsJoinUptoSaid : Prop := fnOrderPartsJoinUptoRow.holds Tryd.pinned (OpenSpec.upto fnOrderPartsJoinSpec)

/-- 'laws.FnOrderParts', WHERE WHAT IT READS IS OF BULK AT MOST 1048576: true; the input reads as it did. -/
def fnOrderPartsUptoRow : OpenClaim := { program := "ytjiffbddgbigcaadoor", sum := "31e992390f7bde2686c7424f63b5e91aee620af51a2c11fa7fe4a1bc21f57cab", func := "loop.example/icecores/laws.FnOrderParts", spec := "fnOrderParts", inPlace := ["internal/bytealg.IndexByteString", "internal/bytealg.IndexString", "internal/bytealg.CountString"], unfollowed := true, recurses := true, named := ["unicode/utf8.first", "unicode/utf8.acceptRanges", "internal/bytealg.MaxLen"], apart := false, laid := [("unicode/utf8.acceptRanges", laid_unicode_utf8_acceptRanges), ("unicode/utf8.first", laid_unicode_utf8_first)], narrowed := true }
def FnOrderPartsUptoSaid : Prop := fnOrderPartsUptoRow.holds Tryd.pinned (OpenSpec.upto fnOrderPartsSpec)

/-- 'laws.FnOrderRankTurn', WHERE WHAT IT READS IS OF BULK AT MOST 1048576: true; the input reads as it did. -/
def fnOrderRankTurnUptoRow : OpenClaim := { program := "ytjiffbddgbigcaadoor", sum := "31e992390f7bde2686c7424f63b5e91aee620af51a2c11fa7fe4a1bc21f57cab", func := "loop.example/icecores/laws.FnOrderRankTurn", spec := "fnOrderRankTurn", inPlace := ["internal/bytealg.IndexByteString", "internal/bytealg.IndexString", "internal/bytealg.CountString"], unfollowed := true, recurses := true, named := ["unicode/utf8.first", "unicode/utf8.acceptRanges", "internal/bytealg.MaxLen"], apart := false, laid := [("unicode/utf8.acceptRanges", laid_unicode_utf8_acceptRanges), ("unicode/utf8.first", laid_unicode_utf8_first)], narrowed := true }
def FnOrderRankTurnUptoSaid : Prop := fnOrderRankTurnUptoRow.holds Tryd.pinned (OpenSpec.upto fnOrderRankTurnSpec)

end Rows
end Go.Proofs.YtjiffbddgbigcaaDoor
