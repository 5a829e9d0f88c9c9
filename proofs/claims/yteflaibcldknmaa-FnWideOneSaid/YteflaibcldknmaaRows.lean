/-
  No cell of these rows narrows 'for every input' (looked for: loops, veiled, ifaces, maps, wideKeys, modest, calm, conditions, laid).
  DERIVED. THE GIVEN ROWS OF THIS SEAT. 5 by the template 'for every input the law returns true; each argument reads behind the call as it read before'; 0 by the template 'total and deterministic' (their statements: YteflaibcldknmaaTotals.lean).
  GIVEN WITH THE SEED: the statements are not yours to turn. If you find one false, say at which input.
  Laid BY PROGRAM, IN A SANDBOX (cutbox-rows.mjs): the forced cells as the released guide's own fill.sh prints them over the translation 4bd2e7f6b5317f4b… (all of the seat's roots in one cut). By AI agents, Wed Nov 11 2026. No macro, syntax, notation, axiom, sorry.
-/
import Derived.Test.YteflaibcldknmaaChecked
import GoSem.Claim
import GoSem.ClaimJoined
import GoSem.ClaimMapViews
import Derived.JoinedTies
import Derived.KernelRfl
namespace Go.Proofs.Yteflaibcldknmaa
/- THE CELL 'sum', in the pinned program and in every row, IS THE sha256 OF THE DUMP (.gsa) THAT YteflaibcldknmaaProg.lean LOADS. Nothing in Lean hashes anything: it is a label: what it is worth is what the hold of that sum in a sandbox is worth. -/
noncomputable def Try.pinned : Pinned := { name := "yteflaibcldknmaa", sum := "4bd2e7f6b5317f4bbaa8419b3d1a1e17eb5f328f0d691e08315cc905a24bebd1", checked := Try.checked }
namespace Rows
def none {H : Type} : Left H := { results := [], args := [] }

/-- 'laws.FnExactWindowsWide': WHATEVER THE INPUT: true; the input reads as it did. -/
def fnExactWindowsWideSpec : ChangeSpec := { name := "fnExactWindowsWide", fn := fun _ => fun
  | [d1, d2] => { results := [.lit (.bool true)], args := [d1, d2] }
  | _ => none }
def fnExactWindowsWideRow : OpenClaim := { program := "yteflaibcldknmaa", sum := "4bd2e7f6b5317f4bbaa8419b3d1a1e17eb5f328f0d691e08315cc905a24bebd1", func := "loop.example/icecores/laws.FnExactWindowsWide", spec := "fnExactWindowsWide", apart := false }
def FnExactWindowsWideSaid : Prop := fnExactWindowsWideRow.holds Try.pinned (OpenSpec.ofChange fnExactWindowsWideSpec)

/-- ITS FALSE NEIGHBOUR: 'it returns false'. Refute it at one input. -/
def fnExactWindowsWideWrong : ChangeSpec := { name := "fnExactWindowsWide", fn := fun _ => fun
  | [d1, d2] => { results := [.lit (.bool false)], args := [d1, d2] }
  | _ => none }
def FnExactWindowsWideWrongFalsely : Prop := fnExactWindowsWideRow.holds Try.pinned (OpenSpec.ofChange fnExactWindowsWideWrong)

/-- 'laws.FnWideOne': WHATEVER THE INPUT: true; the input reads as it did. -/
def fnWideOneSpec : ChangeSpec := { name := "fnWideOne", fn := fun _ => fun
  | [d1, d2] => { results := [.lit (.bool true)], args := [d1, d2] }
  | _ => none }
def fnWideOneRow : OpenClaim := { program := "yteflaibcldknmaa", sum := "4bd2e7f6b5317f4bbaa8419b3d1a1e17eb5f328f0d691e08315cc905a24bebd1", func := "loop.example/icecores/laws.FnWideOne", spec := "fnWideOne", apart := false }
def FnWideOneSaid : Prop := fnWideOneRow.holds Try.pinned (OpenSpec.ofChange fnWideOneSpec)

/-- ITS FALSE NEIGHBOUR: 'it returns false'. Refute it at one input. -/
def fnWideOneWrong : ChangeSpec := { name := "fnWideOne", fn := fun _ => fun
  | [d1, d2] => { results := [.lit (.bool false)], args := [d1, d2] }
  | _ => none }
def FnWideOneWrongFalsely : Prop := fnWideOneRow.holds Try.pinned (OpenSpec.ofChange fnWideOneWrong)

/-- 'laws.FnWindowsOne': WHATEVER THE INPUT: true; the input reads as it did. -/
def fnWindowsOneSpec : ChangeSpec := { name := "fnWindowsOne", fn := fun _ => fun
  | [d1, d2] => { results := [.lit (.bool true)], args := [d1, d2] }
  | _ => none }
def fnWindowsOneRow : OpenClaim := { program := "yteflaibcldknmaa", sum := "4bd2e7f6b5317f4bbaa8419b3d1a1e17eb5f328f0d691e08315cc905a24bebd1", func := "loop.example/icecores/laws.FnWindowsOne", spec := "fnWindowsOne", apart := false }
def FnWindowsOneSaid : Prop := fnWindowsOneRow.holds Try.pinned (OpenSpec.ofChange fnWindowsOneSpec)

/-- ITS FALSE NEIGHBOUR: 'it returns false'. Refute it at one input. -/
def fnWindowsOneWrong : ChangeSpec := { name := "fnWindowsOne", fn := fun _ => fun
  | [d1, d2] => { results := [.lit (.bool false)], args := [d1, d2] }
  | _ => none }
def FnWindowsOneWrongFalsely : Prop := fnWindowsOneRow.holds Try.pinned (OpenSpec.ofChange fnWindowsOneWrong)

/-- 'laws.FnWide': WHATEVER THE INPUT: true; the input reads as it did. -/
def fnWideSpec : ChangeSpec := { name := "fnWide", fn := fun _ => fun
  | [d] => { results := [.lit (.bool true)], args := [d] }
  | _ => none }
def fnWideRow : OpenClaim := { program := "yteflaibcldknmaa", sum := "4bd2e7f6b5317f4bbaa8419b3d1a1e17eb5f328f0d691e08315cc905a24bebd1", func := "loop.example/icecores/laws.FnWide", spec := "fnWide", apart := false }
def FnWideSaid : Prop := fnWideRow.holds Try.pinned (OpenSpec.ofChange fnWideSpec)

/-- ITS FALSE NEIGHBOUR: 'it returns false'. Refute it at one input. -/
def fnWideWrong : ChangeSpec := { name := "fnWide", fn := fun _ => fun
  | [d] => { results := [.lit (.bool false)], args := [d] }
  | _ => none }
def FnWideWrongFalsely : Prop := fnWideRow.holds Try.pinned (OpenSpec.ofChange fnWideWrong)

/-- 'laws.FnYoungOld': WHATEVER THE INPUT: true; the input reads as it did. -/
def fnYoungOldSpec : ChangeSpec := { name := "fnYoungOld", fn := fun _ => fun
  | [d] => { results := [.lit (.bool true)], args := [d] }
  | _ => none }
def fnYoungOldRow : OpenClaim := { program := "yteflaibcldknmaa", sum := "4bd2e7f6b5317f4bbaa8419b3d1a1e17eb5f328f0d691e08315cc905a24bebd1", func := "loop.example/icecores/laws.FnYoungOld", spec := "fnYoungOld", apart := false }
def FnYoungOldSaid : Prop := fnYoungOldRow.holds Try.pinned (OpenSpec.ofChange fnYoungOldSpec)

/-- ITS FALSE NEIGHBOUR: 'it returns false'. Refute it at one input. -/
def fnYoungOldWrong : ChangeSpec := { name := "fnYoungOld", fn := fun _ => fun
  | [d] => { results := [.lit (.bool false)], args := [d] }
  | _ => none }
def FnYoungOldWrongFalsely : Prop := fnYoungOldRow.holds Try.pinned (OpenSpec.ofChange fnYoungOldWrong)

/- THE SECOND FORM. 'bulk': how many values and letters a reading holds, each counted each time it is reached (what is shared counts as often as it is met; a slice's spare places count too). A statement '..UptoSaid' is the law's where the arguments, and the package variables that the reading takes, are together of bulk at most 1048576: NARROWER than '..Said'. Prove '..Said' where nothing that the law and all that it calls make is longer than what came in: it says more and counts as full. Else prove '..UptoSaid'. A law counts once. -/
mutual
def uptoBulk {H : Type} : DataW H → Nat
  | .lit (.string bytes) => bytes.length + 1
  | .lit _ => 1
  | .nil => 1
  | .ptr d => uptoBulk d + 1
  | .slice elems spare => uptoBulkAll elems + uptoBulkAll spare + 1
  | .agg parts => uptoBulkAll parts + 1
  | .iface _ d => uptoBulk d + 1
  | .map entries => uptoBulkEntries entries + 1
  | .held _ => 1
def uptoBulkAll {H : Type} : List (DataW H) → Nat
  | [] => 0
  | d :: r => uptoBulk d + uptoBulkAll r
def uptoBulkEntries {H : Type} : List (Lit × DataW H) → Nat
  | [] => 0
  | x :: r => uptoBulkEntry x + uptoBulkEntries r
def uptoBulkEntry {H : Type} : Lit × DataW H → Nat
  | (.string bytes, d) => bytes.length + uptoBulk d + 1
  | (_, d) => uptoBulk d + 1
 end
def uptoSmall : (H : Type) → List (DataW H) → Bool := fun _ ds => decide (uptoBulkAll ds ≤ 1048576)
def OpenSpec.upto (s : _root_.Go.ChangeSpec) : _root_.Go.OpenSpec := { _root_.Go.OpenSpec.ofChange s with cond := some uptoSmall }

/-- 'laws.FnExactWindowsWide', WHERE WHAT IT READS IS OF BULK AT MOST 1048576: true; the input reads as it did. -/
def fnExactWindowsWideUptoRow : OpenClaim := { program := "yteflaibcldknmaa", sum := "4bd2e7f6b5317f4bbaa8419b3d1a1e17eb5f328f0d691e08315cc905a24bebd1", func := "loop.example/icecores/laws.FnExactWindowsWide", spec := "fnExactWindowsWide", apart := false, narrowed := true }
def FnExactWindowsWideUptoSaid : Prop := fnExactWindowsWideUptoRow.holds Try.pinned (OpenSpec.upto fnExactWindowsWideSpec)

/-- 'laws.FnWideOne', WHERE WHAT IT READS IS OF BULK AT MOST 1048576: true; the input reads as it did. -/
def fnWideOneUptoRow : OpenClaim := { program := "yteflaibcldknmaa", sum := "4bd2e7f6b5317f4bbaa8419b3d1a1e17eb5f328f0d691e08315cc905a24bebd1", func := "loop.example/icecores/laws.FnWideOne", spec := "fnWideOne", apart := false, narrowed := true }
def FnWideOneUptoSaid : Prop := fnWideOneUptoRow.holds Try.pinned (OpenSpec.upto fnWideOneSpec)

/-- 'laws.FnWindowsOne', WHERE WHAT IT READS IS OF BULK AT MOST 1048576: true; the input reads as it did. -/
def fnWindowsOneUptoRow : OpenClaim := { program := "yteflaibcldknmaa", sum := "4bd2e7f6b5317f4bbaa8419b3d1a1e17eb5f328f0d691e08315cc905a24bebd1", func := "loop.example/icecores/laws.FnWindowsOne", spec := "fnWindowsOne", apart := false, narrowed := true }
def FnWindowsOneUptoSaid : Prop := fnWindowsOneUptoRow.holds Try.pinned (OpenSpec.upto fnWindowsOneSpec)

/-- 'laws.FnWide', WHERE WHAT IT READS IS OF BULK AT MOST 1048576: true; the input reads as it did. -/
def fnWideUptoRow : OpenClaim := { program := "yteflaibcldknmaa", sum := "4bd2e7f6b5317f4bbaa8419b3d1a1e17eb5f328f0d691e08315cc905a24bebd1", func := "loop.example/icecores/laws.FnWide", spec := "fnWide", apart := false, narrowed := true }
def FnWideUptoSaid : Prop := fnWideUptoRow.holds Try.pinned (OpenSpec.upto fnWideSpec)

/-- 'laws.FnYoungOld', WHERE WHAT IT READS IS OF BULK AT MOST 1048576: true; the input reads as it did. -/
def fnYoungOldUptoRow : OpenClaim := { program := "yteflaibcldknmaa", sum := "4bd2e7f6b5317f4bbaa8419b3d1a1e17eb5f328f0d691e08315cc905a24bebd1", func := "loop.example/icecores/laws.FnYoungOld", spec := "fnYoungOld", apart := false, narrowed := true }
def FnYoungOldUptoSaid : Prop := fnYoungOldUptoRow.holds Try.pinned (OpenSpec.upto fnYoungOldSpec)

end Rows
end Go.Proofs.Yteflaibcldknmaa
