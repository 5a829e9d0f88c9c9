/-
  No cell of these rows narrows 'for every input' (looked for: loops, veiled, ifaces, maps, wideKeys, modest, calm, conditions, laid).
  DERIVED. THE GIVEN ROWS OF THIS SEAT. 9 by the template 'for every input the law returns true; each argument reads behind the call as it read before'; 0 by the template 'total and deterministic' (their statements: YtjgbhdidboofbaaTotals.lean).
  GIVEN WITH THE SEED: the statements are not yours to turn. If you find one false, say at which input.
  Laid BY PROGRAM, IN A SANDBOX (cutbox-rows.mjs): the forced cells as the released guide's own fill.sh prints them over the translation 259d41878f2bc5a3… (all of the seat's roots in one cut). By AI agents, Wed Nov 11 2026. No macro, syntax, notation, axiom, sorry.
-/
import Derived.Test.YtjgbhdidboofbaaChecked
import GoSem.Claim
import GoSem.ClaimJoined
import GoSem.ClaimMapViews
import Derived.JoinedTies
import Derived.KernelRfl
namespace Go.Proofs.Ytjgbhdidboofbaa
/- THE CELL 'sum', in the pinned program and in every row, IS THE sha256 OF THE DUMP (.gsa) THAT YtjgbhdidboofbaaProg.lean LOADS. Nothing in Lean hashes anything: it is a label: what it is worth is what the hold of that sum in a sandbox is worth. -/
noncomputable def Try.pinned : Pinned := { name := "ytjgbhdidboofbaa", sum := "259d41878f2bc5a31248cba2782c769a5eb405c55b51bd51a97158f7da975bb1", checked := Try.checked }
namespace Rows
def none {H : Type} : Left H := { results := [], args := [] }

/-- 'laws.FnExactOrderCount': WHATEVER THE INPUT: true; the input reads as it did. -/
def fnExactOrderCountSpec : ChangeSpec := { name := "fnExactOrderCount", fn := fun _ => fun
  | [d1, d2] => { results := [.lit (.bool true)], args := [d1, d2] }
  | _ => none }
def fnExactOrderCountRow : OpenClaim := { program := "ytjgbhdidboofbaa", sum := "259d41878f2bc5a31248cba2782c769a5eb405c55b51bd51a97158f7da975bb1", func := "loop.example/icecores/laws.FnExactOrderCount", spec := "fnExactOrderCount", apart := false }
def FnExactOrderCountSaid : Prop := fnExactOrderCountRow.holds Try.pinned (OpenSpec.ofChange fnExactOrderCountSpec)

/-- ITS FALSE NEIGHBOUR: 'it returns false'. Refute it at one input. -/
def fnExactOrderCountWrong : ChangeSpec := { name := "fnExactOrderCount", fn := fun _ => fun
  | [d1, d2] => { results := [.lit (.bool false)], args := [d1, d2] }
  | _ => none }
def FnExactOrderCountWrongFalsely : Prop := fnExactOrderCountRow.holds Try.pinned (OpenSpec.ofChange fnExactOrderCountWrong)

/-- 'laws.FnOrderCountMore': WHATEVER THE INPUT: true; the input reads as it did. -/
def fnOrderCountMoreSpec : ChangeSpec := { name := "fnOrderCountMore", fn := fun _ => fun
  | [d1, d2] => { results := [.lit (.bool true)], args := [d1, d2] }
  | _ => none }
def fnOrderCountMoreRow : OpenClaim := { program := "ytjgbhdidboofbaa", sum := "259d41878f2bc5a31248cba2782c769a5eb405c55b51bd51a97158f7da975bb1", func := "loop.example/icecores/laws.FnOrderCountMore", spec := "fnOrderCountMore", apart := false }
def FnOrderCountMoreSaid : Prop := fnOrderCountMoreRow.holds Try.pinned (OpenSpec.ofChange fnOrderCountMoreSpec)

/-- ITS FALSE NEIGHBOUR: 'it returns false'. Refute it at one input. -/
def fnOrderCountMoreWrong : ChangeSpec := { name := "fnOrderCountMore", fn := fun _ => fun
  | [d1, d2] => { results := [.lit (.bool false)], args := [d1, d2] }
  | _ => none }
def FnOrderCountMoreWrongFalsely : Prop := fnOrderCountMoreRow.holds Try.pinned (OpenSpec.ofChange fnOrderCountMoreWrong)

/-- 'laws.FnOrderCountSum': WHATEVER THE INPUT: true; the input reads as it did. -/
def fnOrderCountSumSpec : ChangeSpec := { name := "fnOrderCountSum", fn := fun _ => fun
  | [d] => { results := [.lit (.bool true)], args := [d] }
  | _ => none }
def fnOrderCountSumRow : OpenClaim := { program := "ytjgbhdidboofbaa", sum := "259d41878f2bc5a31248cba2782c769a5eb405c55b51bd51a97158f7da975bb1", func := "loop.example/icecores/laws.FnOrderCountSum", spec := "fnOrderCountSum", apart := false }
def FnOrderCountSumSaid : Prop := fnOrderCountSumRow.holds Try.pinned (OpenSpec.ofChange fnOrderCountSumSpec)

/-- ITS FALSE NEIGHBOUR: 'it returns false'. Refute it at one input. -/
def fnOrderCountSumWrong : ChangeSpec := { name := "fnOrderCountSum", fn := fun _ => fun
  | [d] => { results := [.lit (.bool false)], args := [d] }
  | _ => none }
def FnOrderCountSumWrongFalsely : Prop := fnOrderCountSumRow.holds Try.pinned (OpenSpec.ofChange fnOrderCountSumWrong)

/-- 'laws.FnOrderCount': WHATEVER THE INPUT: true; the input reads as it did. -/
def fnOrderCountSpec : ChangeSpec := { name := "fnOrderCount", fn := fun _ => fun
  | [d1, d2] => { results := [.lit (.bool true)], args := [d1, d2] }
  | _ => none }
def fnOrderCountRow : OpenClaim := { program := "ytjgbhdidboofbaa", sum := "259d41878f2bc5a31248cba2782c769a5eb405c55b51bd51a97158f7da975bb1", func := "loop.example/icecores/laws.FnOrderCount", spec := "fnOrderCount", apart := false }
def FnOrderCountSaid : Prop := fnOrderCountRow.holds Try.pinned (OpenSpec.ofChange fnOrderCountSpec)

/-- ITS FALSE NEIGHBOUR: 'it returns false'. Refute it at one input. -/
def fnOrderCountWrong : ChangeSpec := { name := "fnOrderCount", fn := fun _ => fun
  | [d1, d2] => { results := [.lit (.bool false)], args := [d1, d2] }
  | _ => none }
def FnOrderCountWrongFalsely : Prop := fnOrderCountRow.holds Try.pinned (OpenSpec.ofChange fnOrderCountWrong)

/-- 'laws.FnExactOrderBetween': WHATEVER THE INPUT: true; the input reads as it did. -/
def fnExactOrderBetweenSpec : ChangeSpec := { name := "fnExactOrderBetween", fn := fun _ => fun
  | [d1, d2, d3, d4] => { results := [.lit (.bool true)], args := [d1, d2, d3, d4] }
  | _ => none }
def fnExactOrderBetweenRow : OpenClaim := { program := "ytjgbhdidboofbaa", sum := "259d41878f2bc5a31248cba2782c769a5eb405c55b51bd51a97158f7da975bb1", func := "loop.example/icecores/laws.FnExactOrderBetween", spec := "fnExactOrderBetween", apart := false }
def FnExactOrderBetweenSaid : Prop := fnExactOrderBetweenRow.holds Try.pinned (OpenSpec.ofChange fnExactOrderBetweenSpec)

/-- ITS FALSE NEIGHBOUR: 'it returns false'. Refute it at one input. -/
def fnExactOrderBetweenWrong : ChangeSpec := { name := "fnExactOrderBetween", fn := fun _ => fun
  | [d1, d2, d3, d4] => { results := [.lit (.bool false)], args := [d1, d2, d3, d4] }
  | _ => none }
def FnExactOrderBetweenWrongFalsely : Prop := fnExactOrderBetweenRow.holds Try.pinned (OpenSpec.ofChange fnExactOrderBetweenWrong)

/-- 'laws.FnBetween24': WHATEVER THE INPUT: true; the input reads as it did. -/
def fnBetween24Spec : ChangeSpec := { name := "fnBetween24", fn := fun _ => fun
  | [d] => { results := [.lit (.bool true)], args := [d] }
  | _ => none }
def fnBetween24Row : OpenClaim := { program := "ytjgbhdidboofbaa", sum := "259d41878f2bc5a31248cba2782c769a5eb405c55b51bd51a97158f7da975bb1", func := "loop.example/icecores/laws.FnBetween24", spec := "fnBetween24", apart := false }
def FnBetween24Said : Prop := fnBetween24Row.holds Try.pinned (OpenSpec.ofChange fnBetween24Spec)

/-- ITS FALSE NEIGHBOUR: 'it returns false'. Refute it at one input. -/
def fnBetween24Wrong : ChangeSpec := { name := "fnBetween24", fn := fun _ => fun
  | [d] => { results := [.lit (.bool false)], args := [d] }
  | _ => none }
def FnBetween24WrongFalsely : Prop := fnBetween24Row.holds Try.pinned (OpenSpec.ofChange fnBetween24Wrong)

/-- 'laws.FnBetweenEnds': WHATEVER THE INPUT: true; the input reads as it did. -/
def fnBetweenEndsSpec : ChangeSpec := { name := "fnBetweenEnds", fn := fun _ => fun
  | [d] => { results := [.lit (.bool true)], args := [d] }
  | _ => none }
def fnBetweenEndsRow : OpenClaim := { program := "ytjgbhdidboofbaa", sum := "259d41878f2bc5a31248cba2782c769a5eb405c55b51bd51a97158f7da975bb1", func := "loop.example/icecores/laws.FnBetweenEnds", spec := "fnBetweenEnds", apart := false }
def FnBetweenEndsSaid : Prop := fnBetweenEndsRow.holds Try.pinned (OpenSpec.ofChange fnBetweenEndsSpec)

/-- ITS FALSE NEIGHBOUR: 'it returns false'. Refute it at one input. -/
def fnBetweenEndsWrong : ChangeSpec := { name := "fnBetweenEnds", fn := fun _ => fun
  | [d] => { results := [.lit (.bool false)], args := [d] }
  | _ => none }
def FnBetweenEndsWrongFalsely : Prop := fnBetweenEndsRow.holds Try.pinned (OpenSpec.ofChange fnBetweenEndsWrong)

/-- 'laws.FnBetweenRises': WHATEVER THE INPUT: true; the input reads as it did. -/
def fnBetweenRisesSpec : ChangeSpec := { name := "fnBetweenRises", fn := fun _ => fun
  | [d] => { results := [.lit (.bool true)], args := [d] }
  | _ => none }
def fnBetweenRisesRow : OpenClaim := { program := "ytjgbhdidboofbaa", sum := "259d41878f2bc5a31248cba2782c769a5eb405c55b51bd51a97158f7da975bb1", func := "loop.example/icecores/laws.FnBetweenRises", spec := "fnBetweenRises", apart := false }
def FnBetweenRisesSaid : Prop := fnBetweenRisesRow.holds Try.pinned (OpenSpec.ofChange fnBetweenRisesSpec)

/-- ITS FALSE NEIGHBOUR: 'it returns false'. Refute it at one input. -/
def fnBetweenRisesWrong : ChangeSpec := { name := "fnBetweenRises", fn := fun _ => fun
  | [d] => { results := [.lit (.bool false)], args := [d] }
  | _ => none }
def FnBetweenRisesWrongFalsely : Prop := fnBetweenRisesRow.holds Try.pinned (OpenSpec.ofChange fnBetweenRisesWrong)

/-- 'laws.FnBetweenParts': WHATEVER THE INPUT: true; the input reads as it did. -/
def fnBetweenPartsSpec : ChangeSpec := { name := "fnBetweenParts", fn := fun _ => fun
  | [d] => { results := [.lit (.bool true)], args := [d] }
  | _ => none }
def fnBetweenPartsRow : OpenClaim := { program := "ytjgbhdidboofbaa", sum := "259d41878f2bc5a31248cba2782c769a5eb405c55b51bd51a97158f7da975bb1", func := "loop.example/icecores/laws.FnBetweenParts", spec := "fnBetweenParts", apart := false }
def FnBetweenPartsSaid : Prop := fnBetweenPartsRow.holds Try.pinned (OpenSpec.ofChange fnBetweenPartsSpec)

/-- ITS FALSE NEIGHBOUR: 'it returns false'. Refute it at one input. -/
def fnBetweenPartsWrong : ChangeSpec := { name := "fnBetweenParts", fn := fun _ => fun
  | [d] => { results := [.lit (.bool false)], args := [d] }
  | _ => none }
def FnBetweenPartsWrongFalsely : Prop := fnBetweenPartsRow.holds Try.pinned (OpenSpec.ofChange fnBetweenPartsWrong)

/- THE SECOND FORM. 'bulk': how many values and letters a reading holds, each counted each time it is reached (what is shared counts as often as it is met; a slice's spare places count too). A statement '..UptoSaid' is the law's where the arguments, and the package variables that the reading takes, are together of bulk at most 1048576: NARROWER than '..Said'. Prove '..Said' where nothing that the law and all that it calls make is longer than what came in: it says more and counts as full. Else prove '..UptoSaid'. A law counts once. -/
mutual
def uptoBulk {H : Type} : DataW H → Nat
  | .lit (.string bytes) => bytes.length + 1
  | .lit _ => 1
  | .nil => 1
  | .ptr d => uptoBulk d + 1
  | .slice elems spare => uptoBulkAll elems + uptoBulkAll spare + 1
  | .agg parts => uptoBulkAll parts + 1
  | .iface _ d => uptoBulk d + 1
  | .map entries => uptoBulkEntries entries + 1
  | .held _ => 1
def uptoBulkAll {H : Type} : List (DataW H) → Nat
  | [] => 0
  | d :: r => uptoBulk d + uptoBulkAll r
def uptoBulkEntries {H : Type} : List (Lit × DataW H) → Nat
  | [] => 0
  | x :: r => uptoBulkEntry x + uptoBulkEntries r
def uptoBulkEntry {H : Type} : Lit × DataW H → Nat
  | (.string bytes, d) => bytes.length + uptoBulk d + 1
  | (_, d) => uptoBulk d + 1
 end
def uptoSmall : (H : Type) → List (DataW H) → Bool := fun _ ds => decide (uptoBulkAll ds ≤ 1048576)
def OpenSpec.upto (s : _root_.Go.ChangeSpec) : _root_.Go.OpenSpec := { _root_.Go.OpenSpec.ofChange s with cond := some uptoSmall }

/-- 'laws.FnExactOrderCount', WHERE WHAT IT READS IS OF BULK AT MOST 1048576: true; the input reads as it did. -/
def fnExactOrderCountUptoRow : OpenClaim := { program := "ytjgbhdidboofbaa", sum := "259d41878f2bc5a31248cba2782c769a5eb405c55b51bd51a97158f7da975bb1", func := "loop.example/icecores/laws.FnExactOrderCount", spec := "fnExactOrderCount", apart := false, narrowed := true }
def FnExactOrderCountUptoSaid : Prop := fnExactOrderCountUptoRow.holds Try.pinned (OpenSpec.upto fnExactOrderCountSpec)

/-- 'laws.FnOrderCountMore', WHERE WHAT IT READS IS OF BULK AT MOST 1048576: true; the input reads as it did. -/
def fnOrderCountMoreUptoRow : OpenClaim := { program := "ytjgbhdidboofbaa", sum := "259d41878f2bc5a31248cba2782c769a5eb405c55b51bd51a97158f7da975bb1", func := "loop.example/icecores/laws.FnOrderCountMore", spec := "fnOrderCountMore", apart := false, narrowed := true }
def FnOrderCountMoreUptoSaid : Prop := fnOrderCountMoreUptoRow.holds Try.pinned (OpenSpec.upto fnOrderCountMoreSpec)

/-- 'laws.FnOrderCountSum', WHERE WHAT IT READS IS OF BULK AT MOST 1048576: true; the input reads as it did. -/
def fnOrderCountSumUptoRow : OpenClaim := { program := "ytjgbhdidboofbaa", sum := "259d41878f2bc5a31248cba2782c769a5eb405c55b51bd51a97158f7da975bb1", func := "loop.example/icecores/laws.FnOrderCountSum", spec := "fnOrderCountSum", apart := false, narrowed := true }
def FnOrderCountSumUptoSaid : Prop := fnOrderCountSumUptoRow.holds Try.pinned (OpenSpec.upto fnOrderCountSumSpec)

/-- 'laws.FnOrderCount', WHERE WHAT IT READS IS OF BULK AT MOST 1048576: true; the input reads as it did. -/
def fnOrderCountUptoRow : OpenClaim := { program := "ytjgbhdidboofbaa", sum := "259d41878f2bc5a31248cba2782c769a5eb405c55b51bd51a97158f7da975bb1", func := "loop.example/icecores/laws.FnOrderCount", spec := "fnOrderCount", apart := false, narrowed := true }
def FnOrderCountUptoSaid : Prop := fnOrderCountUptoRow.holds Try.pinned (OpenSpec.upto fnOrderCountSpec)

/-- 'laws.FnExactOrderBetween', WHERE WHAT IT READS IS OF BULK AT MOST 1048576: true; the input reads as it did. -/
def fnExactOrderBetweenUptoRow : OpenClaim := { program := "ytjgbhdidboofbaa", sum := "259d41878f2bc5a31248cba2782c769a5eb405c55b51bd51a97158f7da975bb1", func := "loop.example/icecores/laws.FnExactOrderBetween", spec := "fnExactOrderBetween", apart := false, narrowed := true }
def FnExactOrderBetweenUptoSaid : Prop := fnExactOrderBetweenUptoRow.holds Try.pinned (OpenSpec.upto fnExactOrderBetweenSpec)

/-- 'laws.FnBetween24', WHERE WHAT IT READS IS OF BULK AT MOST 1048576: true; the input reads as it did. -/
def fnBetween24UptoRow : OpenClaim := { program := "ytjgbhdidboofbaa", sum := "259d41878f2bc5a31248cba2782c769a5eb405c55b51bd51a97158f7da975bb1", func := "loop.example/icecores/laws.FnBetween24", spec := "fnBetween24", apart := false, narrowed := true }
def FnBetween24UptoSaid : Prop := fnBetween24UptoRow.holds Try.pinned (OpenSpec.upto fnBetween24Spec)

/-- 'laws.FnBetweenEnds', WHERE WHAT IT READS IS OF BULK AT MOST 1048576: true; the input reads as it did. -/
def fnBetweenEndsUptoRow : OpenClaim := { program := "ytjgbhdidboofbaa", sum := "259d41878f2bc5a31248cba2782c769a5eb405c55b51bd51a97158f7da975bb1", func := "loop.example/icecores/laws.FnBetweenEnds", spec := "fnBetweenEnds", apart := false, narrowed := true }
def FnBetweenEndsUptoSaid : Prop := fnBetweenEndsUptoRow.holds Try.pinned (OpenSpec.upto fnBetweenEndsSpec)

/-- 'laws.FnBetweenRises', WHERE WHAT IT READS IS OF BULK AT MOST 1048576: true; the input reads as it did. -/
def fnBetweenRisesUptoRow : OpenClaim := { program := "ytjgbhdidboofbaa", sum := "259d41878f2bc5a31248cba2782c769a5eb405c55b51bd51a97158f7da975bb1", func := "loop.example/icecores/laws.FnBetweenRises", spec := "fnBetweenRises", apart := false, narrowed := true }
def FnBetweenRisesUptoSaid : Prop := fnBetweenRisesUptoRow.holds Try.pinned (OpenSpec.upto fnBetweenRisesSpec)

/-- 'laws.FnBetweenParts', WHERE WHAT IT READS IS OF BULK AT MOST 1048576: true; the input reads as it did. -/
def fnBetweenPartsUptoRow : OpenClaim := { program := "ytjgbhdidboofbaa", sum := "259d41878f2bc5a31248cba2782c769a5eb405c55b51bd51a97158f7da975bb1", func := "loop.example/icecores/laws.FnBetweenParts", spec := "fnBetweenParts", apart := false, narrowed := true }
def FnBetweenPartsUptoSaid : Prop := fnBetweenPartsUptoRow.holds Try.pinned (OpenSpec.upto fnBetweenPartsSpec)

end Rows
end Go.Proofs.Ytjgbhdidboofbaa
