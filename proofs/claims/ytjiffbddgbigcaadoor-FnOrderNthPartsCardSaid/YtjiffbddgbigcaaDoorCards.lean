/-
  DERIVED. GIVEN WITH THE SEED: THE CARDS: each row of YtjiffbddgbigcaaDoorRows.lean that lists a variable, with what it lists TIED to the program's text (the seventh form; the later family's looks); each row that meets fmt, with fmt's text TOLD by the authors' own Lean function (tested against real Go, not proved from fmt's source: count such statements apart). THE CARD IS WHAT COUNTS. Prove the row's statement (the work); the ties are given (YtjiffbddgbigcaaDoorTie.lean); close each card by the builder's one call (the guide's Derived/Test/ToyasCard.lean, 'card_holds'). Laid BY PROGRAM, IN A SANDBOX (cutbox-door.mjs). By AI agents, Wed Nov 11 2026. No macro, syntax, notation, axiom, sorry.
-/
import Derived.Test.YtjiffbddgbigcaaDoorRows
import GoSem.ClaimSeven
namespace Go.Proofs.YtjiffbddgbigcaaDoor
namespace Rows

/-- THE TIED CARD OF 'laws.FnOrderNthParts'. -/
def fnOrderNthPartsCard : Claim7 := { stood := { row := fnOrderNthPartsRow, standIns := [], harness := (true, "1af537b0d2bd500c0000161de2fe2ae5b14b9b77cef29beab41ddab72860680f"), looks := false }, kinds := [], alts := [], laidByText := true, laidKinds := [.data, .pinned], laidTests := true, laidLooks := .later }
def FnOrderNthPartsCardSaid : Prop := Claim7.holds Tryd.pinned (.plain (OpenSpec.ofChange fnOrderNthPartsSpec)) fnOrderNthPartsCard

/-- THE TIED CARD OF 'laws.FnOrderNth'. -/
def fnOrderNthCard : Claim7 := { stood := { row := fnOrderNthRow, standIns := [], harness := (true, "1af537b0d2bd500c0000161de2fe2ae5b14b9b77cef29beab41ddab72860680f"), looks := false }, kinds := [], alts := [], laidByText := true, laidKinds := [.data, .pinned], laidTests := true, laidLooks := .later }
def FnOrderNthCardSaid : Prop := Claim7.holds Tryd.pinned (.plain (OpenSpec.ofChange fnOrderNthSpec)) fnOrderNthCard

/-- THE TIED CARD OF 'laws.FnOrderRank'. -/
def fnOrderRankCard : Claim7 := { stood := { row := fnOrderRankRow, standIns := [], harness := (true, "1af537b0d2bd500c0000161de2fe2ae5b14b9b77cef29beab41ddab72860680f"), looks := false }, kinds := [], alts := [], laidByText := true, laidKinds := [.data, .pinned], laidTests := true, laidLooks := .later }
def FnOrderRankCardSaid : Prop := Claim7.holds Tryd.pinned (.plain (OpenSpec.ofChange fnOrderRankSpec)) fnOrderRankCard

/-- THE TIED CARD OF 'laws.FnExactOrderParts'. -/
def fnExactOrderPartsCard : Claim7 := { stood := { row := fnExactOrderPartsRow, standIns := [], harness := (true, "1af537b0d2bd500c0000161de2fe2ae5b14b9b77cef29beab41ddab72860680f"), looks := false }, kinds := [], alts := [], laidByText := true, laidKinds := [.data, .pinned], laidTests := true, laidLooks := .later }
def FnExactOrderPartsCardSaid : Prop := Claim7.holds Tryd.pinned (.plain (OpenSpec.ofChange fnExactOrderPartsSpec)) fnExactOrderPartsCard

/-- THE TIED CARD OF 'laws.FnExactOrderRank'. -/
def fnExactOrderRankCard : Claim7 := { stood := { row := fnExactOrderRankRow, standIns := [], harness := (true, "1af537b0d2bd500c0000161de2fe2ae5b14b9b77cef29beab41ddab72860680f"), looks := false }, kinds := [], alts := [], laidByText := true, laidKinds := [.data, .pinned], laidTests := true, laidLooks := .later }
def FnExactOrderRankCardSaid : Prop := Claim7.holds Tryd.pinned (.plain (OpenSpec.ofChange fnExactOrderRankSpec)) fnExactOrderRankCard

/-- THE TIED CARD OF 'laws.FnOrderPartsJoin'. -/
def fnOrderPartsJoinCard : Claim7 := { stood := { row := fnOrderPartsJoinRow, standIns := [], harness := (true, "1af537b0d2bd500c0000161de2fe2ae5b14b9b77cef29beab41ddab72860680f"), looks := false }, kinds := [], alts := [], laidByText := true, laidKinds := [.data, .pinned], laidTests := true, laidLooks := .later }
def FnOrderPartsJoinCardSaid : Prop := Claim7.holds Tryd.pinned (.plain (OpenSpec.ofChange fnOrderPartsJoinSpec)) fnOrderPartsJoinCard

/-- THE TIED CARD OF 'laws.FnOrderParts'. -/
def fnOrderPartsCard : Claim7 := { stood := { row := fnOrderPartsRow, standIns := [], harness := (true, "1af537b0d2bd500c0000161de2fe2ae5b14b9b77cef29beab41ddab72860680f"), looks := false }, kinds := [], alts := [], laidByText := true, laidKinds := [.data, .pinned], laidTests := true, laidLooks := .later }
def FnOrderPartsCardSaid : Prop := Claim7.holds Tryd.pinned (.plain (OpenSpec.ofChange fnOrderPartsSpec)) fnOrderPartsCard

/-- THE TIED CARD OF 'laws.FnOrderRankTurn'. -/
def fnOrderRankTurnCard : Claim7 := { stood := { row := fnOrderRankTurnRow, standIns := [], harness := (true, "1af537b0d2bd500c0000161de2fe2ae5b14b9b77cef29beab41ddab72860680f"), looks := false }, kinds := [], alts := [], laidByText := true, laidKinds := [.data, .pinned], laidTests := true, laidLooks := .later }
def FnOrderRankTurnCardSaid : Prop := Claim7.holds Tryd.pinned (.plain (OpenSpec.ofChange fnOrderRankTurnSpec)) fnOrderRankTurnCard

/-- THE SECOND FORM's CARD OF 'laws.FnOrderNthParts'. -/
def fnOrderNthPartsUptoCard : Claim7 := { stood := { row := fnOrderNthPartsUptoRow, standIns := [], harness := (true, "1af537b0d2bd500c0000161de2fe2ae5b14b9b77cef29beab41ddab72860680f"), looks := false }, kinds := [], alts := [], laidByText := true, laidKinds := [.data, .pinned], laidTests := true, laidLooks := .later }
def FnOrderNthPartsUptoCardSaid : Prop := Claim7.holds Tryd.pinned (.plain (OpenSpec.upto fnOrderNthPartsSpec)) fnOrderNthPartsUptoCard

/-- THE SECOND FORM's CARD OF 'laws.FnOrderNth'. -/
def fnOrderNthUptoCard : Claim7 := { stood := { row := fnOrderNthUptoRow, standIns := [], harness := (true, "1af537b0d2bd500c0000161de2fe2ae5b14b9b77cef29beab41ddab72860680f"), looks := false }, kinds := [], alts := [], laidByText := true, laidKinds := [.data, .pinned], laidTests := true, laidLooks := .later }
def FnOrderNthUptoCardSaid : Prop := Claim7.holds Tryd.pinned (.plain (OpenSpec.upto fnOrderNthSpec)) fnOrderNthUptoCard

/-- THE SECOND FORM's CARD OF 'laws.FnOrderRank'. -/
def fnOrderRankUptoCard : Claim7 := { stood := { row := fnOrderRankUptoRow, standIns := [], harness := (true, "1af537b0d2bd500c0000161de2fe2ae5b14b9b77cef29beab41ddab72860680f"), looks := false }, kinds := [], alts := [], laidByText := true, laidKinds := [.data, .pinned], laidTests := true, laidLooks := .later }
def FnOrderRankUptoCardSaid : Prop := Claim7.holds Tryd.pinned (.plain (OpenSpec.upto fnOrderRankSpec)) fnOrderRankUptoCard

/-- THE SECOND FORM's CARD OF 'laws.FnExactOrderParts'. -/
def fnExactOrderPartsUptoCard : Claim7 := { stood := { row := fnExactOrderPartsUptoRow, standIns := [], harness := (true, "1af537b0d2bd500c0000161de2fe2ae5b14b9b77cef29beab41ddab72860680f"), looks := false }, kinds := [], alts := [], laidByText := true, laidKinds := [.data, .pinned], laidTests := true, laidLooks := .later }
def FnExactOrderPartsUptoCardSaid : Prop := Claim7.holds Tryd.pinned (.plain (OpenSpec.upto fnExactOrderPartsSpec)) fnExactOrderPartsUptoCard

/-- THE SECOND FORM's CARD OF 'laws.FnExactOrderRank'. -/
def fnExactOrderRankUptoCard : Claim7 := { stood := { row := fnExactOrderRankUptoRow, standIns := [], harness := (true, "1af537b0d2bd500c0000161de2fe2ae5b14b9b77cef29beab41ddab72860680f"), looks := false }, kinds := [], alts := [], laidByText := true, laidKinds := [.data, .pinned], laidTests := true, laidLooks := .later }
def FnExactOrderRankUptoCardSaid : Prop := Claim7.holds Tryd.pinned (.plain (OpenSpec.upto fnExactOrderRankSpec)) fnExactOrderRankUptoCard

/-- THE SECOND FORM's CARD OF 'laws.FnOrderPartsJoin'. -/
def fnOrderPartsJoinUptoCard : Claim7 := { stood := { row := fnOrderPartsJoinUptoRow, standIns := [], harness := (true, "1af537b0d2bd500c0000161de2fe2ae5b14b9b77cef29beab41ddab72860680f"), looks := false }, kinds := [], alts := [], laidByText := true, laidKinds := [.data, .pinned], laidTests := true, laidLooks := .later }
def FnOrderPartsJoinUptoCardSaid : Prop := Claim7.holds Tryd.pinned (.plain (OpenSpec.upto fnOrderPartsJoinSpec)) fnOrderPartsJoinUptoCard

/-- THE SECOND FORM's CARD OF 'laws.FnOrderParts'. -/
def fnOrderPartsUptoCard : Claim7 := { stood := { row := fnOrderPartsUptoRow, standIns := [], harness := (true, "1af537b0d2bd500c0000161de2fe2ae5b14b9b77cef29beab41ddab72860680f"), looks := false }, kinds := [], alts := [], laidByText := true, laidKinds := [.data, .pinned], laidTests := true, laidLooks := .later }
def FnOrderPartsUptoCardSaid : Prop := Claim7.holds Tryd.pinned (.plain (OpenSpec.upto fnOrderPartsSpec)) fnOrderPartsUptoCard

/-- THE SECOND FORM's CARD OF 'laws.FnOrderRankTurn'. -/
def fnOrderRankTurnUptoCard : Claim7 := { stood := { row := fnOrderRankTurnUptoRow, standIns := [], harness := (true, "1af537b0d2bd500c0000161de2fe2ae5b14b9b77cef29beab41ddab72860680f"), looks := false }, kinds := [], alts := [], laidByText := true, laidKinds := [.data, .pinned], laidTests := true, laidLooks := .later }
def FnOrderRankTurnUptoCardSaid : Prop := Claim7.holds Tryd.pinned (.plain (OpenSpec.upto fnOrderRankTurnSpec)) fnOrderRankTurnUptoCard
end Rows
end Go.Proofs.YtjiffbddgbigcaaDoor
