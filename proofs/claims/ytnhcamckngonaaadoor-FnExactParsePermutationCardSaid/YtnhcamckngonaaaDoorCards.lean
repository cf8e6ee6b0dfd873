/-
  DERIVED. GIVEN WITH THE SEED: THE CARDS: each row of YtnhcamckngonaaaDoorRows.lean that lists a variable, with what it lists TIED to the program's text (the seventh form; the later family's looks); each row that meets fmt, with fmt's text TOLD by the authors' own Lean function (tested against real Go, not proved from fmt's source: count such statements apart). THE CARD IS WHAT COUNTS. Prove the row's statement (the work); the ties are given (YtnhcamckngonaaaDoorTie.lean); close each card by the builder's one call (the guide's Derived/Test/ToyasCard.lean, 'card_holds'). Laid BY PROGRAM, IN A SANDBOX (cutbox-door.mjs). By AI agents, Wed Nov 11 2026. No macro, syntax, notation, axiom, sorry.
-/
import Derived.Test.YtnhcamckngonaaaDoorRows
import GoSem.ClaimSeven
namespace Go.Proofs.YtnhcamckngonaaaDoor
namespace Rows

/-- THE TIED CARD OF 'laws.FnPermutationTexts'. -/
def fnPermutationTextsCard : Claim7 := { stood := { row := fnPermutationTextsRow, standIns := [], harness := (true, "3e69ffe793ea373b98a13300105e4a267ad0efc8e81db00f4ee6f71620657cbb"), looks := true }, kinds := [], alts := [], laidByText := true, laidKinds := [.data, .data, .data, .data, .sentinel, .sentinel, .pinned], laidTests := true, laidLooks := .later }
def FnPermutationTextsCardSaid : Prop := Claim7.holds Tryd.pinned (.plain (OpenSpec.ofChange fnPermutationTextsSpec)) fnPermutationTextsCard

/-- THE TIED CARD OF 'laws.FnExactParseManiplex'. -/
def fnExactParseManiplexCard : Claim7 := { stood := { row := fnExactParseManiplexRow, standIns := [], harness := (true, "3e69ffe793ea373b98a13300105e4a267ad0efc8e81db00f4ee6f71620657cbb"), looks := true }, kinds := [], alts := [], laidByText := true, laidKinds := [.data, .data, .data, .data, .sentinel, .sentinel, .pinned], laidTests := true, laidLooks := .later }
def FnExactParseManiplexCardSaid : Prop := Claim7.holds Tryd.pinned (.plain (OpenSpec.ofChange fnExactParseManiplexSpec)) fnExactParseManiplexCard

/-- THE TIED CARD OF 'laws.FnExactParsePermutation'. -/
def fnExactParsePermutationCard : Claim7 := { stood := { row := fnExactParsePermutationRow, standIns := [], harness := (true, "3e69ffe793ea373b98a13300105e4a267ad0efc8e81db00f4ee6f71620657cbb"), looks := true }, kinds := [], alts := [], laidByText := true, laidKinds := [.data, .data, .data, .data, .sentinel, .sentinel, .pinned], laidTests := true, laidLooks := .later }
def FnExactParsePermutationCardSaid : Prop := Claim7.holds Tryd.pinned (.plain (OpenSpec.ofChange fnExactParsePermutationSpec)) fnExactParsePermutationCard

/-- THE SECOND FORM's CARD OF 'laws.FnPermutationTexts'. -/
def fnPermutationTextsUptoCard : Claim7 := { stood := { row := fnPermutationTextsUptoRow, standIns := [], harness := (true, "3e69ffe793ea373b98a13300105e4a267ad0efc8e81db00f4ee6f71620657cbb"), looks := true }, kinds := [], alts := [], laidByText := true, laidKinds := [.data, .data, .data, .data, .sentinel, .sentinel, .pinned], laidTests := true, laidLooks := .later }
def FnPermutationTextsUptoCardSaid : Prop := Claim7.holds Tryd.pinned (.plain (OpenSpec.upto fnPermutationTextsSpec)) fnPermutationTextsUptoCard

/-- THE SECOND FORM's CARD OF 'laws.FnExactParseManiplex'. -/
def fnExactParseManiplexUptoCard : Claim7 := { stood := { row := fnExactParseManiplexUptoRow, standIns := [], harness := (true, "3e69ffe793ea373b98a13300105e4a267ad0efc8e81db00f4ee6f71620657cbb"), looks := true }, kinds := [], alts := [], laidByText := true, laidKinds := [.data, .data, .data, .data, .sentinel, .sentinel, .pinned], laidTests := true, laidLooks := .later }
def FnExactParseManiplexUptoCardSaid : Prop := Claim7.holds Tryd.pinned (.plain (OpenSpec.upto fnExactParseManiplexSpec)) fnExactParseManiplexUptoCard

/-- THE SECOND FORM's CARD OF 'laws.FnExactParsePermutation'. -/
def fnExactParsePermutationUptoCard : Claim7 := { stood := { row := fnExactParsePermutationUptoRow, standIns := [], harness := (true, "3e69ffe793ea373b98a13300105e4a267ad0efc8e81db00f4ee6f71620657cbb"), looks := true }, kinds := [], alts := [], laidByText := true, laidKinds := [.data, .data, .data, .data, .sentinel, .sentinel, .pinned], laidTests := true, laidLooks := .later }
def FnExactParsePermutationUptoCardSaid : Prop := Claim7.holds Tryd.pinned (.plain (OpenSpec.upto fnExactParsePermutationSpec)) fnExactParsePermutationUptoCard
end Rows
end Go.Proofs.YtnhcamckngonaaaDoor
