/-
  DERIVED. GIVEN WITH THE SEED: THE CARDS: each row of YtbioelmofceaaaaDoorRows.lean that lists a variable, with what it lists TIED to the program's text (the seventh form; the later family's looks); each row that meets fmt, with fmt's text TOLD by the authors' own Lean function (tested against real Go, not proved from fmt's source: count such statements apart). THE CARD IS WHAT COUNTS. Prove the row's statement (the work); the ties are given (YtbioelmofceaaaaDoorTie.lean); close each card by the builder's one call (the guide's Derived/Test/ToyasCard.lean, 'card_holds'). Laid BY PROGRAM, IN A SANDBOX (cutbox-door.mjs). By AI agents, Wed Nov 11 2026. No macro, syntax, notation, axiom, sorry.
-/
import Derived.Test.YtbioelmofceaaaaDoorRows
import GoSem.ClaimSeven
namespace Go.Proofs.YtbioelmofceaaaaDoor
namespace Rows

/-- THE TIED CARD OF 'laws.FnExactPermutationText'. -/
def fnExactPermutationTextCard : Claim7 := { stood := { row := fnExactPermutationTextRow, standIns := [], harness := (true, "401fdfcc372db6194682396d98b22277b9c9bf13390fb1d9fb469a7e8f1fbf0d"), looks := false }, kinds := [], alts := [], laidByText := true, laidKinds := [.data, .data, .data], laidTests := true, laidLooks := .later }
def FnExactPermutationTextCardSaid : Prop := Claim7.holds Tryd.pinned (.plain (OpenSpec.ofChange fnExactPermutationTextSpec)) fnExactPermutationTextCard

/-- THE TIED CARD OF 'laws.FnExactConnectionFault'. -/
def fnExactConnectionFaultCard : Claim7 := { stood := { row := fnExactConnectionFaultRow, standIns := [], harness := (true, "401fdfcc372db6194682396d98b22277b9c9bf13390fb1d9fb469a7e8f1fbf0d"), looks := false }, kinds := [], alts := [], laidByText := true, laidKinds := [.data, .data, .data], laidTests := true, laidLooks := .later }
def FnExactConnectionFaultCardSaid : Prop := Claim7.holds Tryd.pinned (.plain (OpenSpec.ofChange fnExactConnectionFaultSpec)) fnExactConnectionFaultCard

/-- THE TIED CARD OF 'laws.FnExactManiplexText'. -/
def fnExactManiplexTextCard : Claim7 := { stood := { row := fnExactManiplexTextRow, standIns := [], harness := (true, "401fdfcc372db6194682396d98b22277b9c9bf13390fb1d9fb469a7e8f1fbf0d"), looks := false }, kinds := [], alts := [], laidByText := true, laidKinds := [.data, .data, .data, .data, .pinned], laidTests := true, laidLooks := .later }
def FnExactManiplexTextCardSaid : Prop := Claim7.holds Tryd.pinned (.plain (OpenSpec.ofChange fnExactManiplexTextSpec)) fnExactManiplexTextCard

/-- THE TIED CARD OF 'laws.FnExactGroupElements'. -/
def fnExactGroupElementsCard : Claim7 := { stood := { row := fnExactGroupElementsRow, standIns := [], harness := (true, "401fdfcc372db6194682396d98b22277b9c9bf13390fb1d9fb469a7e8f1fbf0d"), looks := false }, kinds := [], alts := [], laidByText := true, laidKinds := [.data, .data, .data], laidTests := true, laidLooks := .later }
def FnExactGroupElementsCardSaid : Prop := Claim7.holds Tryd.pinned (.plain (OpenSpec.ofChange fnExactGroupElementsSpec)) fnExactGroupElementsCard

/-- THE TIED CARD OF 'laws.FnGroups'. -/
def fnGroupsCard : Claim7 := { stood := { row := fnGroupsRow, standIns := [], harness := (true, "401fdfcc372db6194682396d98b22277b9c9bf13390fb1d9fb469a7e8f1fbf0d"), looks := false }, kinds := [], alts := [], laidByText := true, laidKinds := [.data, .data, .data], laidTests := true, laidLooks := .later }
def FnGroupsCardSaid : Prop := Claim7.holds Tryd.pinned (.plain (OpenSpec.ofChange fnGroupsSpec)) fnGroupsCard

/-- THE SECOND FORM's CARD OF 'laws.FnExactPermutationText'. -/
def fnExactPermutationTextUptoCard : Claim7 := { stood := { row := fnExactPermutationTextUptoRow, standIns := [], harness := (true, "401fdfcc372db6194682396d98b22277b9c9bf13390fb1d9fb469a7e8f1fbf0d"), looks := false }, kinds := [], alts := [], laidByText := true, laidKinds := [.data, .data, .data], laidTests := true, laidLooks := .later }
def FnExactPermutationTextUptoCardSaid : Prop := Claim7.holds Tryd.pinned (.plain (OpenSpec.upto fnExactPermutationTextSpec)) fnExactPermutationTextUptoCard

/-- THE SECOND FORM's CARD OF 'laws.FnExactConnectionFault'. -/
def fnExactConnectionFaultUptoCard : Claim7 := { stood := { row := fnExactConnectionFaultUptoRow, standIns := [], harness := (true, "401fdfcc372db6194682396d98b22277b9c9bf13390fb1d9fb469a7e8f1fbf0d"), looks := false }, kinds := [], alts := [], laidByText := true, laidKinds := [.data, .data, .data], laidTests := true, laidLooks := .later }
def FnExactConnectionFaultUptoCardSaid : Prop := Claim7.holds Tryd.pinned (.plain (OpenSpec.upto fnExactConnectionFaultSpec)) fnExactConnectionFaultUptoCard

/-- THE SECOND FORM's CARD OF 'laws.FnExactManiplexText'. -/
def fnExactManiplexTextUptoCard : Claim7 := { stood := { row := fnExactManiplexTextUptoRow, standIns := [], harness := (true, "401fdfcc372db6194682396d98b22277b9c9bf13390fb1d9fb469a7e8f1fbf0d"), looks := false }, kinds := [], alts := [], laidByText := true, laidKinds := [.data, .data, .data, .data, .pinned], laidTests := true, laidLooks := .later }
def FnExactManiplexTextUptoCardSaid : Prop := Claim7.holds Tryd.pinned (.plain (OpenSpec.upto fnExactManiplexTextSpec)) fnExactManiplexTextUptoCard

/-- THE SECOND FORM's CARD OF 'laws.FnExactGroupElements'. -/
def fnExactGroupElementsUptoCard : Claim7 := { stood := { row := fnExactGroupElementsUptoRow, standIns := [], harness := (true, "401fdfcc372db6194682396d98b22277b9c9bf13390fb1d9fb469a7e8f1fbf0d"), looks := false }, kinds := [], alts := [], laidByText := true, laidKinds := [.data, .data, .data], laidTests := true, laidLooks := .later }
def FnExactGroupElementsUptoCardSaid : Prop := Claim7.holds Tryd.pinned (.plain (OpenSpec.upto fnExactGroupElementsSpec)) fnExactGroupElementsUptoCard

/-- THE SECOND FORM's CARD OF 'laws.FnGroups'. -/
def fnGroupsUptoCard : Claim7 := { stood := { row := fnGroupsUptoRow, standIns := [], harness := (true, "401fdfcc372db6194682396d98b22277b9c9bf13390fb1d9fb469a7e8f1fbf0d"), looks := false }, kinds := [], alts := [], laidByText := true, laidKinds := [.data, .data, .data], laidTests := true, laidLooks := .later }
def FnGroupsUptoCardSaid : Prop := Claim7.holds Tryd.pinned (.plain (OpenSpec.upto fnGroupsSpec)) fnGroupsUptoCard
end Rows
end Go.Proofs.YtbioelmofceaaaaDoor
