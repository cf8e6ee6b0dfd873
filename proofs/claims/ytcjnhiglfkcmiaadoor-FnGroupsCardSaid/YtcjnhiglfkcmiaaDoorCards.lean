/-
  DERIVED. GIVEN WITH THE SEED: THE CARDS: each row of YtcjnhiglfkcmiaaDoorRows.lean that lists a variable, with what it lists TIED to the program's text (the seventh form; the later family's looks); each row that meets fmt, with fmt's text TOLD by the authors' own Lean function (tested against real Go, not proved from fmt's source: count such statements apart). THE CARD IS WHAT COUNTS. Prove the row's statement (the work); the ties are given (YtcjnhiglfkcmiaaDoorTie.lean); close each card by the builder's one call (the guide's Derived/Test/ToyasCard.lean, 'card_holds'). Laid BY PROGRAM, IN A SANDBOX (cutbox-door.mjs). By AI agents, Wed Nov 11 2026. No macro, syntax, notation, axiom, sorry.
-/
import Derived.Test.YtcjnhiglfkcmiaaDoorRows
import GoSem.ClaimSeven
namespace Go.Proofs.YtcjnhiglfkcmiaaDoor
namespace Rows

/-- THE TIED CARD OF 'laws.FnPermutationTexts'. -/
def fnPermutationTextsCard : Claim7 := { stood := { row := fnPermutationTextsRow, standIns := [], harness := (true, "f9bb3c7b1fa188094122b705f2fd9ea20ad19f46b1e64883b942369aedae0fce"), looks := true }, kinds := [], alts := [], laidByText := true, laidKinds := [.data, .data, .data, .data, .sentinel, .sentinel, .pinned], laidTests := true, laidLooks := .later }
def FnPermutationTextsCardSaid : Prop := Claim7.holds Tryd.pinned (.plain (OpenSpec.ofChange fnPermutationTextsSpec)) fnPermutationTextsCard

/-- THE TIED CARD OF 'laws.FnExactConnectionFault'. -/
def fnExactConnectionFaultCard : Claim7 := { stood := { row := fnExactConnectionFaultRow, standIns := [], harness := (true, "f9bb3c7b1fa188094122b705f2fd9ea20ad19f46b1e64883b942369aedae0fce"), looks := true }, kinds := [], alts := [], laidByText := true, laidKinds := [.data, .data, .data], laidTests := true, laidLooks := .later }
def FnExactConnectionFaultCardSaid : Prop := Claim7.holds Tryd.pinned (.plain (OpenSpec.ofChange fnExactConnectionFaultSpec)) fnExactConnectionFaultCard

/-- THE TIED CARD OF 'laws.FnExactGroupElements'. -/
def fnExactGroupElementsCard : Claim7 := { stood := { row := fnExactGroupElementsRow, standIns := [], harness := (true, "f9bb3c7b1fa188094122b705f2fd9ea20ad19f46b1e64883b942369aedae0fce"), looks := true }, kinds := [], alts := [], laidByText := true, laidKinds := [.data, .data, .data], laidTests := true, laidLooks := .later }
def FnExactGroupElementsCardSaid : Prop := Claim7.holds Tryd.pinned (.plain (OpenSpec.ofChange fnExactGroupElementsSpec)) fnExactGroupElementsCard

/-- THE TIED CARD OF 'laws.FnGroups'. -/
def fnGroupsCard : Claim7 := { stood := { row := fnGroupsRow, standIns := [], harness := (true, "f9bb3c7b1fa188094122b705f2fd9ea20ad19f46b1e64883b942369aedae0fce"), looks := true }, kinds := [], alts := [], laidByText := true, laidKinds := [.data, .data, .data], laidTests := true, laidLooks := .later }
def FnGroupsCardSaid : Prop := Claim7.holds Tryd.pinned (.plain (OpenSpec.ofChange fnGroupsSpec)) fnGroupsCard

/-- THE SECOND FORM's CARD OF 'laws.FnPermutationTexts'. -/
def fnPermutationTextsUptoCard : Claim7 := { stood := { row := fnPermutationTextsUptoRow, standIns := [], harness := (true, "f9bb3c7b1fa188094122b705f2fd9ea20ad19f46b1e64883b942369aedae0fce"), looks := true }, kinds := [], alts := [], laidByText := true, laidKinds := [.data, .data, .data, .data, .sentinel, .sentinel, .pinned], laidTests := true, laidLooks := .later }
def FnPermutationTextsUptoCardSaid : Prop := Claim7.holds Tryd.pinned (.plain (OpenSpec.upto fnPermutationTextsSpec)) fnPermutationTextsUptoCard

/-- THE SECOND FORM's CARD OF 'laws.FnExactConnectionFault'. -/
def fnExactConnectionFaultUptoCard : Claim7 := { stood := { row := fnExactConnectionFaultUptoRow, standIns := [], harness := (true, "f9bb3c7b1fa188094122b705f2fd9ea20ad19f46b1e64883b942369aedae0fce"), looks := true }, kinds := [], alts := [], laidByText := true, laidKinds := [.data, .data, .data], laidTests := true, laidLooks := .later }
def FnExactConnectionFaultUptoCardSaid : Prop := Claim7.holds Tryd.pinned (.plain (OpenSpec.upto fnExactConnectionFaultSpec)) fnExactConnectionFaultUptoCard

/-- THE SECOND FORM's CARD OF 'laws.FnExactGroupElements'. -/
def fnExactGroupElementsUptoCard : Claim7 := { stood := { row := fnExactGroupElementsUptoRow, standIns := [], harness := (true, "f9bb3c7b1fa188094122b705f2fd9ea20ad19f46b1e64883b942369aedae0fce"), looks := true }, kinds := [], alts := [], laidByText := true, laidKinds := [.data, .data, .data], laidTests := true, laidLooks := .later }
def FnExactGroupElementsUptoCardSaid : Prop := Claim7.holds Tryd.pinned (.plain (OpenSpec.upto fnExactGroupElementsSpec)) fnExactGroupElementsUptoCard

/-- THE SECOND FORM's CARD OF 'laws.FnGroups'. -/
def fnGroupsUptoCard : Claim7 := { stood := { row := fnGroupsUptoRow, standIns := [], harness := (true, "f9bb3c7b1fa188094122b705f2fd9ea20ad19f46b1e64883b942369aedae0fce"), looks := true }, kinds := [], alts := [], laidByText := true, laidKinds := [.data, .data, .data], laidTests := true, laidLooks := .later }
def FnGroupsUptoCardSaid : Prop := Claim7.holds Tryd.pinned (.plain (OpenSpec.upto fnGroupsSpec)) fnGroupsUptoCard
end Rows
end Go.Proofs.YtcjnhiglfkcmiaaDoor
