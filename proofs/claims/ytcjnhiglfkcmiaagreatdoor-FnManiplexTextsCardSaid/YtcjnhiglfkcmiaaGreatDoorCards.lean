/-
  DERIVED. GIVEN WITH THE SEED: THE CARDS: each row of YtcjnhiglfkcmiaaGreatDoorRows.lean that lists a variable, with what it lists TIED to the program's text (the seventh form; the later family's looks); each row that meets fmt, with fmt's text TOLD by the authors' own Lean function (tested against real Go, not proved from fmt's source: count such statements apart). THE CARD IS WHAT COUNTS. Prove the row's statement (the work); the ties are given (YtcjnhiglfkcmiaaGreatDoorTie.lean); close each card by the builder's one call (the guide's Derived/Test/ToyasCard.lean, 'card_holds'). Laid BY PROGRAM, IN A SANDBOX (cutbox-door.mjs). By AI agents, Wed Nov 11 2026. No macro, syntax, notation, axiom, sorry.
-/
import Derived.Test.YtcjnhiglfkcmiaaGreatDoorRows
import GoSem.ClaimSeven
namespace Go.Proofs.YtcjnhiglfkcmiaaGreatDoor
namespace Rows

/-- THE TIED CARD OF 'laws.FnManiplexTexts'. -/
def fnManiplexTextsCard : Claim7 := { stood := { row := fnManiplexTextsRow, standIns := [], harness := (true, "c65c25f0150331c6d7fa9c9c7e77dd0ff8fcadf7cd5d7317c34a3aa81eaa6fe0"), looks := true }, kinds := [], alts := [], laidByText := true, laidKinds := [.data, .data, .data, .data, .sentinel, .sentinel, .pinned], laidTests := true, laidLooks := .later }
def FnManiplexTextsCardSaid : Prop := Claim7.holds Tryz.pinned (.plain (OpenSpec.ofChange fnManiplexTextsSpec)) fnManiplexTextsCard

/-- THE SECOND FORM's CARD OF 'laws.FnManiplexTexts'. -/
def fnManiplexTextsUptoCard : Claim7 := { stood := { row := fnManiplexTextsUptoRow, standIns := [], harness := (true, "c65c25f0150331c6d7fa9c9c7e77dd0ff8fcadf7cd5d7317c34a3aa81eaa6fe0"), looks := true }, kinds := [], alts := [], laidByText := true, laidKinds := [.data, .data, .data, .data, .sentinel, .sentinel, .pinned], laidTests := true, laidLooks := .later }
def FnManiplexTextsUptoCardSaid : Prop := Claim7.holds Tryz.pinned (.plain (OpenSpec.upto fnManiplexTextsSpec)) fnManiplexTextsUptoCard
end Rows
end Go.Proofs.YtcjnhiglfkcmiaaGreatDoor
