/-
  DERIVED. GIVEN WITH THE SEED: THE CARDS: each row of YtebdfhkimnlglaaDoorRows.lean that lists a variable, with what it lists TIED to the program's text (the seventh form; the later family's looks); each row that meets fmt, with fmt's text TOLD by the authors' own Lean function (tested against real Go, not proved from fmt's source: count such statements apart). THE CARD IS WHAT COUNTS. Prove the row's statement (the work); the ties are given (YtebdfhkimnlglaaDoorTie.lean); close each card by the builder's one call (the guide's Derived/Test/ToyasCard.lean, 'card_holds'). Laid BY PROGRAM, IN A SANDBOX (cutbox-door.mjs). By AI agents, Wed Nov 11 2026. No macro, syntax, notation, axiom, sorry.
-/
import Derived.Test.YtebdfhkimnlglaaDoorRows
import GoSem.ClaimSeven
namespace Go.Proofs.YtebdfhkimnlglaaDoor
namespace Rows

/-- THE TIED CARD OF 'laws.FnExactConnectionFault'. -/
def fnExactConnectionFaultCard : Claim7 := { stood := { row := fnExactConnectionFaultRow, standIns := [], harness := (true, "18bc52a21f89bd4c80dfb9b348d22364bbc924749d1a4845a7f892eb48605d59"), looks := false }, kinds := [], alts := [], laidByText := true, laidKinds := [.data, .data, .data], laidTests := true, laidLooks := .later }
def FnExactConnectionFaultCardSaid : Prop := Claim7.holds Tryd.pinned (.plain (OpenSpec.ofChange fnExactConnectionFaultSpec)) fnExactConnectionFaultCard

/-- THE SECOND FORM's CARD OF 'laws.FnExactConnectionFault'. -/
def fnExactConnectionFaultUptoCard : Claim7 := { stood := { row := fnExactConnectionFaultUptoRow, standIns := [], harness := (true, "18bc52a21f89bd4c80dfb9b348d22364bbc924749d1a4845a7f892eb48605d59"), looks := false }, kinds := [], alts := [], laidByText := true, laidKinds := [.data, .data, .data], laidTests := true, laidLooks := .later }
def FnExactConnectionFaultUptoCardSaid : Prop := Claim7.holds Tryd.pinned (.plain (OpenSpec.upto fnExactConnectionFaultSpec)) fnExactConnectionFaultUptoCard
end Rows
end Go.Proofs.YtebdfhkimnlglaaDoor
