/-
  No cell of these rows narrows 'for every input' (looked for: loops, veiled, ifaces, maps, wideKeys, modest, calm, conditions, laid).
  DERIVED. THE GIVEN ROWS OF THIS SEAT. 10 by the template 'for every input the law returns true; each argument reads behind the call as it read before'; 0 by the template 'total and deterministic' (their statements: YtpbkdjkgaalegaaTotals.lean).
  GIVEN WITH THE SEED: the statements are not yours to turn. If you find one false, say at which input.
  Laid BY PROGRAM, IN A SANDBOX (cutbox-rows.mjs): the forced cells as the released guide's own fill.sh prints them over the translation cf586fc6fa0d206f… (all of the seat's roots in one cut). By AI agents, Wed Nov 11 2026. No macro, syntax, notation, axiom, sorry.
-/
import Derived.Test.YtpbkdjkgaalegaaChecked
import GoSem.Claim
import GoSem.ClaimJoined
import GoSem.ClaimMapViews
import Derived.JoinedTies
import Derived.KernelRfl
namespace Go.Proofs.Ytpbkdjkgaalegaa
/- THE CELL 'sum', in the pinned program and in every row, IS THE sha256 OF THE DUMP (.gsa) THAT YtpbkdjkgaalegaaProg.lean LOADS. Nothing in Lean hashes anything: it is a label: what it is worth is what the hold of that sum in a sandbox is worth. -/
noncomputable def Try.pinned : Pinned := { name := "ytpbkdjkgaalegaa", sum := "cf586fc6fa0d206f0f2cbdb0540b527e95fadf7a1846eb69791946938475d6ff", checked := Try.checked }
namespace Rows
def none {H : Type} : Left H := { results := [], args := [] }

/-- 'laws.FnExactFirstWord': WHATEVER THE INPUT: true; the input reads as it did. -/
def fnExactFirstWordSpec : ChangeSpec := { name := "fnExactFirstWord", fn := fun _ => fun
  | [d1, d2, d3] => { results := [.lit (.bool true)], args := [d1, d2, d3] }
  | _ => none }
def fnExactFirstWordRow : OpenClaim := { program := "ytpbkdjkgaalegaa", sum := "cf586fc6fa0d206f0f2cbdb0540b527e95fadf7a1846eb69791946938475d6ff", func := "loop.example/g01108/laws.FnExactFirstWord", spec := "fnExactFirstWord", apart := false }
def FnExactFirstWordSaid : Prop := fnExactFirstWordRow.holds Try.pinned (OpenSpec.ofChange fnExactFirstWordSpec)

/-- ITS FALSE NEIGHBOUR: 'it returns false'. Refute it at one input. -/
def fnExactFirstWordWrong : ChangeSpec := { name := "fnExactFirstWord", fn := fun _ => fun
  | [d1, d2, d3] => { results := [.lit (.bool false)], args := [d1, d2, d3] }
  | _ => none }
def FnExactFirstWordWrongFalsely : Prop := fnExactFirstWordRow.holds Try.pinned (OpenSpec.ofChange fnExactFirstWordWrong)

/-- 'laws.FnExactSectionAt': WHATEVER THE INPUT: true; the input reads as it did. -/
def fnExactSectionAtSpec : ChangeSpec := { name := "fnExactSectionAt", fn := fun _ => fun
  | [d1, d2, d3, d4] => { results := [.lit (.bool true)], args := [d1, d2, d3, d4] }
  | _ => none }
def fnExactSectionAtRow : OpenClaim := { program := "ytpbkdjkgaalegaa", sum := "cf586fc6fa0d206f0f2cbdb0540b527e95fadf7a1846eb69791946938475d6ff", func := "loop.example/g01108/laws.FnExactSectionAt", spec := "fnExactSectionAt", apart := false }
def FnExactSectionAtSaid : Prop := fnExactSectionAtRow.holds Try.pinned (OpenSpec.ofChange fnExactSectionAtSpec)

/-- ITS FALSE NEIGHBOUR: 'it returns false'. Refute it at one input. -/
def fnExactSectionAtWrong : ChangeSpec := { name := "fnExactSectionAt", fn := fun _ => fun
  | [d1, d2, d3, d4] => { results := [.lit (.bool false)], args := [d1, d2, d3, d4] }
  | _ => none }
def FnExactSectionAtWrongFalsely : Prop := fnExactSectionAtRow.holds Try.pinned (OpenSpec.ofChange fnExactSectionAtWrong)

/-- 'laws.FnExactEulerCharacteristic': WHATEVER THE INPUT: true; the input reads as it did. -/
def fnExactEulerCharacteristicSpec : ChangeSpec := { name := "fnExactEulerCharacteristic", fn := fun _ => fun
  | [d] => { results := [.lit (.bool true)], args := [d] }
  | _ => none }
def fnExactEulerCharacteristicRow : OpenClaim := { program := "ytpbkdjkgaalegaa", sum := "cf586fc6fa0d206f0f2cbdb0540b527e95fadf7a1846eb69791946938475d6ff", func := "loop.example/g01108/laws.FnExactEulerCharacteristic", spec := "fnExactEulerCharacteristic", apart := false }
def FnExactEulerCharacteristicSaid : Prop := fnExactEulerCharacteristicRow.holds Try.pinned (OpenSpec.ofChange fnExactEulerCharacteristicSpec)

/-- ITS FALSE NEIGHBOUR: 'it returns false'. Refute it at one input. -/
def fnExactEulerCharacteristicWrong : ChangeSpec := { name := "fnExactEulerCharacteristic", fn := fun _ => fun
  | [d] => { results := [.lit (.bool false)], args := [d] }
  | _ => none }
def FnExactEulerCharacteristicWrongFalsely : Prop := fnExactEulerCharacteristicRow.holds Try.pinned (OpenSpec.ofChange fnExactEulerCharacteristicWrong)

/-- 'laws.FnExactFacetAt': WHATEVER THE INPUT: true; the input reads as it did. -/
def fnExactFacetAtSpec : ChangeSpec := { name := "fnExactFacetAt", fn := fun _ => fun
  | [d1, d2] => { results := [.lit (.bool true)], args := [d1, d2] }
  | _ => none }
def fnExactFacetAtRow : OpenClaim := { program := "ytpbkdjkgaalegaa", sum := "cf586fc6fa0d206f0f2cbdb0540b527e95fadf7a1846eb69791946938475d6ff", func := "loop.example/g01108/laws.FnExactFacetAt", spec := "fnExactFacetAt", apart := false }
def FnExactFacetAtSaid : Prop := fnExactFacetAtRow.holds Try.pinned (OpenSpec.ofChange fnExactFacetAtSpec)

/-- ITS FALSE NEIGHBOUR: 'it returns false'. Refute it at one input. -/
def fnExactFacetAtWrong : ChangeSpec := { name := "fnExactFacetAt", fn := fun _ => fun
  | [d1, d2] => { results := [.lit (.bool false)], args := [d1, d2] }
  | _ => none }
def FnExactFacetAtWrongFalsely : Prop := fnExactFacetAtRow.holds Try.pinned (OpenSpec.ofChange fnExactFacetAtWrong)

/-- 'laws.FnExactVertexFigureAt': WHATEVER THE INPUT: true; the input reads as it did. -/
def fnExactVertexFigureAtSpec : ChangeSpec := { name := "fnExactVertexFigureAt", fn := fun _ => fun
  | [d1, d2] => { results := [.lit (.bool true)], args := [d1, d2] }
  | _ => none }
def fnExactVertexFigureAtRow : OpenClaim := { program := "ytpbkdjkgaalegaa", sum := "cf586fc6fa0d206f0f2cbdb0540b527e95fadf7a1846eb69791946938475d6ff", func := "loop.example/g01108/laws.FnExactVertexFigureAt", spec := "fnExactVertexFigureAt", apart := false }
def FnExactVertexFigureAtSaid : Prop := fnExactVertexFigureAtRow.holds Try.pinned (OpenSpec.ofChange fnExactVertexFigureAtSpec)

/-- ITS FALSE NEIGHBOUR: 'it returns false'. Refute it at one input. -/
def fnExactVertexFigureAtWrong : ChangeSpec := { name := "fnExactVertexFigureAt", fn := fun _ => fun
  | [d1, d2] => { results := [.lit (.bool false)], args := [d1, d2] }
  | _ => none }
def FnExactVertexFigureAtWrongFalsely : Prop := fnExactVertexFigureAtRow.holds Try.pinned (OpenSpec.ofChange fnExactVertexFigureAtWrong)

/-- 'laws.FnExactFaceCounts': WHATEVER THE INPUT: true; the input reads as it did. -/
def fnExactFaceCountsSpec : ChangeSpec := { name := "fnExactFaceCounts", fn := fun _ => fun
  | [d] => { results := [.lit (.bool true)], args := [d] }
  | _ => none }
def fnExactFaceCountsRow : OpenClaim := { program := "ytpbkdjkgaalegaa", sum := "cf586fc6fa0d206f0f2cbdb0540b527e95fadf7a1846eb69791946938475d6ff", func := "loop.example/g01108/laws.FnExactFaceCounts", spec := "fnExactFaceCounts", apart := false }
def FnExactFaceCountsSaid : Prop := fnExactFaceCountsRow.holds Try.pinned (OpenSpec.ofChange fnExactFaceCountsSpec)

/-- ITS FALSE NEIGHBOUR: 'it returns false'. Refute it at one input. -/
def fnExactFaceCountsWrong : ChangeSpec := { name := "fnExactFaceCounts", fn := fun _ => fun
  | [d] => { results := [.lit (.bool false)], args := [d] }
  | _ => none }
def FnExactFaceCountsWrongFalsely : Prop := fnExactFaceCountsRow.holds Try.pinned (OpenSpec.ofChange fnExactFaceCountsWrong)

/-- 'laws.FnExactTwinFlags': WHATEVER THE INPUT: true; the input reads as it did. -/
def fnExactTwinFlagsSpec : ChangeSpec := { name := "fnExactTwinFlags", fn := fun _ => fun
  | [d] => { results := [.lit (.bool true)], args := [d] }
  | _ => none }
def fnExactTwinFlagsRow : OpenClaim := { program := "ytpbkdjkgaalegaa", sum := "cf586fc6fa0d206f0f2cbdb0540b527e95fadf7a1846eb69791946938475d6ff", func := "loop.example/g01108/laws.FnExactTwinFlags", spec := "fnExactTwinFlags", apart := false }
def FnExactTwinFlagsSaid : Prop := fnExactTwinFlagsRow.holds Try.pinned (OpenSpec.ofChange fnExactTwinFlagsSpec)

/-- ITS FALSE NEIGHBOUR: 'it returns false'. Refute it at one input. -/
def fnExactTwinFlagsWrong : ChangeSpec := { name := "fnExactTwinFlags", fn := fun _ => fun
  | [d] => { results := [.lit (.bool false)], args := [d] }
  | _ => none }
def FnExactTwinFlagsWrongFalsely : Prop := fnExactTwinFlagsRow.holds Try.pinned (OpenSpec.ofChange fnExactTwinFlagsWrong)

/-- 'laws.FnExactFaceAsManiplex': WHATEVER THE INPUT: true; the input reads as it did. -/
def fnExactFaceAsManiplexSpec : ChangeSpec := { name := "fnExactFaceAsManiplex", fn := fun _ => fun
  | [d1, d2, d3] => { results := [.lit (.bool true)], args := [d1, d2, d3] }
  | _ => none }
def fnExactFaceAsManiplexRow : OpenClaim := { program := "ytpbkdjkgaalegaa", sum := "cf586fc6fa0d206f0f2cbdb0540b527e95fadf7a1846eb69791946938475d6ff", func := "loop.example/g01108/laws.FnExactFaceAsManiplex", spec := "fnExactFaceAsManiplex", apart := false }
def FnExactFaceAsManiplexSaid : Prop := fnExactFaceAsManiplexRow.holds Try.pinned (OpenSpec.ofChange fnExactFaceAsManiplexSpec)

/-- ITS FALSE NEIGHBOUR: 'it returns false'. Refute it at one input. -/
def fnExactFaceAsManiplexWrong : ChangeSpec := { name := "fnExactFaceAsManiplex", fn := fun _ => fun
  | [d1, d2, d3] => { results := [.lit (.bool false)], args := [d1, d2, d3] }
  | _ => none }
def FnExactFaceAsManiplexWrongFalsely : Prop := fnExactFaceAsManiplexRow.holds Try.pinned (OpenSpec.ofChange fnExactFaceAsManiplexWrong)

/-- 'laws.FnExactCofaceAsManiplex': WHATEVER THE INPUT: true; the input reads as it did. -/
def fnExactCofaceAsManiplexSpec : ChangeSpec := { name := "fnExactCofaceAsManiplex", fn := fun _ => fun
  | [d1, d2, d3] => { results := [.lit (.bool true)], args := [d1, d2, d3] }
  | _ => none }
def fnExactCofaceAsManiplexRow : OpenClaim := { program := "ytpbkdjkgaalegaa", sum := "cf586fc6fa0d206f0f2cbdb0540b527e95fadf7a1846eb69791946938475d6ff", func := "loop.example/g01108/laws.FnExactCofaceAsManiplex", spec := "fnExactCofaceAsManiplex", apart := false }
def FnExactCofaceAsManiplexSaid : Prop := fnExactCofaceAsManiplexRow.holds Try.pinned (OpenSpec.ofChange fnExactCofaceAsManiplexSpec)

/-- ITS FALSE NEIGHBOUR: 'it returns false'. Refute it at one input. -/
def fnExactCofaceAsManiplexWrong : ChangeSpec := { name := "fnExactCofaceAsManiplex", fn := fun _ => fun
  | [d1, d2, d3] => { results := [.lit (.bool false)], args := [d1, d2, d3] }
  | _ => none }
def FnExactCofaceAsManiplexWrongFalsely : Prop := fnExactCofaceAsManiplexRow.holds Try.pinned (OpenSpec.ofChange fnExactCofaceAsManiplexWrong)

/-- 'laws.FnExactLeastForm': WHATEVER THE INPUT: true; the input reads as it did. -/
def fnExactLeastFormSpec : ChangeSpec := { name := "fnExactLeastForm", fn := fun _ => fun
  | [d] => { results := [.lit (.bool true)], args := [d] }
  | _ => none }
def fnExactLeastFormRow : OpenClaim := { program := "ytpbkdjkgaalegaa", sum := "cf586fc6fa0d206f0f2cbdb0540b527e95fadf7a1846eb69791946938475d6ff", func := "loop.example/g01108/laws.FnExactLeastForm", spec := "fnExactLeastForm", unfollowed := true, recurses := true, apart := false }
def FnExactLeastFormSaid : Prop := fnExactLeastFormRow.holds Try.pinned (OpenSpec.ofChange fnExactLeastFormSpec)

/-- ITS FALSE NEIGHBOUR: 'it returns false'. Refute it at one input. -/
def fnExactLeastFormWrong : ChangeSpec := { name := "fnExactLeastForm", fn := fun _ => fun
  | [d] => { results := [.lit (.bool false)], args := [d] }
  | _ => none }
def FnExactLeastFormWrongFalsely : Prop := fnExactLeastFormRow.holds Try.pinned (OpenSpec.ofChange fnExactLeastFormWrong)

/- THE SECOND FORM. 'bulk': how many values and letters a reading holds, each counted each time it is reached (what is shared counts as often as it is met; a slice's spare places count too). A statement '..UptoSaid' is the law's where the arguments, and the package variables that the reading takes, are together of bulk at most 1048576: NARROWER than '..Said'. Prove '..Said' where nothing that the law and all that it calls make is longer than what came in: it says more and counts as full. Else prove '..UptoSaid'. A law counts once. -/
mutual
def uptoBulk {H : Type} : DataW H → Nat
  | .lit (.string bytes) => bytes.length + 1
  | .lit _ => 1
  | .nil => 1
  | .ptr d => uptoBulk d + 1
  | .slice elems spare => uptoBulkAll elems + uptoBulkAll spare + 1
  | .agg parts => uptoBulkAll parts + 1
  | .iface _ d => uptoBulk d + 1
  | .map entries => uptoBulkEntries entries + 1
  | .held _ => 1
def uptoBulkAll {H : Type} : List (DataW H) → Nat
  | [] => 0
  | d :: r => uptoBulk d + uptoBulkAll r
def uptoBulkEntries {H : Type} : List (Lit × DataW H) → Nat
  | [] => 0
  | x :: r => uptoBulkEntry x + uptoBulkEntries r
def uptoBulkEntry {H : Type} : Lit × DataW H → Nat
  | (.string bytes, d) => bytes.length + uptoBulk d + 1
  | (_, d) => uptoBulk d + 1
 end
def uptoSmall : (H : Type) → List (DataW H) → Bool := fun _ ds => decide (uptoBulkAll ds ≤ 1048576)
def OpenSpec.upto (s : _root_.Go.ChangeSpec) : _root_.Go.OpenSpec := { _root_.Go.OpenSpec.ofChange s with cond := some uptoSmall }

/-- 'laws.FnExactFirstWord', WHERE WHAT IT READS IS OF BULK AT MOST 1048576: true; the input reads as it did. -/
def fnExactFirstWordUptoRow : OpenClaim := { program := "ytpbkdjkgaalegaa", sum := "cf586fc6fa0d206f0f2cbdb0540b527e95fadf7a1846eb69791946938475d6ff", func := "loop.example/g01108/laws.FnExactFirstWord", spec := "fnExactFirstWord", apart := false, narrowed := true }
def FnExactFirstWordUptoSaid : Prop := fnExactFirstWordUptoRow.holds Try.pinned (OpenSpec.upto fnExactFirstWordSpec)

/-- 'laws.FnExactSectionAt', WHERE WHAT IT READS IS OF BULK AT MOST 1048576: true; the input reads as it did. -/
def fnExactSectionAtUptoRow : OpenClaim := { program := "ytpbkdjkgaalegaa", sum := "cf586fc6fa0d206f0f2cbdb0540b527e95fadf7a1846eb69791946938475d6ff", func := "loop.example/g01108/laws.FnExactSectionAt", spec := "fnExactSectionAt", apart := false, narrowed := true }
def FnExactSectionAtUptoSaid : Prop := fnExactSectionAtUptoRow.holds Try.pinned (OpenSpec.upto fnExactSectionAtSpec)

/-- 'laws.FnExactEulerCharacteristic', WHERE WHAT IT READS IS OF BULK AT MOST 1048576: true; the input reads as it did. -/
def fnExactEulerCharacteristicUptoRow : OpenClaim := { program := "ytpbkdjkgaalegaa", sum := "cf586fc6fa0d206f0f2cbdb0540b527e95fadf7a1846eb69791946938475d6ff", func := "loop.example/g01108/laws.FnExactEulerCharacteristic", spec := "fnExactEulerCharacteristic", apart := false, narrowed := true }
def FnExactEulerCharacteristicUptoSaid : Prop := fnExactEulerCharacteristicUptoRow.holds Try.pinned (OpenSpec.upto fnExactEulerCharacteristicSpec)

/-- 'laws.FnExactFacetAt', WHERE WHAT IT READS IS OF BULK AT MOST 1048576: true; the input reads as it did. -/
def fnExactFacetAtUptoRow : OpenClaim := { program := "ytpbkdjkgaalegaa", sum := "cf586fc6fa0d206f0f2cbdb0540b527e95fadf7a1846eb69791946938475d6ff", func := "loop.example/g01108/laws.FnExactFacetAt", spec := "fnExactFacetAt", apart := false, narrowed := true }
def FnExactFacetAtUptoSaid : Prop := fnExactFacetAtUptoRow.holds Try.pinned (OpenSpec.upto fnExactFacetAtSpec)

/-- 'laws.FnExactVertexFigureAt', WHERE WHAT IT READS IS OF BULK AT MOST 1048576: true; the input reads as it did. -/
def fnExactVertexFigureAtUptoRow : OpenClaim := { program := "ytpbkdjkgaalegaa", sum := "cf586fc6fa0d206f0f2cbdb0540b527e95fadf7a1846eb69791946938475d6ff", func := "loop.example/g01108/laws.FnExactVertexFigureAt", spec := "fnExactVertexFigureAt", apart := false, narrowed := true }
def FnExactVertexFigureAtUptoSaid : Prop := fnExactVertexFigureAtUptoRow.holds Try.pinned (OpenSpec.upto fnExactVertexFigureAtSpec)

/-- 'laws.FnExactFaceCounts', WHERE WHAT IT READS IS OF BULK AT MOST 1048576: true; the input reads as it did. -/
def fnExactFaceCountsUptoRow : OpenClaim := { program := "ytpbkdjkgaalegaa", sum := "cf586fc6fa0d206f0f2cbdb0540b527e95fadf7a1846eb69791946938475d6ff", func := "loop.example/g01108/laws.FnExactFaceCounts", spec := "fnExactFaceCounts", apart := false, narrowed := true }
def FnExactFaceCountsUptoSaid : Prop := fnExactFaceCountsUptoRow.holds Try.pinned (OpenSpec.upto fnExactFaceCountsSpec)

/-- 'laws.FnExactTwinFlags', WHERE WHAT IT READS IS OF BULK AT MOST 1048576: true; the input reads as it did. -/
def fnExactTwinFlagsUptoRow : OpenClaim := { program := "ytpbkdjkgaalegaa", sum := "cf586fc6fa0d206f0f2cbdb0540b527e95fadf7a1846eb69791946938475d6ff", func := "loop.example/g01108/laws.FnExactTwinFlags", spec := "fnExactTwinFlags", apart := false, narrowed := true }
def FnExactTwinFlagsUptoSaid : Prop := fnExactTwinFlagsUptoRow.holds Try.pinned (OpenSpec.upto fnExactTwinFlagsSpec)

/-- 'laws.FnExactFaceAsManiplex', WHERE WHAT IT READS IS OF BULK AT MOST 1048576: true; the input reads as it did. -/
def fnExactFaceAsManiplexUptoRow : OpenClaim := { program := "ytpbkdjkgaalegaa", sum := "cf586fc6fa0d206f0f2cbdb0540b527e95fadf7a1846eb69791946938475d6ff", func := "loop.example/g01108/laws.FnExactFaceAsManiplex", spec := "fnExactFaceAsManiplex", apart := false, narrowed := true }
def FnExactFaceAsManiplexUptoSaid : Prop := fnExactFaceAsManiplexUptoRow.holds Try.pinned (OpenSpec.upto fnExactFaceAsManiplexSpec)

/-- 'laws.FnExactCofaceAsManiplex', WHERE WHAT IT READS IS OF BULK AT MOST 1048576: true; the input reads as it did. -/
def fnExactCofaceAsManiplexUptoRow : OpenClaim := { program := "ytpbkdjkgaalegaa", sum := "cf586fc6fa0d206f0f2cbdb0540b527e95fadf7a1846eb69791946938475d6ff", func := "loop.example/g01108/laws.FnExactCofaceAsManiplex", spec := "fnExactCofaceAsManiplex", apart := false, narrowed := true }
def FnExactCofaceAsManiplexUptoSaid : Prop := fnExactCofaceAsManiplexUptoRow.holds Try.pinned (OpenSpec.upto fnExactCofaceAsManiplexSpec)

/-- 'laws.FnExactLeastForm', WHERE WHAT IT READS IS OF BULK AT MOST 1048576: true; the input reads as it did. -/
def fnExactLeastFormUptoRow : OpenClaim := { program := "ytpbkdjkgaalegaa", sum := "cf586fc6fa0d206f0f2cbdb0540b527e95fadf7a1846eb69791946938475d6ff", func := "loop.example/g01108/laws.FnExactLeastForm", spec := "fnExactLeastForm", unfollowed := true, recurses := true, apart := false, narrowed := true }
def FnExactLeastFormUptoSaid : Prop := fnExactLeastFormUptoRow.holds Try.pinned (OpenSpec.upto fnExactLeastFormSpec)

end Rows
end Go.Proofs.Ytpbkdjkgaalegaa
