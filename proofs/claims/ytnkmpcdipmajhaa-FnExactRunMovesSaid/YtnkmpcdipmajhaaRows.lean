/-
  No cell of these rows narrows 'for every input' (looked for: loops, veiled, ifaces, maps, wideKeys, modest, calm, conditions, laid).
  DERIVED. THE GIVEN ROWS OF THIS SEAT. 12 by the template 'for every input the law returns true; each argument reads behind the call as it read before'; 0 by the template 'total and deterministic' (their statements: YtnkmpcdipmajhaaTotals.lean).
  GIVEN WITH THE SEED: the statements are not yours to turn. If you find one false, say at which input.
  Laid BY PROGRAM, IN A SANDBOX (cutbox-rows.mjs): the forced cells as the released guide's own fill.sh prints them over the translation d8a7943bd6e3777f… (all of the seat's roots in one cut). By AI agents, Wed Nov 11 2026. No macro, syntax, notation, axiom, sorry.
-/
import Derived.Test.YtnkmpcdipmajhaaChecked
import GoSem.Claim
import GoSem.ClaimJoined
import GoSem.ClaimMapViews
import Derived.JoinedTies
import Derived.KernelRfl
namespace Go.Proofs.Ytnkmpcdipmajhaa
/- THE CELL 'sum', in the pinned program and in every row, IS THE sha256 OF THE DUMP (.gsa) THAT YtnkmpcdipmajhaaProg.lean LOADS. Nothing in Lean hashes anything: it is a label: what it is worth is what the hold of that sum in a sandbox is worth. -/
noncomputable def Try.pinned : Pinned := { name := "ytnkmpcdipmajhaa", sum := "d8a7943bd6e3777f7d0c205e209540e3dbb5642093ab62ac24dfe1d41ba079bd", checked := Try.checked }
namespace Rows
def none {H : Type} : Left H := { results := [], args := [] }

/-- 'laws.FnExactPermutationOrder': WHATEVER THE INPUT: true; the input reads as it did. -/
def fnExactPermutationOrderSpec : ChangeSpec := { name := "fnExactPermutationOrder", fn := fun _ => fun
  | [d] => { results := [.lit (.bool true)], args := [d] }
  | _ => none }
def fnExactPermutationOrderRow : OpenClaim := { program := "ytnkmpcdipmajhaa", sum := "d8a7943bd6e3777f7d0c205e209540e3dbb5642093ab62ac24dfe1d41ba079bd", func := "loop.example/g01108/laws.FnExactPermutationOrder", spec := "fnExactPermutationOrder", apart := false }
def FnExactPermutationOrderSaid : Prop := fnExactPermutationOrderRow.holds Try.pinned (OpenSpec.ofChange fnExactPermutationOrderSpec)

/-- ITS FALSE NEIGHBOUR: 'it returns false'. Refute it at one input. -/
def fnExactPermutationOrderWrong : ChangeSpec := { name := "fnExactPermutationOrder", fn := fun _ => fun
  | [d] => { results := [.lit (.bool false)], args := [d] }
  | _ => none }
def FnExactPermutationOrderWrongFalsely : Prop := fnExactPermutationOrderRow.holds Try.pinned (OpenSpec.ofChange fnExactPermutationOrderWrong)

/-- 'laws.FnExactApplyWord': WHATEVER THE INPUT: true; the input reads as it did. -/
def fnExactApplyWordSpec : ChangeSpec := { name := "fnExactApplyWord", fn := fun _ => fun
  | [d1, d2, d3, d4] => { results := [.lit (.bool true)], args := [d1, d2, d3, d4] }
  | _ => none }
def fnExactApplyWordRow : OpenClaim := { program := "ytnkmpcdipmajhaa", sum := "d8a7943bd6e3777f7d0c205e209540e3dbb5642093ab62ac24dfe1d41ba079bd", func := "loop.example/g01108/laws.FnExactApplyWord", spec := "fnExactApplyWord", unfollowed := true, recurses := true, apart := false }
def FnExactApplyWordSaid : Prop := fnExactApplyWordRow.holds Try.pinned (OpenSpec.ofChange fnExactApplyWordSpec)

/-- ITS FALSE NEIGHBOUR: 'it returns false'. Refute it at one input. -/
def fnExactApplyWordWrong : ChangeSpec := { name := "fnExactApplyWord", fn := fun _ => fun
  | [d1, d2, d3, d4] => { results := [.lit (.bool false)], args := [d1, d2, d3, d4] }
  | _ => none }
def FnExactApplyWordWrongFalsely : Prop := fnExactApplyWordRow.holds Try.pinned (OpenSpec.ofChange fnExactApplyWordWrong)

/-- 'laws.FnExactPowerPermutation': WHATEVER THE INPUT: true; the input reads as it did. -/
def fnExactPowerPermutationSpec : ChangeSpec := { name := "fnExactPowerPermutation", fn := fun _ => fun
  | [d1, d2] => { results := [.lit (.bool true)], args := [d1, d2] }
  | _ => none }
def fnExactPowerPermutationRow : OpenClaim := { program := "ytnkmpcdipmajhaa", sum := "d8a7943bd6e3777f7d0c205e209540e3dbb5642093ab62ac24dfe1d41ba079bd", func := "loop.example/g01108/laws.FnExactPowerPermutation", spec := "fnExactPowerPermutation", apart := false }
def FnExactPowerPermutationSaid : Prop := fnExactPowerPermutationRow.holds Try.pinned (OpenSpec.ofChange fnExactPowerPermutationSpec)

/-- ITS FALSE NEIGHBOUR: 'it returns false'. Refute it at one input. -/
def fnExactPowerPermutationWrong : ChangeSpec := { name := "fnExactPowerPermutation", fn := fun _ => fun
  | [d1, d2] => { results := [.lit (.bool false)], args := [d1, d2] }
  | _ => none }
def FnExactPowerPermutationWrongFalsely : Prop := fnExactPowerPermutationRow.holds Try.pinned (OpenSpec.ofChange fnExactPowerPermutationWrong)

/-- 'laws.FnExactIsPoset': WHATEVER THE INPUT: true; the input reads as it did. -/
def fnExactIsPosetSpec : ChangeSpec := { name := "fnExactIsPoset", fn := fun _ => fun
  | [d] => { results := [.lit (.bool true)], args := [d] }
  | _ => none }
def fnExactIsPosetRow : OpenClaim := { program := "ytnkmpcdipmajhaa", sum := "d8a7943bd6e3777f7d0c205e209540e3dbb5642093ab62ac24dfe1d41ba079bd", func := "loop.example/g01108/laws.FnExactIsPoset", spec := "fnExactIsPoset", unfollowed := true, recurses := true, apart := false }
def FnExactIsPosetSaid : Prop := fnExactIsPosetRow.holds Try.pinned (OpenSpec.ofChange fnExactIsPosetSpec)

/-- ITS FALSE NEIGHBOUR: 'it returns false'. Refute it at one input. -/
def fnExactIsPosetWrong : ChangeSpec := { name := "fnExactIsPoset", fn := fun _ => fun
  | [d] => { results := [.lit (.bool false)], args := [d] }
  | _ => none }
def FnExactIsPosetWrongFalsely : Prop := fnExactIsPosetRow.holds Try.pinned (OpenSpec.ofChange fnExactIsPosetWrong)

/-- 'laws.FnExactOrbitLabels': WHATEVER THE INPUT: true; the input reads as it did. -/
def fnExactOrbitLabelsSpec : ChangeSpec := { name := "fnExactOrbitLabels", fn := fun _ => fun
  | [d1, d2] => { results := [.lit (.bool true)], args := [d1, d2] }
  | _ => none }
def fnExactOrbitLabelsRow : OpenClaim := { program := "ytnkmpcdipmajhaa", sum := "d8a7943bd6e3777f7d0c205e209540e3dbb5642093ab62ac24dfe1d41ba079bd", func := "loop.example/g01108/laws.FnExactOrbitLabels", spec := "fnExactOrbitLabels", unfollowed := true, recurses := true, apart := false }
def FnExactOrbitLabelsSaid : Prop := fnExactOrbitLabelsRow.holds Try.pinned (OpenSpec.ofChange fnExactOrbitLabelsSpec)

/-- ITS FALSE NEIGHBOUR: 'it returns false'. Refute it at one input. -/
def fnExactOrbitLabelsWrong : ChangeSpec := { name := "fnExactOrbitLabels", fn := fun _ => fun
  | [d1, d2] => { results := [.lit (.bool false)], args := [d1, d2] }
  | _ => none }
def FnExactOrbitLabelsWrongFalsely : Prop := fnExactOrbitLabelsRow.holds Try.pinned (OpenSpec.ofChange fnExactOrbitLabelsWrong)

/-- 'laws.FnExactIsManiplex': WHATEVER THE INPUT: true; the input reads as it did. -/
def fnExactIsManiplexSpec : ChangeSpec := { name := "fnExactIsManiplex", fn := fun _ => fun
  | [d] => { results := [.lit (.bool true)], args := [d] }
  | _ => none }
def fnExactIsManiplexRow : OpenClaim := { program := "ytnkmpcdipmajhaa", sum := "d8a7943bd6e3777f7d0c205e209540e3dbb5642093ab62ac24dfe1d41ba079bd", func := "loop.example/g01108/laws.FnExactIsManiplex", spec := "fnExactIsManiplex", apart := false }
def FnExactIsManiplexSaid : Prop := fnExactIsManiplexRow.holds Try.pinned (OpenSpec.ofChange fnExactIsManiplexSpec)

/-- ITS FALSE NEIGHBOUR: 'it returns false'. Refute it at one input. -/
def fnExactIsManiplexWrong : ChangeSpec := { name := "fnExactIsManiplex", fn := fun _ => fun
  | [d] => { results := [.lit (.bool false)], args := [d] }
  | _ => none }
def FnExactIsManiplexWrongFalsely : Prop := fnExactIsManiplexRow.holds Try.pinned (OpenSpec.ofChange fnExactIsManiplexWrong)

/-- 'laws.FnExactOrbitOf': WHATEVER THE INPUT: true; the input reads as it did. -/
def fnExactOrbitOfSpec : ChangeSpec := { name := "fnExactOrbitOf", fn := fun _ => fun
  | [d1, d2, d3] => { results := [.lit (.bool true)], args := [d1, d2, d3] }
  | _ => none }
def fnExactOrbitOfRow : OpenClaim := { program := "ytnkmpcdipmajhaa", sum := "d8a7943bd6e3777f7d0c205e209540e3dbb5642093ab62ac24dfe1d41ba079bd", func := "loop.example/g01108/laws.FnExactOrbitOf", spec := "fnExactOrbitOf", unfollowed := true, recurses := true, apart := false }
def FnExactOrbitOfSaid : Prop := fnExactOrbitOfRow.holds Try.pinned (OpenSpec.ofChange fnExactOrbitOfSpec)

/-- ITS FALSE NEIGHBOUR: 'it returns false'. Refute it at one input. -/
def fnExactOrbitOfWrong : ChangeSpec := { name := "fnExactOrbitOf", fn := fun _ => fun
  | [d1, d2, d3] => { results := [.lit (.bool false)], args := [d1, d2, d3] }
  | _ => none }
def FnExactOrbitOfWrongFalsely : Prop := fnExactOrbitOfRow.holds Try.pinned (OpenSpec.ofChange fnExactOrbitOfWrong)

/-- 'laws.FnExactOppositePoset': WHATEVER THE INPUT: true; the input reads as it did. -/
def fnExactOppositePosetSpec : ChangeSpec := { name := "fnExactOppositePoset", fn := fun _ => fun
  | [d] => { results := [.lit (.bool true)], args := [d] }
  | _ => none }
def fnExactOppositePosetRow : OpenClaim := { program := "ytnkmpcdipmajhaa", sum := "d8a7943bd6e3777f7d0c205e209540e3dbb5642093ab62ac24dfe1d41ba079bd", func := "loop.example/g01108/laws.FnExactOppositePoset", spec := "fnExactOppositePoset", unfollowed := true, recurses := true, apart := false }
def FnExactOppositePosetSaid : Prop := fnExactOppositePosetRow.holds Try.pinned (OpenSpec.ofChange fnExactOppositePosetSpec)

/-- ITS FALSE NEIGHBOUR: 'it returns false'. Refute it at one input. -/
def fnExactOppositePosetWrong : ChangeSpec := { name := "fnExactOppositePoset", fn := fun _ => fun
  | [d] => { results := [.lit (.bool false)], args := [d] }
  | _ => none }
def FnExactOppositePosetWrongFalsely : Prop := fnExactOppositePosetRow.holds Try.pinned (OpenSpec.ofChange fnExactOppositePosetWrong)

/-- 'laws.FnExactIsLattice': WHATEVER THE INPUT: true; the input reads as it did. -/
def fnExactIsLatticeSpec : ChangeSpec := { name := "fnExactIsLattice", fn := fun _ => fun
  | [d] => { results := [.lit (.bool true)], args := [d] }
  | _ => none }
def fnExactIsLatticeRow : OpenClaim := { program := "ytnkmpcdipmajhaa", sum := "d8a7943bd6e3777f7d0c205e209540e3dbb5642093ab62ac24dfe1d41ba079bd", func := "loop.example/g01108/laws.FnExactIsLattice", spec := "fnExactIsLattice", unfollowed := true, recurses := true, apart := false }
def FnExactIsLatticeSaid : Prop := fnExactIsLatticeRow.holds Try.pinned (OpenSpec.ofChange fnExactIsLatticeSpec)

/-- ITS FALSE NEIGHBOUR: 'it returns false'. Refute it at one input. -/
def fnExactIsLatticeWrong : ChangeSpec := { name := "fnExactIsLattice", fn := fun _ => fun
  | [d] => { results := [.lit (.bool false)], args := [d] }
  | _ => none }
def FnExactIsLatticeWrongFalsely : Prop := fnExactIsLatticeRow.holds Try.pinned (OpenSpec.ofChange fnExactIsLatticeWrong)

/-- 'laws.FnExactDiamondFault': WHATEVER THE INPUT: true; the input reads as it did. -/
def fnExactDiamondFaultSpec : ChangeSpec := { name := "fnExactDiamondFault", fn := fun _ => fun
  | [d] => { results := [.lit (.bool true)], args := [d] }
  | _ => none }
def fnExactDiamondFaultRow : OpenClaim := { program := "ytnkmpcdipmajhaa", sum := "d8a7943bd6e3777f7d0c205e209540e3dbb5642093ab62ac24dfe1d41ba079bd", func := "loop.example/g01108/laws.FnExactDiamondFault", spec := "fnExactDiamondFault", unfollowed := true, recurses := true, apart := false }
def FnExactDiamondFaultSaid : Prop := fnExactDiamondFaultRow.holds Try.pinned (OpenSpec.ofChange fnExactDiamondFaultSpec)

/-- ITS FALSE NEIGHBOUR: 'it returns false'. Refute it at one input. -/
def fnExactDiamondFaultWrong : ChangeSpec := { name := "fnExactDiamondFault", fn := fun _ => fun
  | [d] => { results := [.lit (.bool false)], args := [d] }
  | _ => none }
def FnExactDiamondFaultWrongFalsely : Prop := fnExactDiamondFaultRow.holds Try.pinned (OpenSpec.ofChange fnExactDiamondFaultWrong)

/-- 'laws.FnExactRunMoves': WHATEVER THE INPUT: true; the input reads as it did. -/
def fnExactRunMovesSpec : ChangeSpec := { name := "fnExactRunMoves", fn := fun _ => fun
  | [d1, d2, d3] => { results := [.lit (.bool true)], args := [d1, d2, d3] }
  | _ => none }
def fnExactRunMovesRow : OpenClaim := { program := "ytnkmpcdipmajhaa", sum := "d8a7943bd6e3777f7d0c205e209540e3dbb5642093ab62ac24dfe1d41ba079bd", func := "loop.example/g01108/laws.FnExactRunMoves", spec := "fnExactRunMoves", unfollowed := true, recurses := true, apart := false }
def FnExactRunMovesSaid : Prop := fnExactRunMovesRow.holds Try.pinned (OpenSpec.ofChange fnExactRunMovesSpec)

/-- ITS FALSE NEIGHBOUR: 'it returns false'. Refute it at one input. -/
def fnExactRunMovesWrong : ChangeSpec := { name := "fnExactRunMoves", fn := fun _ => fun
  | [d1, d2, d3] => { results := [.lit (.bool false)], args := [d1, d2, d3] }
  | _ => none }
def FnExactRunMovesWrongFalsely : Prop := fnExactRunMovesRow.holds Try.pinned (OpenSpec.ofChange fnExactRunMovesWrong)

/-- 'laws.FnOrbits': WHATEVER THE INPUT: true; the input reads as it did. -/
def fnOrbitsSpec : ChangeSpec := { name := "fnOrbits", fn := fun _ => fun
  | [d] => { results := [.lit (.bool true)], args := [d] }
  | _ => none }
def fnOrbitsRow : OpenClaim := { program := "ytnkmpcdipmajhaa", sum := "d8a7943bd6e3777f7d0c205e209540e3dbb5642093ab62ac24dfe1d41ba079bd", func := "loop.example/g01108/laws.FnOrbits", spec := "fnOrbits", unfollowed := true, recurses := true, apart := false }
def FnOrbitsSaid : Prop := fnOrbitsRow.holds Try.pinned (OpenSpec.ofChange fnOrbitsSpec)

/-- ITS FALSE NEIGHBOUR: 'it returns false'. Refute it at one input. -/
def fnOrbitsWrong : ChangeSpec := { name := "fnOrbits", fn := fun _ => fun
  | [d] => { results := [.lit (.bool false)], args := [d] }
  | _ => none }
def FnOrbitsWrongFalsely : Prop := fnOrbitsRow.holds Try.pinned (OpenSpec.ofChange fnOrbitsWrong)

/- THE SECOND FORM. 'bulk': how many values and letters a reading holds, each counted each time it is reached (what is shared counts as often as it is met; a slice's spare places count too). A statement '..UptoSaid' is the law's where the arguments, and the package variables that the reading takes, are together of bulk at most 1048576: NARROWER than '..Said'. Prove '..Said' where nothing that the law and all that it calls make is longer than what came in: it says more and counts as full. Else prove '..UptoSaid'. A law counts once. -/
mutual
def uptoBulk {H : Type} : DataW H → Nat
  | .lit (.string bytes) => bytes.length + 1
  | .lit _ => 1
  | .nil => 1
  | .ptr d => uptoBulk d + 1
  | .slice elems spare => uptoBulkAll elems + uptoBulkAll spare + 1
  | .agg parts => uptoBulkAll parts + 1
  | .iface _ d => uptoBulk d + 1
  | .map entries => uptoBulkEntries entries + 1
  | .held _ => 1
def uptoBulkAll {H : Type} : List (DataW H) → Nat
  | [] => 0
  | d :: r => uptoBulk d + uptoBulkAll r
def uptoBulkEntries {H : Type} : List (Lit × DataW H) → Nat
  | [] => 0
  | x :: r => uptoBulkEntry x + uptoBulkEntries r
def uptoBulkEntry {H : Type} : Lit × DataW H → Nat
  | (.string bytes, d) => bytes.length + uptoBulk d + 1
  | (_, d) => uptoBulk d + 1
 end
def uptoSmall : (H : Type) → List (DataW H) → Bool := fun _ ds => decide (uptoBulkAll ds ≤ 1048576)
def OpenSpec.upto (s : _root_.Go.ChangeSpec) : _root_.Go.OpenSpec := { _root_.Go.OpenSpec.ofChange s with cond := some uptoSmall }

/-- 'laws.FnExactPermutationOrder', WHERE WHAT IT READS IS OF BULK AT MOST 1048576: true; the input reads as it did. -/
def fnExactPermutationOrderUptoRow : OpenClaim := { program := "ytnkmpcdipmajhaa", sum := "d8a7943bd6e3777f7d0c205e209540e3dbb5642093ab62ac24dfe1d41ba079bd", func := "loop.example/g01108/laws.FnExactPermutationOrder", spec := "fnExactPermutationOrder", apart := false, narrowed := true }
def FnExactPermutationOrderUptoSaid : Prop := fnExactPermutationOrderUptoRow.holds Try.pinned (OpenSpec.upto fnExactPermutationOrderSpec)

/-- 'laws.FnExactApplyWord', WHERE WHAT IT READS IS OF BULK AT MOST 1048576: true; the input reads as it did. -/
def fnExactApplyWordUptoRow : OpenClaim := { program := "ytnkmpcdipmajhaa", sum := "d8a7943bd6e3777f7d0c205e209540e3dbb5642093ab62ac24dfe1d41ba079bd", func := "loop.example/g01108/laws.FnExactApplyWord", spec := "fnExactApplyWord", unfollowed := true, recurses := true, apart := false, narrowed := true }
def FnExactApplyWordUptoSaid : Prop := fnExactApplyWordUptoRow.holds Try.pinned (OpenSpec.upto fnExactApplyWordSpec)

/-- 'laws.FnExactPowerPermutation', WHERE WHAT IT READS IS OF BULK AT MOST 1048576: true; the input reads as it did. -/
def fnExactPowerPermutationUptoRow : OpenClaim := { program := "ytnkmpcdipmajhaa", sum := "d8a7943bd6e3777f7d0c205e209540e3dbb5642093ab62ac24dfe1d41ba079bd", func := "loop.example/g01108/laws.FnExactPowerPermutation", spec := "fnExactPowerPermutation", apart := false, narrowed := true }
def FnExactPowerPermutationUptoSaid : Prop := fnExactPowerPermutationUptoRow.holds Try.pinned (OpenSpec.upto fnExactPowerPermutationSpec)

/-- 'laws.FnExactIsPoset', WHERE WHAT IT READS IS OF BULK AT MOST 1048576: true; the input reads as it did. -/
def fnExactIsPosetUptoRow : OpenClaim := { program := "ytnkmpcdipmajhaa", sum := "d8a7943bd6e3777f7d0c205e209540e3dbb5642093ab62ac24dfe1d41ba079bd", func := "loop.example/g01108/laws.FnExactIsPoset", spec := "fnExactIsPoset", unfollowed := true, recurses := true, apart := false, narrowed := true }
def FnExactIsPosetUptoSaid : Prop := fnExactIsPosetUptoRow.holds Try.pinned (OpenSpec.upto fnExactIsPosetSpec)

/-- 'laws.FnExactOrbitLabels', WHERE WHAT IT READS IS OF BULK AT MOST 1048576: true; the input reads as it did. -/
def fnExactOrbitLabelsUptoRow : OpenClaim := { program := "ytnkmpcdipmajhaa", sum := "d8a7943bd6e3777f7d0c205e209540e3dbb5642093ab62ac24dfe1d41ba079bd", func := "loop.example/g01108/laws.FnExactOrbitLabels", spec := "fnExactOrbitLabels", unfollowed := true, recurses := true, apart := false, narrowed := true }
def FnExactOrbitLabelsUptoSaid : Prop := fnExactOrbitLabelsUptoRow.holds Try.pinned (OpenSpec.upto fnExactOrbitLabelsSpec)

/-- 'laws.FnExactIsManiplex', WHERE WHAT IT READS IS OF BULK AT MOST 1048576: true; the input reads as it did. -/
def fnExactIsManiplexUptoRow : OpenClaim := { program := "ytnkmpcdipmajhaa", sum := "d8a7943bd6e3777f7d0c205e209540e3dbb5642093ab62ac24dfe1d41ba079bd", func := "loop.example/g01108/laws.FnExactIsManiplex", spec := "fnExactIsManiplex", apart := false, narrowed := true }
def FnExactIsManiplexUptoSaid : Prop := fnExactIsManiplexUptoRow.holds Try.pinned (OpenSpec.upto fnExactIsManiplexSpec)

/-- 'laws.FnExactOrbitOf', WHERE WHAT IT READS IS OF BULK AT MOST 1048576: true; the input reads as it did. -/
def fnExactOrbitOfUptoRow : OpenClaim := { program := "ytnkmpcdipmajhaa", sum := "d8a7943bd6e3777f7d0c205e209540e3dbb5642093ab62ac24dfe1d41ba079bd", func := "loop.example/g01108/laws.FnExactOrbitOf", spec := "fnExactOrbitOf", unfollowed := true, recurses := true, apart := false, narrowed := true }
def FnExactOrbitOfUptoSaid : Prop := fnExactOrbitOfUptoRow.holds Try.pinned (OpenSpec.upto fnExactOrbitOfSpec)

/-- 'laws.FnExactOppositePoset', WHERE WHAT IT READS IS OF BULK AT MOST 1048576: true; the input reads as it did. -/
def fnExactOppositePosetUptoRow : OpenClaim := { program := "ytnkmpcdipmajhaa", sum := "d8a7943bd6e3777f7d0c205e209540e3dbb5642093ab62ac24dfe1d41ba079bd", func := "loop.example/g01108/laws.FnExactOppositePoset", spec := "fnExactOppositePoset", unfollowed := true, recurses := true, apart := false, narrowed := true }
def FnExactOppositePosetUptoSaid : Prop := fnExactOppositePosetUptoRow.holds Try.pinned (OpenSpec.upto fnExactOppositePosetSpec)

/-- 'laws.FnExactIsLattice', WHERE WHAT IT READS IS OF BULK AT MOST 1048576: true; the input reads as it did. -/
def fnExactIsLatticeUptoRow : OpenClaim := { program := "ytnkmpcdipmajhaa", sum := "d8a7943bd6e3777f7d0c205e209540e3dbb5642093ab62ac24dfe1d41ba079bd", func := "loop.example/g01108/laws.FnExactIsLattice", spec := "fnExactIsLattice", unfollowed := true, recurses := true, apart := false, narrowed := true }
def FnExactIsLatticeUptoSaid : Prop := fnExactIsLatticeUptoRow.holds Try.pinned (OpenSpec.upto fnExactIsLatticeSpec)

/-- 'laws.FnExactDiamondFault', WHERE WHAT IT READS IS OF BULK AT MOST 1048576: true; the input reads as it did. -/
def fnExactDiamondFaultUptoRow : OpenClaim := { program := "ytnkmpcdipmajhaa", sum := "d8a7943bd6e3777f7d0c205e209540e3dbb5642093ab62ac24dfe1d41ba079bd", func := "loop.example/g01108/laws.FnExactDiamondFault", spec := "fnExactDiamondFault", unfollowed := true, recurses := true, apart := false, narrowed := true }
def FnExactDiamondFaultUptoSaid : Prop := fnExactDiamondFaultUptoRow.holds Try.pinned (OpenSpec.upto fnExactDiamondFaultSpec)

/-- 'laws.FnExactRunMoves', WHERE WHAT IT READS IS OF BULK AT MOST 1048576: true; the input reads as it did. -/
def fnExactRunMovesUptoRow : OpenClaim := { program := "ytnkmpcdipmajhaa", sum := "d8a7943bd6e3777f7d0c205e209540e3dbb5642093ab62ac24dfe1d41ba079bd", func := "loop.example/g01108/laws.FnExactRunMoves", spec := "fnExactRunMoves", unfollowed := true, recurses := true, apart := false, narrowed := true }
def FnExactRunMovesUptoSaid : Prop := fnExactRunMovesUptoRow.holds Try.pinned (OpenSpec.upto fnExactRunMovesSpec)

/-- 'laws.FnOrbits', WHERE WHAT IT READS IS OF BULK AT MOST 1048576: true; the input reads as it did. -/
def fnOrbitsUptoRow : OpenClaim := { program := "ytnkmpcdipmajhaa", sum := "d8a7943bd6e3777f7d0c205e209540e3dbb5642093ab62ac24dfe1d41ba079bd", func := "loop.example/g01108/laws.FnOrbits", spec := "fnOrbits", unfollowed := true, recurses := true, apart := false, narrowed := true }
def FnOrbitsUptoSaid : Prop := fnOrbitsUptoRow.holds Try.pinned (OpenSpec.upto fnOrbitsSpec)

end Rows
end Go.Proofs.Ytnkmpcdipmajhaa
