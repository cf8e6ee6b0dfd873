/-
  No cell of these rows narrows 'for every input' (looked for: loops, veiled, ifaces, maps, wideKeys, modest, calm, conditions, laid).
  DERIVED. THE GIVEN ROWS OF THIS SEAT. 12 by the template 'for every input the law returns true; each argument reads behind the call as it read before'; 0 by the template 'total and deterministic' (their statements: YtonojnblcleggaaTotals.lean).
  GIVEN WITH THE SEED: the statements are not yours to turn. If you find one false, say at which input.
  Laid BY PROGRAM, IN A SANDBOX (cutbox-rows.mjs): the forced cells as the released guide's own fill.sh prints them over the translation 479e2ef4dc9a6c43… (all of the seat's roots in one cut). By AI agents, Wed Nov 11 2026. No macro, syntax, notation, axiom, sorry.
-/
import Derived.Test.YtonojnblcleggaaChecked
import GoSem.Claim
import GoSem.ClaimJoined
import GoSem.ClaimMapViews
import Derived.JoinedTies
import Derived.KernelRfl
namespace Go.Proofs.Ytonojnblcleggaa
/- THE CELL 'sum', in the pinned program and in every row, IS THE sha256 OF THE DUMP (.gsa) THAT YtonojnblcleggaaProg.lean LOADS. Nothing in Lean hashes anything: it is a label: what it is worth is what the hold of that sum in a sandbox is worth. -/
noncomputable def Try.pinned : Pinned := { name := "ytonojnblcleggaa", sum := "479e2ef4dc9a6c439efc793f5b0690ae26f7b4a20570933ec01da39970b0a62c", checked := Try.checked }
namespace Rows
def none {H : Type} : Left H := { results := [], args := [] }

/-- 'laws.FnExactIsPoset': WHATEVER THE INPUT: true; the input reads as it did. -/
def fnExactIsPosetSpec : ChangeSpec := { name := "fnExactIsPoset", fn := fun _ => fun
  | [d] => { results := [.lit (.bool true)], args := [d] }
  | _ => none }
def fnExactIsPosetRow : OpenClaim := { program := "ytonojnblcleggaa", sum := "479e2ef4dc9a6c439efc793f5b0690ae26f7b4a20570933ec01da39970b0a62c", func := "loop.example/g01108/laws.FnExactIsPoset", spec := "fnExactIsPoset", unfollowed := true, recurses := true, apart := false }
def FnExactIsPosetSaid : Prop := fnExactIsPosetRow.holds Try.pinned (OpenSpec.ofChange fnExactIsPosetSpec)

/-- ITS FALSE NEIGHBOUR: 'it returns false'. Refute it at one input. -/
def fnExactIsPosetWrong : ChangeSpec := { name := "fnExactIsPoset", fn := fun _ => fun
  | [d] => { results := [.lit (.bool false)], args := [d] }
  | _ => none }
def FnExactIsPosetWrongFalsely : Prop := fnExactIsPosetRow.holds Try.pinned (OpenSpec.ofChange fnExactIsPosetWrong)

/-- 'laws.FnExactOppositePoset': WHATEVER THE INPUT: true; the input reads as it did. -/
def fnExactOppositePosetSpec : ChangeSpec := { name := "fnExactOppositePoset", fn := fun _ => fun
  | [d] => { results := [.lit (.bool true)], args := [d] }
  | _ => none }
def fnExactOppositePosetRow : OpenClaim := { program := "ytonojnblcleggaa", sum := "479e2ef4dc9a6c439efc793f5b0690ae26f7b4a20570933ec01da39970b0a62c", func := "loop.example/g01108/laws.FnExactOppositePoset", spec := "fnExactOppositePoset", unfollowed := true, recurses := true, apart := false }
def FnExactOppositePosetSaid : Prop := fnExactOppositePosetRow.holds Try.pinned (OpenSpec.ofChange fnExactOppositePosetSpec)

/-- ITS FALSE NEIGHBOUR: 'it returns false'. Refute it at one input. -/
def fnExactOppositePosetWrong : ChangeSpec := { name := "fnExactOppositePoset", fn := fun _ => fun
  | [d] => { results := [.lit (.bool false)], args := [d] }
  | _ => none }
def FnExactOppositePosetWrongFalsely : Prop := fnExactOppositePosetRow.holds Try.pinned (OpenSpec.ofChange fnExactOppositePosetWrong)

/-- 'laws.FnExactIsLattice': WHATEVER THE INPUT: true; the input reads as it did. -/
def fnExactIsLatticeSpec : ChangeSpec := { name := "fnExactIsLattice", fn := fun _ => fun
  | [d] => { results := [.lit (.bool true)], args := [d] }
  | _ => none }
def fnExactIsLatticeRow : OpenClaim := { program := "ytonojnblcleggaa", sum := "479e2ef4dc9a6c439efc793f5b0690ae26f7b4a20570933ec01da39970b0a62c", func := "loop.example/g01108/laws.FnExactIsLattice", spec := "fnExactIsLattice", unfollowed := true, recurses := true, apart := false }
def FnExactIsLatticeSaid : Prop := fnExactIsLatticeRow.holds Try.pinned (OpenSpec.ofChange fnExactIsLatticeSpec)

/-- ITS FALSE NEIGHBOUR: 'it returns false'. Refute it at one input. -/
def fnExactIsLatticeWrong : ChangeSpec := { name := "fnExactIsLattice", fn := fun _ => fun
  | [d] => { results := [.lit (.bool false)], args := [d] }
  | _ => none }
def FnExactIsLatticeWrongFalsely : Prop := fnExactIsLatticeRow.holds Try.pinned (OpenSpec.ofChange fnExactIsLatticeWrong)

/-- 'laws.FnExactDiamondFault': WHATEVER THE INPUT: true; the input reads as it did. -/
def fnExactDiamondFaultSpec : ChangeSpec := { name := "fnExactDiamondFault", fn := fun _ => fun
  | [d] => { results := [.lit (.bool true)], args := [d] }
  | _ => none }
def fnExactDiamondFaultRow : OpenClaim := { program := "ytonojnblcleggaa", sum := "479e2ef4dc9a6c439efc793f5b0690ae26f7b4a20570933ec01da39970b0a62c", func := "loop.example/g01108/laws.FnExactDiamondFault", spec := "fnExactDiamondFault", unfollowed := true, recurses := true, apart := false }
def FnExactDiamondFaultSaid : Prop := fnExactDiamondFaultRow.holds Try.pinned (OpenSpec.ofChange fnExactDiamondFaultSpec)

/-- ITS FALSE NEIGHBOUR: 'it returns false'. Refute it at one input. -/
def fnExactDiamondFaultWrong : ChangeSpec := { name := "fnExactDiamondFault", fn := fun _ => fun
  | [d] => { results := [.lit (.bool false)], args := [d] }
  | _ => none }
def FnExactDiamondFaultWrongFalsely : Prop := fnExactDiamondFaultRow.holds Try.pinned (OpenSpec.ofChange fnExactDiamondFaultWrong)

/-- 'laws.FnExactDiameterOf': WHATEVER THE INPUT: true; the input reads as it did. -/
def fnExactDiameterOfSpec : ChangeSpec := { name := "fnExactDiameterOf", fn := fun _ => fun
  | [d] => { results := [.lit (.bool true)], args := [d] }
  | _ => none }
def fnExactDiameterOfRow : OpenClaim := { program := "ytonojnblcleggaa", sum := "479e2ef4dc9a6c439efc793f5b0690ae26f7b4a20570933ec01da39970b0a62c", func := "loop.example/g01108/laws.FnExactDiameterOf", spec := "fnExactDiameterOf", apart := false }
def FnExactDiameterOfSaid : Prop := fnExactDiameterOfRow.holds Try.pinned (OpenSpec.ofChange fnExactDiameterOfSpec)

/-- ITS FALSE NEIGHBOUR: 'it returns false'. Refute it at one input. -/
def fnExactDiameterOfWrong : ChangeSpec := { name := "fnExactDiameterOf", fn := fun _ => fun
  | [d] => { results := [.lit (.bool false)], args := [d] }
  | _ => none }
def FnExactDiameterOfWrongFalsely : Prop := fnExactDiameterOfRow.holds Try.pinned (OpenSpec.ofChange fnExactDiameterOfWrong)

/-- 'laws.FnExactIsOrientable': WHATEVER THE INPUT: true; the input reads as it did. -/
def fnExactIsOrientableSpec : ChangeSpec := { name := "fnExactIsOrientable", fn := fun _ => fun
  | [d] => { results := [.lit (.bool true)], args := [d] }
  | _ => none }
def fnExactIsOrientableRow : OpenClaim := { program := "ytonojnblcleggaa", sum := "479e2ef4dc9a6c439efc793f5b0690ae26f7b4a20570933ec01da39970b0a62c", func := "loop.example/g01108/laws.FnExactIsOrientable", spec := "fnExactIsOrientable", unfollowed := true, recurses := true, apart := false }
def FnExactIsOrientableSaid : Prop := fnExactIsOrientableRow.holds Try.pinned (OpenSpec.ofChange fnExactIsOrientableSpec)

/-- ITS FALSE NEIGHBOUR: 'it returns false'. Refute it at one input. -/
def fnExactIsOrientableWrong : ChangeSpec := { name := "fnExactIsOrientable", fn := fun _ => fun
  | [d] => { results := [.lit (.bool false)], args := [d] }
  | _ => none }
def FnExactIsOrientableWrongFalsely : Prop := fnExactIsOrientableRow.holds Try.pinned (OpenSpec.ofChange fnExactIsOrientableWrong)

/-- 'laws.FnExactDistancesFrom': WHATEVER THE INPUT: true; the input reads as it did. -/
def fnExactDistancesFromSpec : ChangeSpec := { name := "fnExactDistancesFrom", fn := fun _ => fun
  | [d1, d2] => { results := [.lit (.bool true)], args := [d1, d2] }
  | _ => none }
def fnExactDistancesFromRow : OpenClaim := { program := "ytonojnblcleggaa", sum := "479e2ef4dc9a6c439efc793f5b0690ae26f7b4a20570933ec01da39970b0a62c", func := "loop.example/g01108/laws.FnExactDistancesFrom", spec := "fnExactDistancesFrom", apart := false }
def FnExactDistancesFromSaid : Prop := fnExactDistancesFromRow.holds Try.pinned (OpenSpec.ofChange fnExactDistancesFromSpec)

/-- ITS FALSE NEIGHBOUR: 'it returns false'. Refute it at one input. -/
def fnExactDistancesFromWrong : ChangeSpec := { name := "fnExactDistancesFrom", fn := fun _ => fun
  | [d1, d2] => { results := [.lit (.bool false)], args := [d1, d2] }
  | _ => none }
def FnExactDistancesFromWrongFalsely : Prop := fnExactDistancesFromRow.holds Try.pinned (OpenSpec.ofChange fnExactDistancesFromWrong)

/-- 'laws.FnExactFlagsOf': WHATEVER THE INPUT: true; the input reads as it did. -/
def fnExactFlagsOfSpec : ChangeSpec := { name := "fnExactFlagsOf", fn := fun _ => fun
  | [d] => { results := [.lit (.bool true)], args := [d] }
  | _ => none }
def fnExactFlagsOfRow : OpenClaim := { program := "ytonojnblcleggaa", sum := "479e2ef4dc9a6c439efc793f5b0690ae26f7b4a20570933ec01da39970b0a62c", func := "loop.example/g01108/laws.FnExactFlagsOf", spec := "fnExactFlagsOf", unfollowed := true, recurses := true, apart := false }
def FnExactFlagsOfSaid : Prop := fnExactFlagsOfRow.holds Try.pinned (OpenSpec.ofChange fnExactFlagsOfSpec)

/-- ITS FALSE NEIGHBOUR: 'it returns false'. Refute it at one input. -/
def fnExactFlagsOfWrong : ChangeSpec := { name := "fnExactFlagsOf", fn := fun _ => fun
  | [d] => { results := [.lit (.bool false)], args := [d] }
  | _ => none }
def FnExactFlagsOfWrongFalsely : Prop := fnExactFlagsOfRow.holds Try.pinned (OpenSpec.ofChange fnExactFlagsOfWrong)

/-- 'laws.FnExactRenumberFlags': WHATEVER THE INPUT: true; the input reads as it did. -/
def fnExactRenumberFlagsSpec : ChangeSpec := { name := "fnExactRenumberFlags", fn := fun _ => fun
  | [d1, d2] => { results := [.lit (.bool true)], args := [d1, d2] }
  | _ => none }
def fnExactRenumberFlagsRow : OpenClaim := { program := "ytonojnblcleggaa", sum := "479e2ef4dc9a6c439efc793f5b0690ae26f7b4a20570933ec01da39970b0a62c", func := "loop.example/g01108/laws.FnExactRenumberFlags", spec := "fnExactRenumberFlags", apart := false }
def FnExactRenumberFlagsSaid : Prop := fnExactRenumberFlagsRow.holds Try.pinned (OpenSpec.ofChange fnExactRenumberFlagsSpec)

/-- ITS FALSE NEIGHBOUR: 'it returns false'. Refute it at one input. -/
def fnExactRenumberFlagsWrong : ChangeSpec := { name := "fnExactRenumberFlags", fn := fun _ => fun
  | [d1, d2] => { results := [.lit (.bool false)], args := [d1, d2] }
  | _ => none }
def FnExactRenumberFlagsWrongFalsely : Prop := fnExactRenumberFlagsRow.holds Try.pinned (OpenSpec.ofChange fnExactRenumberFlagsWrong)

/-- 'laws.FnExactColouringOf': WHATEVER THE INPUT: true; the input reads as it did. -/
def fnExactColouringOfSpec : ChangeSpec := { name := "fnExactColouringOf", fn := fun _ => fun
  | [d] => { results := [.lit (.bool true)], args := [d] }
  | _ => none }
def fnExactColouringOfRow : OpenClaim := { program := "ytonojnblcleggaa", sum := "479e2ef4dc9a6c439efc793f5b0690ae26f7b4a20570933ec01da39970b0a62c", func := "loop.example/g01108/laws.FnExactColouringOf", spec := "fnExactColouringOf", unfollowed := true, recurses := true, apart := false }
def FnExactColouringOfSaid : Prop := fnExactColouringOfRow.holds Try.pinned (OpenSpec.ofChange fnExactColouringOfSpec)

/-- ITS FALSE NEIGHBOUR: 'it returns false'. Refute it at one input. -/
def fnExactColouringOfWrong : ChangeSpec := { name := "fnExactColouringOf", fn := fun _ => fun
  | [d] => { results := [.lit (.bool false)], args := [d] }
  | _ => none }
def FnExactColouringOfWrongFalsely : Prop := fnExactColouringOfRow.holds Try.pinned (OpenSpec.ofChange fnExactColouringOfWrong)

/-- 'laws.FnExactFaceLabels': WHATEVER THE INPUT: true; the input reads as it did. -/
def fnExactFaceLabelsSpec : ChangeSpec := { name := "fnExactFaceLabels", fn := fun _ => fun
  | [d1, d2] => { results := [.lit (.bool true)], args := [d1, d2] }
  | _ => none }
def fnExactFaceLabelsRow : OpenClaim := { program := "ytonojnblcleggaa", sum := "479e2ef4dc9a6c439efc793f5b0690ae26f7b4a20570933ec01da39970b0a62c", func := "loop.example/g01108/laws.FnExactFaceLabels", spec := "fnExactFaceLabels", apart := false }
def FnExactFaceLabelsSaid : Prop := fnExactFaceLabelsRow.holds Try.pinned (OpenSpec.ofChange fnExactFaceLabelsSpec)

/-- ITS FALSE NEIGHBOUR: 'it returns false'. Refute it at one input. -/
def fnExactFaceLabelsWrong : ChangeSpec := { name := "fnExactFaceLabels", fn := fun _ => fun
  | [d1, d2] => { results := [.lit (.bool false)], args := [d1, d2] }
  | _ => none }
def FnExactFaceLabelsWrongFalsely : Prop := fnExactFaceLabelsRow.holds Try.pinned (OpenSpec.ofChange fnExactFaceLabelsWrong)

/-- 'laws.FnExactFormFrom': WHATEVER THE INPUT: true; the input reads as it did. -/
def fnExactFormFromSpec : ChangeSpec := { name := "fnExactFormFrom", fn := fun _ => fun
  | [d1, d2] => { results := [.lit (.bool true)], args := [d1, d2] }
  | _ => none }
def fnExactFormFromRow : OpenClaim := { program := "ytonojnblcleggaa", sum := "479e2ef4dc9a6c439efc793f5b0690ae26f7b4a20570933ec01da39970b0a62c", func := "loop.example/g01108/laws.FnExactFormFrom", spec := "fnExactFormFrom", apart := false }
def FnExactFormFromSaid : Prop := fnExactFormFromRow.holds Try.pinned (OpenSpec.ofChange fnExactFormFromSpec)

/-- ITS FALSE NEIGHBOUR: 'it returns false'. Refute it at one input. -/
def fnExactFormFromWrong : ChangeSpec := { name := "fnExactFormFrom", fn := fun _ => fun
  | [d1, d2] => { results := [.lit (.bool false)], args := [d1, d2] }
  | _ => none }
def FnExactFormFromWrongFalsely : Prop := fnExactFormFromRow.holds Try.pinned (OpenSpec.ofChange fnExactFormFromWrong)

/- THE SECOND FORM. 'bulk': how many values and letters a reading holds, each counted each time it is reached (what is shared counts as often as it is met; a slice's spare places count too). A statement '..UptoSaid' is the law's where the arguments, and the package variables that the reading takes, are together of bulk at most 1048576: NARROWER than '..Said'. Prove '..Said' where nothing that the law and all that it calls make is longer than what came in: it says more and counts as full. Else prove '..UptoSaid'. A law counts once. -/
mutual
def uptoBulk {H : Type} : DataW H → Nat
  | .lit (.string bytes) => bytes.length + 1
  | .lit _ => 1
  | .nil => 1
  | .ptr d => uptoBulk d + 1
  | .slice elems spare => uptoBulkAll elems + uptoBulkAll spare + 1
  | .agg parts => uptoBulkAll parts + 1
  | .iface _ d => uptoBulk d + 1
  | .map entries => uptoBulkEntries entries + 1
  | .held _ => 1
def uptoBulkAll {H : Type} : List (DataW H) → Nat
  | [] => 0
  | d :: r => uptoBulk d + uptoBulkAll r
def uptoBulkEntries {H : Type} : List (Lit × DataW H) → Nat
  | [] => 0
  | x :: r => uptoBulkEntry x + uptoBulkEntries r
def uptoBulkEntry {H : Type} : Lit × DataW H → Nat
  | (.string bytes, d) => bytes.length + uptoBulk d + 1
  | (_, d) => uptoBulk d + 1
 end
def uptoSmall : (H : Type) → List (DataW H) → Bool := fun _ ds => decide (uptoBulkAll ds ≤ 1048576)
def OpenSpec.upto (s : _root_.Go.ChangeSpec) : _root_.Go.OpenSpec := { _root_.Go.OpenSpec.ofChange s with cond := some uptoSmall }

/-- 'laws.FnExactIsPoset', WHERE WHAT IT READS IS OF BULK AT MOST 1048576: true; the input reads as it did. -/
def fnExactIsPosetUptoRow : OpenClaim := { program := "ytonojnblcleggaa", sum := "479e2ef4dc9a6c439efc793f5b0690ae26f7b4a20570933ec01da39970b0a62c", func := "loop.example/g01108/laws.FnExactIsPoset", spec := "fnExactIsPoset", unfollowed := true, recurses := true, apart := false, narrowed := true }
def FnExactIsPosetUptoSaid : Prop := fnExactIsPosetUptoRow.holds Try.pinned (OpenSpec.upto fnExactIsPosetSpec)

/-- 'laws.FnExactOppositePoset', WHERE WHAT IT READS IS OF BULK AT MOST 1048576: true; the input reads as it did. -/
def fnExactOppositePosetUptoRow : OpenClaim := { program := "ytonojnblcleggaa", sum := "479e2ef4dc9a6c439efc793f5b0690ae26f7b4a20570933ec01da39970b0a62c", func := "loop.example/g01108/laws.FnExactOppositePoset", spec := "fnExactOppositePoset", unfollowed := true, recurses := true, apart := false, narrowed := true }
def FnExactOppositePosetUptoSaid : Prop := fnExactOppositePosetUptoRow.holds Try.pinned (OpenSpec.upto fnExactOppositePosetSpec)

/-- 'laws.FnExactIsLattice', WHERE WHAT IT READS IS OF BULK AT MOST 1048576: true; the input reads as it did. -/
def fnExactIsLatticeUptoRow : OpenClaim := { program := "ytonojnblcleggaa", sum := "479e2ef4dc9a6c439efc793f5b0690ae26f7b4a20570933ec01da39970b0a62c", func := "loop.example/g01108/laws.FnExactIsLattice", spec := "fnExactIsLattice", unfollowed := true, recurses := true, apart := false, narrowed := true }
def FnExactIsLatticeUptoSaid : Prop := fnExactIsLatticeUptoRow.holds Try.pinned (OpenSpec.upto fnExactIsLatticeSpec)

/-- 'laws.FnExactDiamondFault', WHERE WHAT IT READS IS OF BULK AT MOST 1048576: true; the input reads as it did. -/
def fnExactDiamondFaultUptoRow : OpenClaim := { program := "ytonojnblcleggaa", sum := "479e2ef4dc9a6c439efc793f5b0690ae26f7b4a20570933ec01da39970b0a62c", func := "loop.example/g01108/laws.FnExactDiamondFault", spec := "fnExactDiamondFault", unfollowed := true, recurses := true, apart := false, narrowed := true }
def FnExactDiamondFaultUptoSaid : Prop := fnExactDiamondFaultUptoRow.holds Try.pinned (OpenSpec.upto fnExactDiamondFaultSpec)

/-- 'laws.FnExactDiameterOf', WHERE WHAT IT READS IS OF BULK AT MOST 1048576: true; the input reads as it did. -/
def fnExactDiameterOfUptoRow : OpenClaim := { program := "ytonojnblcleggaa", sum := "479e2ef4dc9a6c439efc793f5b0690ae26f7b4a20570933ec01da39970b0a62c", func := "loop.example/g01108/laws.FnExactDiameterOf", spec := "fnExactDiameterOf", apart := false, narrowed := true }
def FnExactDiameterOfUptoSaid : Prop := fnExactDiameterOfUptoRow.holds Try.pinned (OpenSpec.upto fnExactDiameterOfSpec)

/-- 'laws.FnExactIsOrientable', WHERE WHAT IT READS IS OF BULK AT MOST 1048576: true; the input reads as it did. -/
def fnExactIsOrientableUptoRow : OpenClaim := { program := "ytonojnblcleggaa", sum := "479e2ef4dc9a6c439efc793f5b0690ae26f7b4a20570933ec01da39970b0a62c", func := "loop.example/g01108/laws.FnExactIsOrientable", spec := "fnExactIsOrientable", unfollowed := true, recurses := true, apart := false, narrowed := true }
def FnExactIsOrientableUptoSaid : Prop := fnExactIsOrientableUptoRow.holds Try.pinned (OpenSpec.upto fnExactIsOrientableSpec)

/-- 'laws.FnExactDistancesFrom', WHERE WHAT IT READS IS OF BULK AT MOST 1048576: true; the input reads as it did. -/
def fnExactDistancesFromUptoRow : OpenClaim := { program := "ytonojnblcleggaa", sum := "479e2ef4dc9a6c439efc793f5b0690ae26f7b4a20570933ec01da39970b0a62c", func := "loop.example/g01108/laws.FnExactDistancesFrom", spec := "fnExactDistancesFrom", apart := false, narrowed := true }
def FnExactDistancesFromUptoSaid : Prop := fnExactDistancesFromUptoRow.holds Try.pinned (OpenSpec.upto fnExactDistancesFromSpec)

/-- 'laws.FnExactFlagsOf', WHERE WHAT IT READS IS OF BULK AT MOST 1048576: true; the input reads as it did. -/
def fnExactFlagsOfUptoRow : OpenClaim := { program := "ytonojnblcleggaa", sum := "479e2ef4dc9a6c439efc793f5b0690ae26f7b4a20570933ec01da39970b0a62c", func := "loop.example/g01108/laws.FnExactFlagsOf", spec := "fnExactFlagsOf", unfollowed := true, recurses := true, apart := false, narrowed := true }
def FnExactFlagsOfUptoSaid : Prop := fnExactFlagsOfUptoRow.holds Try.pinned (OpenSpec.upto fnExactFlagsOfSpec)

/-- 'laws.FnExactRenumberFlags', WHERE WHAT IT READS IS OF BULK AT MOST 1048576: true; the input reads as it did. -/
def fnExactRenumberFlagsUptoRow : OpenClaim := { program := "ytonojnblcleggaa", sum := "479e2ef4dc9a6c439efc793f5b0690ae26f7b4a20570933ec01da39970b0a62c", func := "loop.example/g01108/laws.FnExactRenumberFlags", spec := "fnExactRenumberFlags", apart := false, narrowed := true }
def FnExactRenumberFlagsUptoSaid : Prop := fnExactRenumberFlagsUptoRow.holds Try.pinned (OpenSpec.upto fnExactRenumberFlagsSpec)

/-- 'laws.FnExactColouringOf', WHERE WHAT IT READS IS OF BULK AT MOST 1048576: true; the input reads as it did. -/
def fnExactColouringOfUptoRow : OpenClaim := { program := "ytonojnblcleggaa", sum := "479e2ef4dc9a6c439efc793f5b0690ae26f7b4a20570933ec01da39970b0a62c", func := "loop.example/g01108/laws.FnExactColouringOf", spec := "fnExactColouringOf", unfollowed := true, recurses := true, apart := false, narrowed := true }
def FnExactColouringOfUptoSaid : Prop := fnExactColouringOfUptoRow.holds Try.pinned (OpenSpec.upto fnExactColouringOfSpec)

/-- 'laws.FnExactFaceLabels', WHERE WHAT IT READS IS OF BULK AT MOST 1048576: true; the input reads as it did. -/
def fnExactFaceLabelsUptoRow : OpenClaim := { program := "ytonojnblcleggaa", sum := "479e2ef4dc9a6c439efc793f5b0690ae26f7b4a20570933ec01da39970b0a62c", func := "loop.example/g01108/laws.FnExactFaceLabels", spec := "fnExactFaceLabels", apart := false, narrowed := true }
def FnExactFaceLabelsUptoSaid : Prop := fnExactFaceLabelsUptoRow.holds Try.pinned (OpenSpec.upto fnExactFaceLabelsSpec)

/-- 'laws.FnExactFormFrom', WHERE WHAT IT READS IS OF BULK AT MOST 1048576: true; the input reads as it did. -/
def fnExactFormFromUptoRow : OpenClaim := { program := "ytonojnblcleggaa", sum := "479e2ef4dc9a6c439efc793f5b0690ae26f7b4a20570933ec01da39970b0a62c", func := "loop.example/g01108/laws.FnExactFormFrom", spec := "fnExactFormFrom", apart := false, narrowed := true }
def FnExactFormFromUptoSaid : Prop := fnExactFormFromUptoRow.holds Try.pinned (OpenSpec.upto fnExactFormFromSpec)

end Rows
end Go.Proofs.Ytonojnblcleggaa
