/-
  No cell of these rows narrows 'for every input' (looked for: loops, veiled, ifaces, maps, wideKeys, modest, calm, conditions, laid).
  DERIVED. THE GIVEN ROWS OF THIS SEAT. 4 by the template 'for every input the law returns true; each argument reads behind the call as it read before'; 0 by the template 'total and deterministic' (their statements: YtbioelmofceaaaaTotals.lean).
  GIVEN WITH THE SEED: the statements are not yours to turn. If you find one false, say at which input.
  Laid BY PROGRAM, IN A SANDBOX (cutbox-rows.mjs): the forced cells as the released guide's own fill.sh prints them over the translation ed984351a9668c64… (all of the seat's roots in one cut). By AI agents, Wed Nov 11 2026. No macro, syntax, notation, axiom, sorry.
-/
import Derived.Test.YtbioelmofceaaaaChecked
import GoSem.Claim
import GoSem.ClaimJoined
import GoSem.ClaimMapViews
import Derived.JoinedTies
import Derived.KernelRfl
namespace Go.Proofs.Ytbioelmofceaaaa
/- THE CELL 'sum', in the pinned program and in every row, IS THE sha256 OF THE DUMP (.gsa) THAT YtbioelmofceaaaaProg.lean LOADS. Nothing in Lean hashes anything: it is a label: what it is worth is what the hold of that sum in a sandbox is worth. -/
noncomputable def Try.pinned : Pinned := { name := "ytbioelmofceaaaa", sum := "ed984351a9668c64f088da2810305589103cb4ec55fe78a0243ee37308153876", checked := Try.checked }
namespace Rows
def none {H : Type} : Left H := { results := [], args := [] }

/-- 'laws.FnExactIsLattice': WHATEVER THE INPUT: true; the input reads as it did. -/
def fnExactIsLatticeSpec : ChangeSpec := { name := "fnExactIsLattice", fn := fun _ => fun
  | [d] => { results := [.lit (.bool true)], args := [d] }
  | _ => none }
def fnExactIsLatticeRow : OpenClaim := { program := "ytbioelmofceaaaa", sum := "ed984351a9668c64f088da2810305589103cb4ec55fe78a0243ee37308153876", func := "loop.example/g01108/laws.FnExactIsLattice", spec := "fnExactIsLattice", unfollowed := true, recurses := true, apart := false }
def FnExactIsLatticeSaid : Prop := fnExactIsLatticeRow.holds Try.pinned (OpenSpec.ofChange fnExactIsLatticeSpec)

/-- ITS FALSE NEIGHBOUR: 'it returns false'. Refute it at one input. -/
def fnExactIsLatticeWrong : ChangeSpec := { name := "fnExactIsLattice", fn := fun _ => fun
  | [d] => { results := [.lit (.bool false)], args := [d] }
  | _ => none }
def FnExactIsLatticeWrongFalsely : Prop := fnExactIsLatticeRow.holds Try.pinned (OpenSpec.ofChange fnExactIsLatticeWrong)

/-- 'laws.FnExactFacePoset': WHATEVER THE INPUT: true; the input reads as it did. -/
def fnExactFacePosetSpec : ChangeSpec := { name := "fnExactFacePoset", fn := fun _ => fun
  | [d] => { results := [.lit (.bool true)], args := [d] }
  | _ => none }
def fnExactFacePosetRow : OpenClaim := { program := "ytbioelmofceaaaa", sum := "ed984351a9668c64f088da2810305589103cb4ec55fe78a0243ee37308153876", func := "loop.example/g01108/laws.FnExactFacePoset", spec := "fnExactFacePoset", recurses := true, apart := false }
def FnExactFacePosetSaid : Prop := fnExactFacePosetRow.holds Try.pinned (OpenSpec.ofChange fnExactFacePosetSpec)

/-- ITS FALSE NEIGHBOUR: 'it returns false'. Refute it at one input. -/
def fnExactFacePosetWrong : ChangeSpec := { name := "fnExactFacePoset", fn := fun _ => fun
  | [d] => { results := [.lit (.bool false)], args := [d] }
  | _ => none }
def FnExactFacePosetWrongFalsely : Prop := fnExactFacePosetRow.holds Try.pinned (OpenSpec.ofChange fnExactFacePosetWrong)

/-- 'laws.FnExactIsLocallySpherical': WHATEVER THE INPUT: true; the input reads as it did. -/
def fnExactIsLocallySphericalSpec : ChangeSpec := { name := "fnExactIsLocallySpherical", fn := fun _ => fun
  | [d] => { results := [.lit (.bool true)], args := [d] }
  | _ => none }
def fnExactIsLocallySphericalRow : OpenClaim := { program := "ytbioelmofceaaaa", sum := "ed984351a9668c64f088da2810305589103cb4ec55fe78a0243ee37308153876", func := "loop.example/g01108/laws.FnExactIsLocallySpherical", spec := "fnExactIsLocallySpherical", unfollowed := true, recurses := true, apart := false }
def FnExactIsLocallySphericalSaid : Prop := fnExactIsLocallySphericalRow.holds Try.pinned (OpenSpec.ofChange fnExactIsLocallySphericalSpec)

/-- ITS FALSE NEIGHBOUR: 'it returns false'. Refute it at one input. -/
def fnExactIsLocallySphericalWrong : ChangeSpec := { name := "fnExactIsLocallySpherical", fn := fun _ => fun
  | [d] => { results := [.lit (.bool false)], args := [d] }
  | _ => none }
def FnExactIsLocallySphericalWrongFalsely : Prop := fnExactIsLocallySphericalRow.holds Try.pinned (OpenSpec.ofChange fnExactIsLocallySphericalWrong)

/-- 'laws.FnExactHasEqualFacets': WHATEVER THE INPUT: true; the input reads as it did. -/
def fnExactHasEqualFacetsSpec : ChangeSpec := { name := "fnExactHasEqualFacets", fn := fun _ => fun
  | [d] => { results := [.lit (.bool true)], args := [d] }
  | _ => none }
def fnExactHasEqualFacetsRow : OpenClaim := { program := "ytbioelmofceaaaa", sum := "ed984351a9668c64f088da2810305589103cb4ec55fe78a0243ee37308153876", func := "loop.example/g01108/laws.FnExactHasEqualFacets", spec := "fnExactHasEqualFacets", unfollowed := true, recurses := true, apart := false }
def FnExactHasEqualFacetsSaid : Prop := fnExactHasEqualFacetsRow.holds Try.pinned (OpenSpec.ofChange fnExactHasEqualFacetsSpec)

/-- ITS FALSE NEIGHBOUR: 'it returns false'. Refute it at one input. -/
def fnExactHasEqualFacetsWrong : ChangeSpec := { name := "fnExactHasEqualFacets", fn := fun _ => fun
  | [d] => { results := [.lit (.bool false)], args := [d] }
  | _ => none }
def FnExactHasEqualFacetsWrongFalsely : Prop := fnExactHasEqualFacetsRow.holds Try.pinned (OpenSpec.ofChange fnExactHasEqualFacetsWrong)

/- THE SECOND FORM. 'bulk': how many values and letters a reading holds, each counted each time it is reached (what is shared counts as often as it is met; a slice's spare places count too). A statement '..UptoSaid' is the law's where the arguments, and the package variables that the reading takes, are together of bulk at most 1048576: NARROWER than '..Said'. Prove '..Said' where nothing that the law and all that it calls make is longer than what came in: it says more and counts as full. Else prove '..UptoSaid'. A law counts once. -/
mutual
def uptoBulk {H : Type} : DataW H → Nat
  | .lit (.string bytes) => bytes.length + 1
  | .lit _ => 1
  | .nil => 1
  | .ptr d => uptoBulk d + 1
  | .slice elems spare => uptoBulkAll elems + uptoBulkAll spare + 1
  | .agg parts => uptoBulkAll parts + 1
  | .iface _ d => uptoBulk d + 1
  | .map entries => uptoBulkEntries entries + 1
  | .held _ => 1
def uptoBulkAll {H : Type} : List (DataW H) → Nat
  | [] => 0
  | d :: r => uptoBulk d + uptoBulkAll r
def uptoBulkEntries {H : Type} : List (Lit × DataW H) → Nat
  | [] => 0
  | x :: r => uptoBulkEntry x + uptoBulkEntries r
def uptoBulkEntry {H : Type} : Lit × DataW H → Nat
  | (.string bytes, d) => bytes.length + uptoBulk d + 1
  | (_, d) => uptoBulk d + 1
 end
def uptoSmall : (H : Type) → List (DataW H) → Bool := fun _ ds => decide (uptoBulkAll ds ≤ 1048576)
def OpenSpec.upto (s : _root_.Go.ChangeSpec) : _root_.Go.OpenSpec := { _root_.Go.OpenSpec.ofChange s with cond := some uptoSmall }

/-- 'laws.FnExactIsLattice', WHERE WHAT IT READS IS OF BULK AT MOST 1048576: true; the input reads as it did. -/
def fnExactIsLatticeUptoRow : OpenClaim := { program := "ytbioelmofceaaaa", sum := "ed984351a9668c64f088da2810305589103cb4ec55fe78a0243ee37308153876", func := "loop.example/g01108/laws.FnExactIsLattice", spec := "fnExactIsLattice", unfollowed := true, recurses := true, apart := false, narrowed := true }
def FnExactIsLatticeUptoSaid : Prop := fnExactIsLatticeUptoRow.holds Try.pinned (OpenSpec.upto fnExactIsLatticeSpec)

/-- 'laws.FnExactFacePoset', WHERE WHAT IT READS IS OF BULK AT MOST 1048576: true; the input reads as it did. -/
def fnExactFacePosetUptoRow : OpenClaim := { program := "ytbioelmofceaaaa", sum := "ed984351a9668c64f088da2810305589103cb4ec55fe78a0243ee37308153876", func := "loop.example/g01108/laws.FnExactFacePoset", spec := "fnExactFacePoset", recurses := true, apart := false, narrowed := true }
def FnExactFacePosetUptoSaid : Prop := fnExactFacePosetUptoRow.holds Try.pinned (OpenSpec.upto fnExactFacePosetSpec)

/-- 'laws.FnExactIsLocallySpherical', WHERE WHAT IT READS IS OF BULK AT MOST 1048576: true; the input reads as it did. -/
def fnExactIsLocallySphericalUptoRow : OpenClaim := { program := "ytbioelmofceaaaa", sum := "ed984351a9668c64f088da2810305589103cb4ec55fe78a0243ee37308153876", func := "loop.example/g01108/laws.FnExactIsLocallySpherical", spec := "fnExactIsLocallySpherical", unfollowed := true, recurses := true, apart := false, narrowed := true }
def FnExactIsLocallySphericalUptoSaid : Prop := fnExactIsLocallySphericalUptoRow.holds Try.pinned (OpenSpec.upto fnExactIsLocallySphericalSpec)

/-- 'laws.FnExactHasEqualFacets', WHERE WHAT IT READS IS OF BULK AT MOST 1048576: true; the input reads as it did. -/
def fnExactHasEqualFacetsUptoRow : OpenClaim := { program := "ytbioelmofceaaaa", sum := "ed984351a9668c64f088da2810305589103cb4ec55fe78a0243ee37308153876", func := "loop.example/g01108/laws.FnExactHasEqualFacets", spec := "fnExactHasEqualFacets", unfollowed := true, recurses := true, apart := false, narrowed := true }
def FnExactHasEqualFacetsUptoSaid : Prop := fnExactHasEqualFacetsUptoRow.holds Try.pinned (OpenSpec.upto fnExactHasEqualFacetsSpec)

end Rows
end Go.Proofs.Ytbioelmofceaaaa
