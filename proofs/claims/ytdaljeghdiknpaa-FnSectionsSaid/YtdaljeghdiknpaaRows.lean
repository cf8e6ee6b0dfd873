/-
  No cell of these rows narrows 'for every input' (looked for: loops, veiled, ifaces, maps, wideKeys, modest, calm, conditions, laid).
  DERIVED. THE GIVEN ROWS OF THIS SEAT. 8 by the template 'for every input the law returns true; each argument reads behind the call as it read before'; 0 by the template 'total and deterministic' (their statements: YtdaljeghdiknpaaTotals.lean).
  GIVEN WITH THE SEED: the statements are not yours to turn. If you find one false, say at which input.
  Laid BY PROGRAM, IN A SANDBOX (cutbox-rows.mjs): the forced cells as the released guide's own fill.sh prints them over the translation fd816c978f24d271… (all of the seat's roots in one cut). By AI agents, Wed Nov 11 2026. No macro, syntax, notation, axiom, sorry.
-/
import Derived.Test.YtdaljeghdiknpaaChecked
import GoSem.Claim
import GoSem.ClaimJoined
import GoSem.ClaimMapViews
import Derived.JoinedTies
import Derived.KernelRfl
namespace Go.Proofs.Ytdaljeghdiknpaa
/- THE CELL 'sum', in the pinned program and in every row, IS THE sha256 OF THE DUMP (.gsa) THAT YtdaljeghdiknpaaProg.lean LOADS. Nothing in Lean hashes anything: it is a label: what it is worth is what the hold of that sum in a sandbox is worth. -/
noncomputable def Try.pinned : Pinned := { name := "ytdaljeghdiknpaa", sum := "fd816c978f24d2718fda23330d73fdece9d49740f86fee76ab9d53dab18ed46c", checked := Try.checked }
namespace Rows
def none {H : Type} : Left H := { results := [], args := [] }

/-- 'laws.FnOrbits': WHATEVER THE INPUT: true; the input reads as it did. -/
def fnOrbitsSpec : ChangeSpec := { name := "fnOrbits", fn := fun _ => fun
  | [d] => { results := [.lit (.bool true)], args := [d] }
  | _ => none }
def fnOrbitsRow : OpenClaim := { program := "ytdaljeghdiknpaa", sum := "fd816c978f24d2718fda23330d73fdece9d49740f86fee76ab9d53dab18ed46c", func := "loop.example/g01108/laws.FnOrbits", spec := "fnOrbits", unfollowed := true, recurses := true, apart := false }
def FnOrbitsSaid : Prop := fnOrbitsRow.holds Try.pinned (OpenSpec.ofChange fnOrbitsSpec)

/-- ITS FALSE NEIGHBOUR: 'it returns false'. Refute it at one input. -/
def fnOrbitsWrong : ChangeSpec := { name := "fnOrbits", fn := fun _ => fun
  | [d] => { results := [.lit (.bool false)], args := [d] }
  | _ => none }
def FnOrbitsWrongFalsely : Prop := fnOrbitsRow.holds Try.pinned (OpenSpec.ofChange fnOrbitsWrong)

/-- 'laws.FnColourings': WHATEVER THE INPUT: true; the input reads as it did. -/
def fnColouringsSpec : ChangeSpec := { name := "fnColourings", fn := fun _ => fun
  | [d] => { results := [.lit (.bool true)], args := [d] }
  | _ => none }
def fnColouringsRow : OpenClaim := { program := "ytdaljeghdiknpaa", sum := "fd816c978f24d2718fda23330d73fdece9d49740f86fee76ab9d53dab18ed46c", func := "loop.example/g01108/laws.FnColourings", spec := "fnColourings", unfollowed := true, recurses := true, apart := false }
def FnColouringsSaid : Prop := fnColouringsRow.holds Try.pinned (OpenSpec.ofChange fnColouringsSpec)

/-- ITS FALSE NEIGHBOUR: 'it returns false'. Refute it at one input. -/
def fnColouringsWrong : ChangeSpec := { name := "fnColourings", fn := fun _ => fun
  | [d] => { results := [.lit (.bool false)], args := [d] }
  | _ => none }
def FnColouringsWrongFalsely : Prop := fnColouringsRow.holds Try.pinned (OpenSpec.ofChange fnColouringsWrong)

/-- 'laws.FnFaces': WHATEVER THE INPUT: true; the input reads as it did. -/
def fnFacesSpec : ChangeSpec := { name := "fnFaces", fn := fun _ => fun
  | [d] => { results := [.lit (.bool true)], args := [d] }
  | _ => none }
def fnFacesRow : OpenClaim := { program := "ytdaljeghdiknpaa", sum := "fd816c978f24d2718fda23330d73fdece9d49740f86fee76ab9d53dab18ed46c", func := "loop.example/g01108/laws.FnFaces", spec := "fnFaces", apart := false }
def FnFacesSaid : Prop := fnFacesRow.holds Try.pinned (OpenSpec.ofChange fnFacesSpec)

/-- ITS FALSE NEIGHBOUR: 'it returns false'. Refute it at one input. -/
def fnFacesWrong : ChangeSpec := { name := "fnFaces", fn := fun _ => fun
  | [d] => { results := [.lit (.bool false)], args := [d] }
  | _ => none }
def FnFacesWrongFalsely : Prop := fnFacesRow.holds Try.pinned (OpenSpec.ofChange fnFacesWrong)

/-- 'laws.FnPaths': WHATEVER THE INPUT: true; the input reads as it did. -/
def fnPathsSpec : ChangeSpec := { name := "fnPaths", fn := fun _ => fun
  | [d] => { results := [.lit (.bool true)], args := [d] }
  | _ => none }
def fnPathsRow : OpenClaim := { program := "ytdaljeghdiknpaa", sum := "fd816c978f24d2718fda23330d73fdece9d49740f86fee76ab9d53dab18ed46c", func := "loop.example/g01108/laws.FnPaths", spec := "fnPaths", unfollowed := true, recurses := true, apart := false }
def FnPathsSaid : Prop := fnPathsRow.holds Try.pinned (OpenSpec.ofChange fnPathsSpec)

/-- ITS FALSE NEIGHBOUR: 'it returns false'. Refute it at one input. -/
def fnPathsWrong : ChangeSpec := { name := "fnPaths", fn := fun _ => fun
  | [d] => { results := [.lit (.bool false)], args := [d] }
  | _ => none }
def FnPathsWrongFalsely : Prop := fnPathsRow.holds Try.pinned (OpenSpec.ofChange fnPathsWrong)

/-- 'laws.FnConjugates': WHATEVER THE INPUT: true; the input reads as it did. -/
def fnConjugatesSpec : ChangeSpec := { name := "fnConjugates", fn := fun _ => fun
  | [d] => { results := [.lit (.bool true)], args := [d] }
  | _ => none }
def fnConjugatesRow : OpenClaim := { program := "ytdaljeghdiknpaa", sum := "fd816c978f24d2718fda23330d73fdece9d49740f86fee76ab9d53dab18ed46c", func := "loop.example/g01108/laws.FnConjugates", spec := "fnConjugates", recurses := true, apart := false }
def FnConjugatesSaid : Prop := fnConjugatesRow.holds Try.pinned (OpenSpec.ofChange fnConjugatesSpec)

/-- ITS FALSE NEIGHBOUR: 'it returns false'. Refute it at one input. -/
def fnConjugatesWrong : ChangeSpec := { name := "fnConjugates", fn := fun _ => fun
  | [d] => { results := [.lit (.bool false)], args := [d] }
  | _ => none }
def FnConjugatesWrongFalsely : Prop := fnConjugatesRow.holds Try.pinned (OpenSpec.ofChange fnConjugatesWrong)

/-- 'laws.FnFaceSections': WHATEVER THE INPUT: true; the input reads as it did. -/
def fnFaceSectionsSpec : ChangeSpec := { name := "fnFaceSections", fn := fun _ => fun
  | [d] => { results := [.lit (.bool true)], args := [d] }
  | _ => none }
def fnFaceSectionsRow : OpenClaim := { program := "ytdaljeghdiknpaa", sum := "fd816c978f24d2718fda23330d73fdece9d49740f86fee76ab9d53dab18ed46c", func := "loop.example/g01108/laws.FnFaceSections", spec := "fnFaceSections", apart := false }
def FnFaceSectionsSaid : Prop := fnFaceSectionsRow.holds Try.pinned (OpenSpec.ofChange fnFaceSectionsSpec)

/-- ITS FALSE NEIGHBOUR: 'it returns false'. Refute it at one input. -/
def fnFaceSectionsWrong : ChangeSpec := { name := "fnFaceSections", fn := fun _ => fun
  | [d] => { results := [.lit (.bool false)], args := [d] }
  | _ => none }
def FnFaceSectionsWrongFalsely : Prop := fnFaceSectionsRow.holds Try.pinned (OpenSpec.ofChange fnFaceSectionsWrong)

/-- 'laws.FnPermutationOrders': WHATEVER THE INPUT: true; the input reads as it did. -/
def fnPermutationOrdersSpec : ChangeSpec := { name := "fnPermutationOrders", fn := fun _ => fun
  | [d] => { results := [.lit (.bool true)], args := [d] }
  | _ => none }
def fnPermutationOrdersRow : OpenClaim := { program := "ytdaljeghdiknpaa", sum := "fd816c978f24d2718fda23330d73fdece9d49740f86fee76ab9d53dab18ed46c", func := "loop.example/g01108/laws.FnPermutationOrders", spec := "fnPermutationOrders", recurses := true, apart := false }
def FnPermutationOrdersSaid : Prop := fnPermutationOrdersRow.holds Try.pinned (OpenSpec.ofChange fnPermutationOrdersSpec)

/-- ITS FALSE NEIGHBOUR: 'it returns false'. Refute it at one input. -/
def fnPermutationOrdersWrong : ChangeSpec := { name := "fnPermutationOrders", fn := fun _ => fun
  | [d] => { results := [.lit (.bool false)], args := [d] }
  | _ => none }
def FnPermutationOrdersWrongFalsely : Prop := fnPermutationOrdersRow.holds Try.pinned (OpenSpec.ofChange fnPermutationOrdersWrong)

/-- 'laws.FnSections': WHATEVER THE INPUT: true; the input reads as it did. -/
def fnSectionsSpec : ChangeSpec := { name := "fnSections", fn := fun _ => fun
  | [d] => { results := [.lit (.bool true)], args := [d] }
  | _ => none }
def fnSectionsRow : OpenClaim := { program := "ytdaljeghdiknpaa", sum := "fd816c978f24d2718fda23330d73fdece9d49740f86fee76ab9d53dab18ed46c", func := "loop.example/g01108/laws.FnSections", spec := "fnSections", recurses := true, apart := false }
def FnSectionsSaid : Prop := fnSectionsRow.holds Try.pinned (OpenSpec.ofChange fnSectionsSpec)

/-- ITS FALSE NEIGHBOUR: 'it returns false'. Refute it at one input. -/
def fnSectionsWrong : ChangeSpec := { name := "fnSections", fn := fun _ => fun
  | [d] => { results := [.lit (.bool false)], args := [d] }
  | _ => none }
def FnSectionsWrongFalsely : Prop := fnSectionsRow.holds Try.pinned (OpenSpec.ofChange fnSectionsWrong)

/- THE SECOND FORM. 'bulk': how many values and letters a reading holds, each counted each time it is reached (what is shared counts as often as it is met; a slice's spare places count too). A statement '..UptoSaid' is the law's where the arguments, and the package variables that the reading takes, are together of bulk at most 1048576: NARROWER than '..Said'. Prove '..Said' where nothing that the law and all that it calls make is longer than what came in: it says more and counts as full. Else prove '..UptoSaid'. A law counts once. -/
mutual
def uptoBulk {H : Type} : DataW H → Nat
  | .lit (.string bytes) => bytes.length + 1
  | .lit _ => 1
  | .nil => 1
  | .ptr d => uptoBulk d + 1
  | .slice elems spare => uptoBulkAll elems + uptoBulkAll spare + 1
  | .agg parts => uptoBulkAll parts + 1
  | .iface _ d => uptoBulk d + 1
  | .map entries => uptoBulkEntries entries + 1
  | .held _ => 1
def uptoBulkAll {H : Type} : List (DataW H) → Nat
  | [] => 0
  | d :: r => uptoBulk d + uptoBulkAll r
def uptoBulkEntries {H : Type} : List (Lit × DataW H) → Nat
  | [] => 0
  | x :: r => uptoBulkEntry x + uptoBulkEntries r
def uptoBulkEntry {H : Type} : Lit × DataW H → Nat
  | (.string bytes, d) => bytes.length + uptoBulk d + 1
  | (_, d) => uptoBulk d + 1
 end
def uptoSmall : (H : Type) → List (DataW H) → Bool := fun _ ds => decide (uptoBulkAll ds ≤ 1048576)
def OpenSpec.upto (s : _root_.Go.ChangeSpec) : _root_.Go.OpenSpec := { _root_.Go.OpenSpec.ofChange s with cond := some uptoSmall }

/-- 'laws.FnOrbits', WHERE WHAT IT READS IS OF BULK AT MOST 1048576: true; the input reads as it did. -/
def fnOrbitsUptoRow : OpenClaim := { program := "ytdaljeghdiknpaa", sum := "fd816c978f24d2718fda23330d73fdece9d49740f86fee76ab9d53dab18ed46c", func := "loop.example/g01108/laws.FnOrbits", spec := "fnOrbits", unfollowed := true, recurses := true, apart := false, narrowed := true }
def FnOrbitsUptoSaid : Prop := fnOrbitsUptoRow.holds Try.pinned (OpenSpec.upto fnOrbitsSpec)

/-- 'laws.FnColourings', WHERE WHAT IT READS IS OF BULK AT MOST 1048576: true; the input reads as it did. -/
def fnColouringsUptoRow : OpenClaim := { program := "ytdaljeghdiknpaa", sum := "fd816c978f24d2718fda23330d73fdece9d49740f86fee76ab9d53dab18ed46c", func := "loop.example/g01108/laws.FnColourings", spec := "fnColourings", unfollowed := true, recurses := true, apart := false, narrowed := true }
def FnColouringsUptoSaid : Prop := fnColouringsUptoRow.holds Try.pinned (OpenSpec.upto fnColouringsSpec)

/-- 'laws.FnFaces', WHERE WHAT IT READS IS OF BULK AT MOST 1048576: true; the input reads as it did. -/
def fnFacesUptoRow : OpenClaim := { program := "ytdaljeghdiknpaa", sum := "fd816c978f24d2718fda23330d73fdece9d49740f86fee76ab9d53dab18ed46c", func := "loop.example/g01108/laws.FnFaces", spec := "fnFaces", apart := false, narrowed := true }
def FnFacesUptoSaid : Prop := fnFacesUptoRow.holds Try.pinned (OpenSpec.upto fnFacesSpec)

/-- 'laws.FnPaths', WHERE WHAT IT READS IS OF BULK AT MOST 1048576: true; the input reads as it did. -/
def fnPathsUptoRow : OpenClaim := { program := "ytdaljeghdiknpaa", sum := "fd816c978f24d2718fda23330d73fdece9d49740f86fee76ab9d53dab18ed46c", func := "loop.example/g01108/laws.FnPaths", spec := "fnPaths", unfollowed := true, recurses := true, apart := false, narrowed := true }
def FnPathsUptoSaid : Prop := fnPathsUptoRow.holds Try.pinned (OpenSpec.upto fnPathsSpec)

/-- 'laws.FnConjugates', WHERE WHAT IT READS IS OF BULK AT MOST 1048576: true; the input reads as it did. -/
def fnConjugatesUptoRow : OpenClaim := { program := "ytdaljeghdiknpaa", sum := "fd816c978f24d2718fda23330d73fdece9d49740f86fee76ab9d53dab18ed46c", func := "loop.example/g01108/laws.FnConjugates", spec := "fnConjugates", recurses := true, apart := false, narrowed := true }
def FnConjugatesUptoSaid : Prop := fnConjugatesUptoRow.holds Try.pinned (OpenSpec.upto fnConjugatesSpec)

/-- 'laws.FnFaceSections', WHERE WHAT IT READS IS OF BULK AT MOST 1048576: true; the input reads as it did. -/
def fnFaceSectionsUptoRow : OpenClaim := { program := "ytdaljeghdiknpaa", sum := "fd816c978f24d2718fda23330d73fdece9d49740f86fee76ab9d53dab18ed46c", func := "loop.example/g01108/laws.FnFaceSections", spec := "fnFaceSections", apart := false, narrowed := true }
def FnFaceSectionsUptoSaid : Prop := fnFaceSectionsUptoRow.holds Try.pinned (OpenSpec.upto fnFaceSectionsSpec)

/-- 'laws.FnPermutationOrders', WHERE WHAT IT READS IS OF BULK AT MOST 1048576: true; the input reads as it did. -/
def fnPermutationOrdersUptoRow : OpenClaim := { program := "ytdaljeghdiknpaa", sum := "fd816c978f24d2718fda23330d73fdece9d49740f86fee76ab9d53dab18ed46c", func := "loop.example/g01108/laws.FnPermutationOrders", spec := "fnPermutationOrders", recurses := true, apart := false, narrowed := true }
def FnPermutationOrdersUptoSaid : Prop := fnPermutationOrdersUptoRow.holds Try.pinned (OpenSpec.upto fnPermutationOrdersSpec)

/-- 'laws.FnSections', WHERE WHAT IT READS IS OF BULK AT MOST 1048576: true; the input reads as it did. -/
def fnSectionsUptoRow : OpenClaim := { program := "ytdaljeghdiknpaa", sum := "fd816c978f24d2718fda23330d73fdece9d49740f86fee76ab9d53dab18ed46c", func := "loop.example/g01108/laws.FnSections", spec := "fnSections", recurses := true, apart := false, narrowed := true }
def FnSectionsUptoSaid : Prop := fnSectionsUptoRow.holds Try.pinned (OpenSpec.upto fnSectionsSpec)

end Rows
end Go.Proofs.Ytdaljeghdiknpaa
