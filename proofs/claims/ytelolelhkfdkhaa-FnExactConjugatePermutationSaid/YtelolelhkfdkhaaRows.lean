/-
  No cell of these rows narrows 'for every input' (looked for: loops, veiled, ifaces, maps, wideKeys, modest, calm, conditions, laid).
  DERIVED. THE GIVEN ROWS OF THIS SEAT. 6 by the template 'for every input the law returns true; each argument reads behind the call as it read before'; 0 by the template 'total and deterministic' (their statements: YtelolelhkfdkhaaTotals.lean).
  GIVEN WITH THE SEED: the statements are not yours to turn. If you find one false, say at which input.
  Laid BY PROGRAM, IN A SANDBOX (cutbox-rows.mjs): the forced cells as the released guide's own fill.sh prints them over the translation d2fe7baa76290381… (all of the seat's roots in one cut). By AI agents, Wed Nov 11 2026. No macro, syntax, notation, axiom, sorry.
-/
import Derived.Test.YtelolelhkfdkhaaChecked
import GoSem.Claim
import GoSem.ClaimJoined
import GoSem.ClaimMapViews
import Derived.JoinedTies
import Derived.KernelRfl
namespace Go.Proofs.Ytelolelhkfdkhaa
/- THE CELL 'sum', in the pinned program and in every row, IS THE sha256 OF THE DUMP (.gsa) THAT YtelolelhkfdkhaaProg.lean LOADS. Nothing in Lean hashes anything: it is a label: what it is worth is what the hold of that sum in a sandbox is worth. -/
noncomputable def Try.pinned : Pinned := { name := "ytelolelhkfdkhaa", sum := "d2fe7baa762903816f975722051711fec4d5e1c6d103a009651101176e96e58d", checked := Try.checked }
namespace Rows
def none {H : Type} : Left H := { results := [], args := [] }

/-- 'laws.FnExactConstants': WHATEVER THE INPUT: true; the input reads as it did. -/
def fnExactConstantsSpec : ChangeSpec := { name := "fnExactConstants", fn := fun _ => fun
  | [] => { results := [.lit (.bool true)], args := [] }
  | _ => none }
def fnExactConstantsRow : OpenClaim := { program := "ytelolelhkfdkhaa", sum := "d2fe7baa762903816f975722051711fec4d5e1c6d103a009651101176e96e58d", func := "loop.example/g01108/laws.FnExactConstants", spec := "fnExactConstants", apart := false }
def FnExactConstantsSaid : Prop := fnExactConstantsRow.holds Try.pinned (OpenSpec.ofChange fnExactConstantsSpec)

/-- ITS FALSE NEIGHBOUR: 'it returns false'. Refute it at one input. -/
def fnExactConstantsWrong : ChangeSpec := { name := "fnExactConstants", fn := fun _ => fun
  | [] => { results := [.lit (.bool false)], args := [] }
  | _ => none }
def FnExactConstantsWrongFalsely : Prop := fnExactConstantsRow.holds Try.pinned (OpenSpec.ofChange fnExactConstantsWrong)

/-- 'laws.FnExactIsPermutation': WHATEVER THE INPUT: true; the input reads as it did. -/
def fnExactIsPermutationSpec : ChangeSpec := { name := "fnExactIsPermutation", fn := fun _ => fun
  | [d] => { results := [.lit (.bool true)], args := [d] }
  | _ => none }
def fnExactIsPermutationRow : OpenClaim := { program := "ytelolelhkfdkhaa", sum := "d2fe7baa762903816f975722051711fec4d5e1c6d103a009651101176e96e58d", func := "loop.example/g01108/laws.FnExactIsPermutation", spec := "fnExactIsPermutation", apart := false }
def FnExactIsPermutationSaid : Prop := fnExactIsPermutationRow.holds Try.pinned (OpenSpec.ofChange fnExactIsPermutationSpec)

/-- ITS FALSE NEIGHBOUR: 'it returns false'. Refute it at one input. -/
def fnExactIsPermutationWrong : ChangeSpec := { name := "fnExactIsPermutation", fn := fun _ => fun
  | [d] => { results := [.lit (.bool false)], args := [d] }
  | _ => none }
def FnExactIsPermutationWrongFalsely : Prop := fnExactIsPermutationRow.holds Try.pinned (OpenSpec.ofChange fnExactIsPermutationWrong)

/-- 'laws.FnExactIsFreeInvolution': WHATEVER THE INPUT: true; the input reads as it did. -/
def fnExactIsFreeInvolutionSpec : ChangeSpec := { name := "fnExactIsFreeInvolution", fn := fun _ => fun
  | [d] => { results := [.lit (.bool true)], args := [d] }
  | _ => none }
def fnExactIsFreeInvolutionRow : OpenClaim := { program := "ytelolelhkfdkhaa", sum := "d2fe7baa762903816f975722051711fec4d5e1c6d103a009651101176e96e58d", func := "loop.example/g01108/laws.FnExactIsFreeInvolution", spec := "fnExactIsFreeInvolution", apart := false }
def FnExactIsFreeInvolutionSaid : Prop := fnExactIsFreeInvolutionRow.holds Try.pinned (OpenSpec.ofChange fnExactIsFreeInvolutionSpec)

/-- ITS FALSE NEIGHBOUR: 'it returns false'. Refute it at one input. -/
def fnExactIsFreeInvolutionWrong : ChangeSpec := { name := "fnExactIsFreeInvolution", fn := fun _ => fun
  | [d] => { results := [.lit (.bool false)], args := [d] }
  | _ => none }
def FnExactIsFreeInvolutionWrongFalsely : Prop := fnExactIsFreeInvolutionRow.holds Try.pinned (OpenSpec.ofChange fnExactIsFreeInvolutionWrong)

/-- 'laws.FnExactInversePermutation': WHATEVER THE INPUT: true; the input reads as it did. -/
def fnExactInversePermutationSpec : ChangeSpec := { name := "fnExactInversePermutation", fn := fun _ => fun
  | [d] => { results := [.lit (.bool true)], args := [d] }
  | _ => none }
def fnExactInversePermutationRow : OpenClaim := { program := "ytelolelhkfdkhaa", sum := "d2fe7baa762903816f975722051711fec4d5e1c6d103a009651101176e96e58d", func := "loop.example/g01108/laws.FnExactInversePermutation", spec := "fnExactInversePermutation", apart := false }
def FnExactInversePermutationSaid : Prop := fnExactInversePermutationRow.holds Try.pinned (OpenSpec.ofChange fnExactInversePermutationSpec)

/-- ITS FALSE NEIGHBOUR: 'it returns false'. Refute it at one input. -/
def fnExactInversePermutationWrong : ChangeSpec := { name := "fnExactInversePermutation", fn := fun _ => fun
  | [d] => { results := [.lit (.bool false)], args := [d] }
  | _ => none }
def FnExactInversePermutationWrongFalsely : Prop := fnExactInversePermutationRow.holds Try.pinned (OpenSpec.ofChange fnExactInversePermutationWrong)

/-- 'laws.FnExactThenPermutation': WHATEVER THE INPUT: true; the input reads as it did. -/
def fnExactThenPermutationSpec : ChangeSpec := { name := "fnExactThenPermutation", fn := fun _ => fun
  | [d1, d2] => { results := [.lit (.bool true)], args := [d1, d2] }
  | _ => none }
def fnExactThenPermutationRow : OpenClaim := { program := "ytelolelhkfdkhaa", sum := "d2fe7baa762903816f975722051711fec4d5e1c6d103a009651101176e96e58d", func := "loop.example/g01108/laws.FnExactThenPermutation", spec := "fnExactThenPermutation", apart := false }
def FnExactThenPermutationSaid : Prop := fnExactThenPermutationRow.holds Try.pinned (OpenSpec.ofChange fnExactThenPermutationSpec)

/-- ITS FALSE NEIGHBOUR: 'it returns false'. Refute it at one input. -/
def fnExactThenPermutationWrong : ChangeSpec := { name := "fnExactThenPermutation", fn := fun _ => fun
  | [d1, d2] => { results := [.lit (.bool false)], args := [d1, d2] }
  | _ => none }
def FnExactThenPermutationWrongFalsely : Prop := fnExactThenPermutationRow.holds Try.pinned (OpenSpec.ofChange fnExactThenPermutationWrong)

/-- 'laws.FnExactConjugatePermutation': WHATEVER THE INPUT: true; the input reads as it did. -/
def fnExactConjugatePermutationSpec : ChangeSpec := { name := "fnExactConjugatePermutation", fn := fun _ => fun
  | [d1, d2] => { results := [.lit (.bool true)], args := [d1, d2] }
  | _ => none }
def fnExactConjugatePermutationRow : OpenClaim := { program := "ytelolelhkfdkhaa", sum := "d2fe7baa762903816f975722051711fec4d5e1c6d103a009651101176e96e58d", func := "loop.example/g01108/laws.FnExactConjugatePermutation", spec := "fnExactConjugatePermutation", apart := false }
def FnExactConjugatePermutationSaid : Prop := fnExactConjugatePermutationRow.holds Try.pinned (OpenSpec.ofChange fnExactConjugatePermutationSpec)

/-- ITS FALSE NEIGHBOUR: 'it returns false'. Refute it at one input. -/
def fnExactConjugatePermutationWrong : ChangeSpec := { name := "fnExactConjugatePermutation", fn := fun _ => fun
  | [d1, d2] => { results := [.lit (.bool false)], args := [d1, d2] }
  | _ => none }
def FnExactConjugatePermutationWrongFalsely : Prop := fnExactConjugatePermutationRow.holds Try.pinned (OpenSpec.ofChange fnExactConjugatePermutationWrong)

/- THE SECOND FORM. 'bulk': how many values and letters a reading holds, each counted each time it is reached (what is shared counts as often as it is met; a slice's spare places count too). A statement '..UptoSaid' is the law's where the arguments, and the package variables that the reading takes, are together of bulk at most 1048576: NARROWER than '..Said'. Prove '..Said' where nothing that the law and all that it calls make is longer than what came in: it says more and counts as full. Else prove '..UptoSaid'. A law counts once. -/
mutual
def uptoBulk {H : Type} : DataW H → Nat
  | .lit (.string bytes) => bytes.length + 1
  | .lit _ => 1
  | .nil => 1
  | .ptr d => uptoBulk d + 1
  | .slice elems spare => uptoBulkAll elems + uptoBulkAll spare + 1
  | .agg parts => uptoBulkAll parts + 1
  | .iface _ d => uptoBulk d + 1
  | .map entries => uptoBulkEntries entries + 1
  | .held _ => 1
def uptoBulkAll {H : Type} : List (DataW H) → Nat
  | [] => 0
  | d :: r => uptoBulk d + uptoBulkAll r
def uptoBulkEntries {H : Type} : List (Lit × DataW H) → Nat
  | [] => 0
  | x :: r => uptoBulkEntry x + uptoBulkEntries r
def uptoBulkEntry {H : Type} : Lit × DataW H → Nat
  | (.string bytes, d) => bytes.length + uptoBulk d + 1
  | (_, d) => uptoBulk d + 1
 end
def uptoSmall : (H : Type) → List (DataW H) → Bool := fun _ ds => decide (uptoBulkAll ds ≤ 1048576)
def OpenSpec.upto (s : _root_.Go.ChangeSpec) : _root_.Go.OpenSpec := { _root_.Go.OpenSpec.ofChange s with cond := some uptoSmall }

/-- 'laws.FnExactConstants', WHERE WHAT IT READS IS OF BULK AT MOST 1048576: true; the input reads as it did. -/
def fnExactConstantsUptoRow : OpenClaim := { program := "ytelolelhkfdkhaa", sum := "d2fe7baa762903816f975722051711fec4d5e1c6d103a009651101176e96e58d", func := "loop.example/g01108/laws.FnExactConstants", spec := "fnExactConstants", apart := false, narrowed := true }
def FnExactConstantsUptoSaid : Prop := fnExactConstantsUptoRow.holds Try.pinned (OpenSpec.upto fnExactConstantsSpec)

/-- 'laws.FnExactIsPermutation', WHERE WHAT IT READS IS OF BULK AT MOST 1048576: true; the input reads as it did. -/
def fnExactIsPermutationUptoRow : OpenClaim := { program := "ytelolelhkfdkhaa", sum := "d2fe7baa762903816f975722051711fec4d5e1c6d103a009651101176e96e58d", func := "loop.example/g01108/laws.FnExactIsPermutation", spec := "fnExactIsPermutation", apart := false, narrowed := true }
def FnExactIsPermutationUptoSaid : Prop := fnExactIsPermutationUptoRow.holds Try.pinned (OpenSpec.upto fnExactIsPermutationSpec)

/-- 'laws.FnExactIsFreeInvolution', WHERE WHAT IT READS IS OF BULK AT MOST 1048576: true; the input reads as it did. -/
def fnExactIsFreeInvolutionUptoRow : OpenClaim := { program := "ytelolelhkfdkhaa", sum := "d2fe7baa762903816f975722051711fec4d5e1c6d103a009651101176e96e58d", func := "loop.example/g01108/laws.FnExactIsFreeInvolution", spec := "fnExactIsFreeInvolution", apart := false, narrowed := true }
def FnExactIsFreeInvolutionUptoSaid : Prop := fnExactIsFreeInvolutionUptoRow.holds Try.pinned (OpenSpec.upto fnExactIsFreeInvolutionSpec)

/-- 'laws.FnExactInversePermutation', WHERE WHAT IT READS IS OF BULK AT MOST 1048576: true; the input reads as it did. -/
def fnExactInversePermutationUptoRow : OpenClaim := { program := "ytelolelhkfdkhaa", sum := "d2fe7baa762903816f975722051711fec4d5e1c6d103a009651101176e96e58d", func := "loop.example/g01108/laws.FnExactInversePermutation", spec := "fnExactInversePermutation", apart := false, narrowed := true }
def FnExactInversePermutationUptoSaid : Prop := fnExactInversePermutationUptoRow.holds Try.pinned (OpenSpec.upto fnExactInversePermutationSpec)

/-- 'laws.FnExactThenPermutation', WHERE WHAT IT READS IS OF BULK AT MOST 1048576: true; the input reads as it did. -/
def fnExactThenPermutationUptoRow : OpenClaim := { program := "ytelolelhkfdkhaa", sum := "d2fe7baa762903816f975722051711fec4d5e1c6d103a009651101176e96e58d", func := "loop.example/g01108/laws.FnExactThenPermutation", spec := "fnExactThenPermutation", apart := false, narrowed := true }
def FnExactThenPermutationUptoSaid : Prop := fnExactThenPermutationUptoRow.holds Try.pinned (OpenSpec.upto fnExactThenPermutationSpec)

/-- 'laws.FnExactConjugatePermutation', WHERE WHAT IT READS IS OF BULK AT MOST 1048576: true; the input reads as it did. -/
def fnExactConjugatePermutationUptoRow : OpenClaim := { program := "ytelolelhkfdkhaa", sum := "d2fe7baa762903816f975722051711fec4d5e1c6d103a009651101176e96e58d", func := "loop.example/g01108/laws.FnExactConjugatePermutation", spec := "fnExactConjugatePermutation", apart := false, narrowed := true }
def FnExactConjugatePermutationUptoSaid : Prop := fnExactConjugatePermutationUptoRow.holds Try.pinned (OpenSpec.upto fnExactConjugatePermutationSpec)

end Rows
end Go.Proofs.Ytelolelhkfdkhaa
