/- Walks: the type of a maniplex: the program's helpers. Up to 400 flags. -/
import Derived.Test.YtbioelmofceaaaaTypP
import Derived.Test.YtbioelmofceaaaaSrt
import Derived.Test.YtbioelmofceaaaaCpt
import Derived.Test.YtbioelmofceaaaaMan
import Derived.Test.YtbioelmofceaaaaRow
namespace Go.Proofs.Ytbioelmofceaaaa
open Go.RowKit
set_option linter.unusedVariables false
set_option maxRecDepth 100000
theorem setL_sortL (l : List Int) : setL (sortL l) = setL l := setL_congr fun x => (sortL_perm l).mem_iff
/-- the first k numbers halved -/
def halfTo (zs : List Int) (k : Nat) : List Int := halves (zs.take k) ++ zs.drop k
theorem halfTo_length (zs : List Int) (k : Nat) : (halfTo zs k).length = zs.length := by unfold halfTo halves; simp; omega
theorem halfTo_get {zs : List Int} {k : Nat} {v : Int} (h : zs[k]? = some v) : (halfTo zs k)[k]? = some v := by
  have hk := (List.getElem?_eq_some_iff.1 h).1
  unfold halfTo
  have e : (halves (zs.take k)).length = k := by unfold halves; simp; omega
  rw [List.getElem?_append_right (by omega), e, Nat.sub_self, List.getElem?_drop, Nat.add_zero, h]
theorem halfTo_set {zs : List Int} {k : Nat} {v : Int} (h : zs[k]? = some v) : (halfTo zs k).set k (Int.tdiv v 2) = halfTo zs (k + 1) := by
  have hk := (List.getElem?_eq_some_iff.1 h).1
  have e : (halves (zs.take k)).length = k := by unfold halves; simp; omega
  unfold halfTo
  rw [List.set_append_right _ _ (by omega), e, Nat.sub_self, take_succ_of h]
  have hd : zs.drop k = v :: zs.drop (k + 1) := by
    rw [List.drop_eq_getElem_cons hk]
    congr 1
    exact (List.getElem?_eq_some_iff.1 h).2
  rw [hd]
  unfold halves
  simp
theorem halfTo_all {zs : List Int} {k : Nat} (h : zs.length ≤ k) : halfTo zs k = halves zs := by unfold halfTo; rw [List.take_of_length_le h, List.drop_eq_nil_of_le h, List.append_nil]
theorem halfTo_zero (zs : List Int) : halfTo zs 0 = zs := by simp [halfTo, halves]
