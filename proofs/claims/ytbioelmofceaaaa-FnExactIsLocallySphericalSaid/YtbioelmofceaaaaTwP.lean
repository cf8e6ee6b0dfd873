/- Plain: flags with the same faces. No program in sight. No condition. -/
import Derived.Test.YtbioelmofceaaaaDfP
import Derived.Test.YtbioelmofceaaaaCntP
import Derived.Test.YtbioelmofceaaaaFace
namespace Go.Proofs.Ytbioelmofceaaaa
set_option linter.unusedVariables false
set_option maxRecDepth 100000
noncomputable def offs (xss : List (List Int)) (N : Nat) : Nat → Nat
  | 0 => 0
  | i + 1 => offs xss N i + cntR (xss.eraseIdx i) N
noncomputable def labI (xss : List (List Int)) (i f : Nat) : Int := labOf (xss.eraseIdx i) f
/-- the elements of the face poset that the flag f has, of the ranks below k -/
noncomputable def allF (xss : List (List Int)) (N k f : Nat) : List Int := (List.range k).map fun i => ((offs xss N i : Nat) : Int) + labI xss i f
theorem allF_succ (xss : List (List Int)) (N k f : Nat) : allF xss N (k + 1) f = allF xss N k f ++ [((offs xss N k : Nat) : Int) + labI xss k f] := by unfold allF; rw [List.range_succ, List.map_append]; rfl
theorem allF_length (xss : List (List Int)) (N k f : Nat) : (allF xss N k f).length = k := by simp [allF]
theorem allF_get {xss : List (List Int)} {N k f i : Nat} (h : i < k) : (allF xss N k f)[i]? = some (((offs xss N i : Nat) : Int) + labI xss i f) := by simp [allF, h]
theorem offs_le (xss : List (List Int)) (N : Nat) : ∀ k, offs xss N k ≤ k * N := by
  intro k
  induction k with
  | zero => simp [offs]
  | succ k ih =>
    have := cntR_le (xss.eraseIdx k) N
    simp only [offs, Nat.succ_mul]
    omega
noncomputable def midF (xss : List (List Int)) (N i f j : Nat) : List Int := if j < f then allF xss N (i + 1) j else allF xss N i j
theorem midF_set {xss : List (List Int)} {N i f : Nat} (hf : f < N) : ((List.range N).map (midF xss N i f)).set f (allF xss N (i + 1) f) = (List.range N).map (midF xss N i (f + 1)) := by
  apply List.ext_getElem?
  intro j
  rw [List.getElem?_set]
  by_cases e : f = j
  · subst e
    rw [if_pos rfl, if_pos (by simpa using hf)]
    simp [hf, midF]
  · rw [if_neg e]
    by_cases hj : j < N
    · simp only [List.getElem?_map, List.getElem?_range hj, Option.map_some]
      congr 1
      unfold midF
      by_cases h : j < f
      · rw [if_pos h, if_pos (by omega)]
      · rw [if_neg h, if_neg (by omega)]
    · rw [List.getElem?_eq_none (by simp; omega), List.getElem?_eq_none (by simp; omega)]
noncomputable def sameF (xss : List (List Int)) (k f g : Nat) : Bool := (List.range k).all fun i => decide (labI xss i f = labI xss i g)
theorem sameF_iff {xss : List (List Int)} {k f g : Nat} : sameF xss k f g = true ↔ ∀ i, i < k → labI xss i f = labI xss i g := by
  unfold sameF
  rw [List.all_eq_true]
  constructor
  · intro h i hi; exact of_decide_eq_true (h i (List.mem_range.2 hi))
  · intro h i hi; exact decide_eq_true (h i (List.mem_range.1 hi))
theorem sameF_succ (xss : List (List Int)) (k f g : Nat) : sameF xss (k + 1) f g = (sameF xss k f g && decide (labI xss k f = labI xss k g)) := by
  unfold sameF
  rw [List.range_succ, List.all_append]
  simp
theorem allF_eq (xss : List (List Int)) (N k f g : Nat) : decide (allF xss N k f = allF xss N k g) = sameF xss k f g := by
  cases h : sameF xss k f g with
  | true =>
    apply decide_eq_true
    unfold allF
    refine List.map_congr_left (fun i hi => ?_)
    rw [sameF_iff.1 h i (List.mem_range.1 hi)]
  | false =>
    apply decide_eq_false
    intro he
    have : sameF xss k f g = true := sameF_iff.2 (fun i hi => by
      have h1 := allF_get (xss := xss) (N := N) (f := f) hi
      rw [he, allF_get hi] at h1
      have := Option.some.inj h1
      omega)
    rw [h] at this
    cases this
noncomputable def twG (xss : List (List Int)) (k : Nat) (f g : Int) : Option (List Int) := if f < g ∧ sameF xss k f.toNat g.toNat = true then some [f, g] else none
noncomputable def twR (xss : List (List Int)) (k N : Nat) (f : Int) : Option (List Int) := (rngI N).findSome? (twG xss k f)
noncomputable def tw (xss : List (List Int)) (k N : Nat) : Option (List Int) := (rngI N).findSome? (twR xss k N)
noncomputable def twF (xss : List (List Int)) : List Int × Int := if isManB xss = true then ((tw xss xss.length (flg xss)).getD [], if (tw xss xss.length (flg xss)).isNone = true then 4 else 0) else ([], 1)
theorem twG_start (xss : List (List Int)) (k : Nat) (f : Nat) : (rngI (f + 1)).findSome? (twG xss k (f : Int)) = none := by
  rw [List.findSome?_eq_none_iff]
  intro x hx
  have := rngI_mem.1 hx
  unfold twG
  rw [if_neg]
  rintro ⟨h, _⟩
  omega
theorem twG_step {xss : List (List Int)} {k f g : Nat} (h : (rngI g).findSome? (twG xss k (f : Int)) = none) (hfg : f < g) (hs : sameF xss k f g = false) : (rngI (g + 1)).findSome? (twG xss k (f : Int)) = none := by
  rw [rngI_succ, fs_snoc h]
  unfold twG
  rw [if_neg]
  rintro ⟨_, h2⟩
  rw [Int.toNat_natCast, Int.toNat_natCast, hs] at h2
  cases h2
theorem tw_hit {xss : List (List Int)} {k N f g : Nat} (h : (rngI f).findSome? (twR xss k N) = none) (h2 : (rngI g).findSome? (twG xss k (f : Int)) = none) (hfg : f < g) (hg : g < N) (hs : sameF xss k f g = true) : tw xss k N = some [(f : Int), (g : Int)] := by
  unfold tw
  refine rngI_hit h (by omega) ?_
  unfold twR
  refine rngI_hit h2 hg ?_
  unfold twG
  rw [if_pos ⟨by omega, by rw [Int.toNat_natCast, Int.toNat_natCast]; exact hs⟩]
theorem tw_next {xss : List (List Int)} {k N f : Nat} (h : (rngI f).findSome? (twR xss k N) = none) (h2 : (rngI N).findSome? (twG xss k (f : Int)) = none) : (rngI (f + 1)).findSome? (twR xss k N) = none := by
  rw [rngI_succ, fs_snoc h]
  exact h2
end Go.Proofs.Ytbioelmofceaaaa
