/- Walks: OrbitLabels and OrbitOf, the program's and the reference's. No condition but the sizes of memory. -/
import Derived.Test.YtebdfhkimnlglaaDoorOrbN
import Derived.Test.YtebdfhkimnlglaaDoorOrdP
import Derived.Test.YtebdfhkimnlglaaDoorOrd
import Derived.Test.YtebdfhkimnlglaaDoorSys
import Derived.Test.YtebdfhkimnlglaaDoorWord
namespace Go.Proofs.YtebdfhkimnlglaaDoor
open Go.RowKit
set_option linter.unusedVariables false
set_option maxRecDepth 100000
/-- the first k places, those with x -/
def plc (xs : List Int) (x : Int) (k : Nat) : List Int := ((List.range k).filter fun j => decide (x = xs.getD j 0)).map Int.ofNat
theorem plc_succ (xs : List Int) (x : Int) (k : Nat) : plc xs x (k + 1) = plc xs x k ++ (if x = xs.getD k 0 then [(k : Int)] else []) := by
  unfold plc
  rw [List.range_succ, List.filter_append, List.map_append]
  congr 1
  split <;> simp_all
theorem plc_le (xs : List Int) (x : Int) (k : Nat) : (plc xs x k).length ≤ k := by
  unfold plc
  have := List.length_filter_le (fun j => decide (x = xs.getD j 0)) (List.range k)
  simpa using this
theorem plc_sorted (xs : List Int) (x : Int) (k : Nat) : Sorted (plc xs x k) := by
  unfold Sorted plc
  rw [List.pairwise_map]
  refine (List.Pairwise.filter _ List.pairwise_lt_range).imp ?_
  intro a b h
  have : a < b := h
  show (a : Int) ≤ b
  omega
theorem plc_nodup (xs : List Int) (x : Int) (k : Nat) : (plc xs x k).Nodup := by
  unfold plc
  rw [List.nodup_iff_pairwise_ne, List.pairwise_map]
  refine (List.Pairwise.filter _ List.pairwise_lt_range).imp ?_
  intro a b h
  have : a < b := h
  show (a : Int) ≠ b
  omega
theorem plc_mem {xs : List Int} {x : Int} {k : Nat} {z : Int} : z ∈ plc xs x k ↔ 0 ≤ z ∧ z < k ∧ x = xs.getD z.toNat 0 := by
  unfold plc
  simp only [List.mem_map, List.mem_filter, List.mem_range]
  constructor
  · rintro ⟨j, ⟨h1, h2⟩, rfl⟩
    have h2 := of_decide_eq_true h2
    refine ⟨by simp, by simpa using h1, ?_⟩
    simpa using h2
  · rintro ⟨h1, h2, h3⟩
    exact ⟨z.toNat, ⟨by omega, by simpa using h3⟩, by simp; omega⟩
theorem perm_of_mem {l₁ l₂ : List Int} (h1 : l₁.Nodup) (h2 : l₂.Nodup) (h : ∀ a, a ∈ l₁ ↔ a ∈ l₂) : l₁.Perm l₂ := by
  rw [List.perm_iff_count]
  intro a
  rw [h1.count, h2.count]
  simp only [h a]
theorem cntR_mono (list : List (List Int)) {a b : Nat} (h : a ≤ b) : cntR list a ≤ cntR list b := by
  induction b with
  | zero => have : a = 0 := by omega
            subst this; exact Nat.le_refl _
  | succ b ih =>
    by_cases e : a = b + 1
    · subst e; exact Nat.le_refl _
    · have := ih (by omega)
      rw [cntR_succ]; omega
theorem rootB_rootOf {list : List (List Int)} {n x : Nat} (hs : SysOf list n) (hx : x < n) : rootB list (rootOf list x) = true := by
  obtain ⟨h1, h2⟩ := rootOf_spec list x
  rw [root_iff]
  rintro ⟨j, hj, hr⟩
  exact h2 j hj (hr.trans h1)
theorem rootOf_le (list : List (List Int)) (x : Nat) : rootOf list x ≤ x := by
  obtain ⟨h1, h2⟩ := rootOf_spec list x
  by_cases h : rootOf list x ≤ x
  · exact h
  · exact absurd Rch.refl (h2 x (by omega))
theorem cntR_lt {list : List (List Int)} {a b : Nat} (ha : rootB list a = true) (h : a < b) : cntR list a < cntR list b := by
  have h1 := cntR_mono list (show a + 1 ≤ b by omega)
  rw [cntR_succ, if_pos ha] at h1
  omega
theorem labOf_eq_iff {list : List (List Int)} {n x y : Nat} (hs : SysOf list n) (hx : x < n) (hy : y < n) : labOf list x = labOf list y ↔ Rch list x y := by
  have hrx := (rootOf_spec list x).1
  have hry := (rootOf_spec list y).1
  have hlx := rootOf_le list x
  have hly := rootOf_le list y
  constructor
  · intro h
    unfold labOf at h
    have e : rootOf list x = rootOf list y := by
      rcases Nat.lt_trichotomy (rootOf list x) (rootOf list y) with h3 | h3 | h3
      · have := cntR_lt (rootB_rootOf hs hx) h3; omega
      · exact h3
      · have := cntR_lt (rootB_rootOf hs hy) h3; omega
    rw [e] at hrx
    exact (hrx.symm hs (by omega) (by omega)).trans hry
  · intro h
    unfold labOf
    rw [show rootOf list x = rootOf list y from (rootOf_eq (hrx.trans h) (fun j hj hr => (rootOf_spec list x).2 j hj (hr.trans (h.symm hs (by omega) (by omega))))).symm]
theorem places_eq {list : List (List Int)} {n p : Nat} (hs : SysOf list n) (hp : p < n) : plc (labL list n) (labOf list p) n = sortL (bfs list n p) := by
  have hm := bfs_met hs (show (0 : Int) ≤ p by omega) (show (p : Int) < n by omega)
  refine sortL_eq (perm_of_mem (plc_nodup _ _ _) hm.nd fun a => ?_) (plc_sorted _ _ _)
  rw [plc_mem, bfs_mem hs (by omega) (by omega)]
  constructor
  · rintro ⟨h1, h2, h3⟩
    rw [getD_some (labL_get (show a.toNat < n by omega))] at h3
    have := (labOf_eq_iff hs hp (by omega)).1 h3
    rwa [Int.toNat_of_nonneg h1] at this
  · intro h
    obtain ⟨h1, h2⟩ := h.rng hs (by omega) (by omega)
    refine ⟨h1, h2, ?_⟩
    rw [getD_some (labL_get (show a.toNat < n by omega))]
    exact (labOf_eq_iff hs hp (by omega)).2 (by rwa [Int.toNat_of_nonneg h1])
theorem sysOf {n : Nat} {xss : List (List Int)} (h : isSysB n xss = true) : SysOf xss n ∧ n ≤ 400 := by
  obtain ⟨h1, h2, h3, h4⟩ := isSysB_iff.1 h
  refine ⟨fun p hp => ?_, by omega⟩
  obtain ⟨g1, g2⟩ := h4 p hp
  have hl : p.length = n := by omega
  refine ⟨fun x hx => ?_, g1.nd, hl⟩
  have := g1.rng x hx
  rw [hl] at this
  exact this
noncomputable def orbLF (n : Int) (xss : List (List Int)) : List Int × Int := if isSysB n xss = true then (labL xss n.toNat, 0) else ([], 1)
def orbOF (n : Int) (xss : List (List Int)) (x : Int) : List Int × Int := if isSysB n xss = true then (if inR 0 (n - 1) x = true then (sortL (bfs xss n.toNat x), 0) else ([], 2)) else ([], 1)
end Go.Proofs.YtebdfhkimnlglaaDoor
