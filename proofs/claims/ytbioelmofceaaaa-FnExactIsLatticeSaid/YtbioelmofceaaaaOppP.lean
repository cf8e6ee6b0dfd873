/- Plain: the opposite poset. No program in sight. No condition. -/
import Derived.Test.YtbioelmofceaaaaPosP
namespace Go.Proofs.Ytbioelmofceaaaa
set_option linter.unusedVariables false
set_option maxRecDepth 100000
theorem bel_step {ps : List Int} {e : Nat} {B : List Int} (h : ∀ (k : Nat) (f : Int), B[k]? = some f → BelK ps e B k f) : ∀ d i, i + d + 1 < B.length → B.getD i 0 < B.getD (i + d + 1) 0 := by
  intro d
  induction d with
  | zero =>
    intro i hi
    have := (h (i + 1) _ (get?_getD 0 hi)).2.2.2 (by omega)
    rw [Nat.add_sub_cancel] at this
    exact this
  | succ d ih =>
    intro i hi
    have h1 := ih i (by omega)
    have h2 := (h (i + d + 1 + 1) _ (get?_getD 0 (by omega))).2.2.2 (by omega)
    rw [Nat.add_sub_cancel] at h2
    have : i + (d + 1) + 1 = i + d + 1 + 1 := by omega
    rw [this]
    omega
theorem bel_nodup {ps : List Int} {e : Nat} {B : List Int} (h : ∀ (k : Nat) (f : Int), B[k]? = some f → BelK ps e B k f) : ∀ (k : Nat) (f : Int), B[k]? = some f → f ∉ B.take k := by
  intro k f hf hm
  obtain ⟨i, hi⟩ := List.mem_iff_getElem?.1 hm
  have hk := (List.getElem?_eq_some_iff.1 hf).1
  rw [List.getElem?_take] at hi
  by_cases hik : i < k
  · rw [if_pos hik] at hi
    have := bel_step h (k - i - 1) i (by omega)
    rw [show i + (k - i - 1) + 1 = k by omega, getD_some hi, getD_some hf] at this
    omega
  · rw [if_neg hik] at hi; cases hi
def oppR (r : Int) (ps : List Int) : List Int := (List.range ps.length).map fun j => r - 1 - ps.getD (ps.length - 1 - j) 0
/-- the row of j when the rows 0 to t - 1 (of the opposite poset) have been met -/
def oppRow (xss : List (List Int)) (t j : Nat) : List Int := ((List.range t).filter fun i => decide (((xss.length - 1 - j : Nat) : Int) ∈ xss.getD (xss.length - 1 - i) [])).map Int.ofNat
def oppB (xss : List (List Int)) : List (List Int) := (List.range xss.length).map fun j => oppRow xss j j
theorem oppRow_succ (xss : List (List Int)) (t j : Nat) : oppRow xss (t + 1) j = oppRow xss t j ++ (if ((xss.length - 1 - j : Nat) : Int) ∈ xss.getD (xss.length - 1 - t) [] then [(t : Int)] else []) := by
  unfold oppRow
  rw [List.range_succ, List.filter_append, List.map_append]
  congr 1
  by_cases h : ((xss.length - 1 - j : Nat) : Int) ∈ xss.getD (xss.length - 1 - t) []
  · rw [if_pos h, List.filter_cons, if_pos (by exact decide_eq_true h)]; rfl
  · rw [if_neg h, List.filter_cons, if_neg (by simpa using h)]; rfl
/-- the rows hold smaller elements alone: the rows from j on add nothing to the row of j -/
theorem oppRow_stay {xss : List (List Int)} (hs : ∀ (e : Nat) (B : List Int), xss[e]? = some B → ∀ f ∈ B, f < e) {j : Nat} (hj : j < xss.length) : ∀ d, j + d ≤ xss.length → oppRow xss (j + d) j = oppRow xss j j := by
  intro d
  induction d with
  | zero => intro _; rfl
  | succ d ih =>
    intro hd
    rw [show j + (d + 1) = j + d + 1 by omega, oppRow_succ, if_neg, List.append_nil, ih (by omega)]
    intro hm
    have hlt : xss.length - 1 - (j + d) < xss.length := by omega
    have := hs _ _ (List.getElem?_eq_getElem hlt) ((xss.length - 1 - j : Nat) : Int) (by rw [List.getD_eq_getElem?_getD, List.getElem?_eq_getElem hlt] at hm; exact hm)
    omega
theorem oppRow_all {xss : List (List Int)} (hs : ∀ (e : Nat) (B : List Int), xss[e]? = some B → ∀ f ∈ B, f < e) {j : Nat} (hj : j < xss.length) : oppRow xss xss.length j = oppRow xss j j := by
  have := oppRow_stay hs hj (xss.length - j) (by omega)
  rwa [show j + (xss.length - j) = xss.length by omega] at this
theorem oppR_length (r : Int) (ps : List Int) : (oppR r ps).length = ps.length := by simp [oppR]
theorem oppB_length (xss : List (List Int)) : (oppB xss).length = xss.length := by simp [oppB]
theorem oppB_get {xss : List (List Int)} {j : Nat} (hj : j < xss.length) : (oppB xss)[j]? = some (oppRow xss j j) := by simp [oppB, hj]
theorem oppR_get {r : Int} {ps : List Int} {j : Nat} (hj : j < ps.length) : (oppR r ps)[j]? = some (r - 1 - ps.getD (ps.length - 1 - j) 0) := by simp [oppR, hj]
theorem oppRow_le (xss : List (List Int)) (t j : Nat) : (oppRow xss t j).length ≤ t := by
  unfold oppRow
  have := List.length_filter_le (fun i => decide (((xss.length - 1 - j : Nat) : Int) ∈ xss.getD (xss.length - 1 - i) [])) (List.range t)
  simpa using this
noncomputable def oppF (r : Int) (ps : List Int) (xss : List (List Int)) : Int × List Int × List (List Int) × Int :=
  if isPosB r ps xss = true then (r, oppR r ps, oppB xss, 0) else (0, [], [], 1)
end Go.Proofs.Ytbioelmofceaaaa
