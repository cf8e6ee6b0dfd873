/- Plain: the number of orbits is one more than the greatest label. No program in sight. No condition. -/
import Derived.Test.YtbioelmofceaaaaManP
namespace Go.Proofs.Ytbioelmofceaaaa
set_option linter.unusedVariables false
set_option maxRecDepth 100000
open Classical
theorem list_rev {P : List Int → Prop} (h0 : P []) (hs : ∀ t x, P t → P (t ++ [x])) : ∀ l, P l := by
  have key : ∀ (n : Nat) (l : List Int), l.length = n → P l := by
    intro n
    induction n with
    | zero => intro l hl; rw [List.eq_nil_of_length_eq_zero hl]; exact h0
    | succ n ih =>
      intro l hl
      rcases List.eq_nil_or_concat l with rfl | ⟨t, x, rfl⟩
      · exact h0
      · rw [List.concat_eq_append] at hl ⊢
        exact hs t x (ih t (by simpa using hl))
  exact fun l => key l.length l rfl
/-- one more than the greatest of some numbers -/
def grt (l : List Int) : Int := l.foldl (fun m x => if m ≤ x then x + 1 else m) 0
theorem grt_snoc (l : List Int) (x : Int) : grt (l ++ [x]) = if grt l ≤ x then x + 1 else grt l := by unfold grt; rw [List.foldl_append]; rfl
theorem grt_nonneg (l : List Int) : (∀ x ∈ l, 0 ≤ x) → 0 ≤ grt l := by
  refine list_rev (P := fun l => (∀ x ∈ l, 0 ≤ x) → 0 ≤ grt l) (fun _ => Int.le_refl _) (fun t x ih h => ?_) l
  have := ih (fun y hy => h y (by simp [hy]))
  have := h x (by simp)
  rw [grt_snoc]
  split <;> omega
theorem grt_lt (l : List Int) : ∀ x ∈ l, x < grt l := by
  refine list_rev (P := fun l => ∀ x ∈ l, x < grt l) (fun x hx => by simp at hx) (fun t y ih x hx => ?_) l
  rw [grt_snoc]
  rcases List.mem_append.1 hx with hx | hx
  · have := ih x hx
    split <;> omega
  · simp at hx
    subst hx
    split <;> omega
theorem grt_mem (l : List Int) : grt l = 0 ∨ grt l - 1 ∈ l := by
  refine list_rev (P := fun l => grt l = 0 ∨ grt l - 1 ∈ l) (.inl rfl) (fun t y ih => ?_) l
  rw [grt_snoc]
  split
  · right; simp
  · rcases ih with ih | ih
    · exact .inl ih
    · right; simp [ih]
theorem lab_lt {list : List (List Int)} {n x : Nat} (hs : SysOf list n) (hx : x < n) : labOf list x < cntR list n := by
  have hr := rootB_rootOf hs hx
  have hle := rootOf_le list x
  have h1 := cntR_mono list (show rootOf list x + 1 ≤ n by omega)
  rw [cntR_succ, if_pos hr] at h1
  unfold labOf
  omega
theorem lab_top {list : List (List Int)} : ∀ n : Nat, cntR list n = 0 ∨ ∃ x : Nat, x < n ∧ labOf list x = (cntR list n : Int) - 1 := by
  intro n
  induction n with
  | zero => left; simp [cntR]
  | succ n ih =>
    rw [cntR_succ]
    by_cases hr : rootB list n = true
    · rw [if_pos hr]
      right
      refine ⟨n, by omega, ?_⟩
      have hroot : rootOf list n = n := rootOf_eq Rch.refl (fun j hj hh => root_iff.1 hr ⟨j, hj, hh⟩)
      unfold labOf
      rw [hroot]
      omega
    · rw [if_neg hr, Nat.add_zero]
      rcases ih with ih | ⟨x, h1, h2⟩
      · exact .inl ih
      · exact .inr ⟨x, by omega, h2⟩
/-- the greatest label and one -/
theorem grt_lab {list : List (List Int)} {n : Nat} (hs : SysOf list n) : grt (labL list n) = (cntR list n : Int) := by
  have hmem : ∀ v ∈ labL list n, ∃ x : Nat, x < n ∧ v = labOf list x := by
    intro v hv
    obtain ⟨x, hx, rfl⟩ := List.mem_map.1 hv
    exact ⟨x, List.mem_range.1 hx, rfl⟩
  have h0 := grt_nonneg (labL list n) (fun v hv => by obtain ⟨x, _, rfl⟩ := hmem v hv; exact labOf_nonneg list x)
  have hle : grt (labL list n) ≤ (cntR list n : Int) := by
    rcases grt_mem (labL list n) with e | e
    · rw [e]; omega
    · obtain ⟨x, hx, e⟩ := hmem _ e
      have := lab_lt hs hx
      omega
  have hge : (cntR list n : Int) ≤ grt (labL list n) := by
    rcases lab_top (list := list) n with e | ⟨x, hx, e⟩
    · rw [e]; exact h0
    · have := grt_lt (labL list n) (labOf list x) (List.mem_map.2 ⟨x, List.mem_range.2 hx, rfl⟩)
      omega
  omega
/-- the numbers of faces -/
noncomputable def cntsL (xss : List (List Int)) (n : Nat) : List Int := (List.range xss.length).map fun i => (cntR (xss.eraseIdx i) n : Int)
theorem cntsL_length (xss : List (List Int)) (n : Nat) : (cntsL xss n).length = xss.length := by simp [cntsL]
theorem cntsL_get {xss : List (List Int)} {n k : Nat} (h : k < xss.length) : (cntsL xss n)[k]? = some (cntR (xss.eraseIdx k) n : Int) := by simp [cntsL, h]
/-- the alternating sum -/
def eulGo (l : List Int) (k : Nat) : Int := (List.range k).foldl (fun (s : Int) (i : Nat) => if i % 2 = 0 then s + l.getD i 0 else s - l.getD i 0) (0 : Int)
theorem eulGo_succ (l : List Int) (k : Nat) : eulGo l (k + 1) = if k % 2 = 0 then eulGo l k + l.getD k 0 else eulGo l k - l.getD k 0 := by unfold eulGo; rw [List.range_succ, List.foldl_append]; rfl
theorem eulGo_bound {l : List Int} {B : Int} (hB : 0 ≤ B) (h : ∀ x ∈ l, -B ≤ x ∧ x ≤ B) : ∀ k : Nat, -(B * k) ≤ eulGo l k ∧ eulGo l k ≤ B * k := by
  intro k
  induction k with
  | zero => simp [eulGo]
  | succ k ih =>
    have hx : -B ≤ l.getD k 0 ∧ l.getD k 0 ≤ B := by
      by_cases hk : k < l.length
      · exact h _ (mem_of_get? (get?_getD 0 hk))
      · rw [show l.getD k 0 = 0 by simp [List.getD, show l.length ≤ k by omega]]; omega
    rw [eulGo_succ]
    have e : B * ((k + 1 : Nat) : Int) = B * k + B := by rw [Int.natCast_add, Int.mul_add]; simp
    rw [e]
    split <;> omega
theorem cntR_le_n {list : List (List Int)} (n : Nat) : cntR list n ≤ n := by
  unfold cntR
  have := List.length_filter_le (rootB list) (List.range n)
  simpa using this
end Go.Proofs.Ytbioelmofceaaaa
