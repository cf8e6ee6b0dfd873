/- Plain: the lexicographic order, and the least form. No program in sight. No condition. -/
import Derived.Test.YtebdfhkimnlglaaDoorFormP
namespace Go.Proofs.YtebdfhkimnlglaaDoor
set_option linter.unusedVariables false
set_option maxRecDepth 100000
/-- -1, 0 or 1 -/
def cmpL : List Int → List Int → Int
  | [], [] => 0
  | [], _ :: _ => -1
  | _ :: _, [] => 1
  | x :: s, y :: t => if x < y then -1 else if y < x then 1 else cmpL s t
theorem cmpL_refl (a : List Int) : cmpL a a = 0 := by
  induction a with
  | nil => rfl
  | cons x s ih => simp [cmpL, ih]
theorem cmpL_zero : ∀ a b : List Int, cmpL a b = 0 ↔ a = b := by
  intro a
  induction a with
  | nil => intro b; cases b <;> simp [cmpL]
  | cons x s ih =>
    intro b
    cases b with
    | nil => simp [cmpL]
    | cons y t =>
      unfold cmpL
      split
      · simp; omega
      · split
        · simp; omega
        · rw [ih t]; simp; omega
theorem cmpL_vals : ∀ a b : List Int, cmpL a b = -1 ∨ cmpL a b = 0 ∨ cmpL a b = 1 := by
  intro a
  induction a with
  | nil => intro b; cases b <;> simp [cmpL]
  | cons x s ih =>
    intro b
    cases b with
    | nil => simp [cmpL]
    | cons y t =>
      unfold cmpL
      split
      · exact .inl rfl
      · split
        · exact .inr (.inr rfl)
        · exact ih t
def cmp2 : List (List Int) → List (List Int) → Int
  | [], [] => 0
  | [], _ :: _ => -1
  | _ :: _, [] => 1
  | x :: s, y :: t => if cmpL x y = 0 then cmp2 s t else cmpL x y
theorem cmp2_refl (a : List (List Int)) : cmp2 a a = 0 := by
  induction a with
  | nil => rfl
  | cons x s ih => simp [cmp2, cmpL_refl, ih]
theorem drop_get {α : Type} {xs : List α} {k : Nat} {x : α} (h : xs[k]? = some x) : xs.drop k = x :: xs.drop (k + 1) := by
  have hk := (List.getElem?_eq_some_iff.1 h).1
  rw [List.drop_eq_getElem_cons hk]
  congr 1
  exact (List.getElem?_eq_some_iff.1 h).2
theorem cmpL_step {a b : List Int} {k : Nat} {x y : Int} (hx : a[k]? = some x) (hy : b[k]? = some y) : cmpL (a.drop k) (b.drop k) = if x < y then -1 else if y < x then 1 else cmpL (a.drop (k + 1)) (b.drop (k + 1)) := by
  rw [drop_get hx, drop_get hy]; rfl
theorem cmpL_short {a b : List Int} {k : Nat} {x : Int} (hx : a[k]? = some x) (hb : b.length ≤ k) : cmpL (a.drop k) (b.drop k) = 1 := by
  rw [drop_get hx, List.drop_of_length_le hb]; rfl
theorem cmpL_long {a b : List Int} {k : Nat} (ha : a.length ≤ k) (hb : k < b.length) : cmpL (a.drop k) (b.drop k) = -1 := by
  rw [List.drop_of_length_le ha, drop_get (List.getElem?_eq_getElem hb)]; rfl
theorem cmpL_end {a b : List Int} {k : Nat} (ha : a.length ≤ k) (hb : b.length ≤ k) : cmpL (a.drop k) (b.drop k) = 0 := by
  rw [List.drop_of_length_le ha, List.drop_of_length_le hb]; rfl
theorem cmp2_step {a b : List (List Int)} {k : Nat} {x y : List Int} (hx : a[k]? = some x) (hy : b[k]? = some y) : cmp2 (a.drop k) (b.drop k) = if cmpL x y = 0 then cmp2 (a.drop (k + 1)) (b.drop (k + 1)) else cmpL x y := by
  rw [drop_get hx, drop_get hy]; rfl
theorem cmp2_short {a b : List (List Int)} {k : Nat} {x : List Int} (hx : a[k]? = some x) (hb : b.length ≤ k) : cmp2 (a.drop k) (b.drop k) = 1 := by
  rw [drop_get hx, List.drop_of_length_le hb]; rfl
theorem cmp2_long {a b : List (List Int)} {k : Nat} (ha : a.length ≤ k) (hb : k < b.length) : cmp2 (a.drop k) (b.drop k) = -1 := by
  rw [List.drop_of_length_le ha, drop_get (List.getElem?_eq_getElem hb)]; rfl
theorem cmp2_end {a b : List (List Int)} {k : Nat} (ha : a.length ≤ k) (hb : b.length ≤ k) : cmp2 (a.drop k) (b.drop k) = 0 := by
  rw [List.drop_of_length_le ha, List.drop_of_length_le hb]; rfl
/-- the least of the first k forms -/
def minF (form best : List (List Int)) : List (List Int) := if cmp2 form best < 0 then form else best
def leastGo (xss : List (List Int)) (n k : Nat) : List (List Int) := (List.range k).foldl (fun (best : List (List Int)) (f : Nat) => minF (formL xss n (f : Int)) best) (formL xss n 0)
theorem leastGo_succ (xss : List (List Int)) (n k : Nat) : leastGo xss n (k + 1) = minF (formL xss n (k : Int)) (leastGo xss n k) := by unfold leastGo; rw [List.range_succ, List.foldl_append]; rfl
theorem leastGo_one (xss : List (List Int)) (n : Nat) : leastGo xss n 1 = formL xss n 0 := by
  rw [leastGo_succ]
  unfold minF leastGo
  show (if cmp2 (formL xss n 0) (formL xss n 0) < 0 then formL xss n 0 else formL xss n 0) = _
  by_cases h : cmp2 (formL xss n 0) (formL xss n 0) < 0
  · rw [if_pos h]
  · rw [if_neg h]
theorem leastGo_form (xss : List (List Int)) (n : Nat) : ∀ k, ∃ f : Nat, (f < k ∨ f = 0) ∧ leastGo xss n k = formL xss n (f : Int) := by
  intro k
  induction k with
  | zero => exact ⟨0, .inr rfl, rfl⟩
  | succ k ih =>
    rw [leastGo_succ]
    unfold minF
    split
    · exact ⟨k, .inl (by omega), rfl⟩
    · obtain ⟨f, hf, e⟩ := ih
      exact ⟨f, by omega, e⟩
/-- what LeastForm returns -/
noncomputable def lstF (xss : List (List Int)) : List (List Int) × Int := if isManB xss = true then (leastGo xss (flg xss) (flg xss), 0) else ([], 1)
end Go.Proofs.YtebdfhkimnlglaaDoor
