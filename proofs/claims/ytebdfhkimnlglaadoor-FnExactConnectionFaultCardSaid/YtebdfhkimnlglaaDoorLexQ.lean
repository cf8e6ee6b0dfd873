/- Plain: the lexicographic order is total, and the least form is the least of all forms. No program in sight. No condition. -/
import Derived.Test.YtebdfhkimnlglaaDoorLexP
namespace Go.Proofs.YtebdfhkimnlglaaDoor
set_option linter.unusedVariables false
set_option maxRecDepth 100000
theorem cmpL_anti : ∀ a b : List Int, cmpL b a = - cmpL a b := by
  intro a
  induction a with
  | nil => intro b; cases b <;> simp [cmpL]
  | cons x s ih =>
    intro b
    cases b with
    | nil => simp [cmpL]
    | cons y t =>
      unfold cmpL
      by_cases h1 : x < y
      · rw [if_pos h1, if_neg (by omega), if_pos h1]; rfl
      · rw [if_neg h1]
        by_cases h2 : y < x
        · rw [if_pos h2, if_neg h1, if_pos h2]
        · rw [if_neg h2, if_neg h2, if_neg h1, ih t]
theorem cmpL_trans : ∀ a b c : List Int, cmpL a b ≤ 0 → cmpL b c ≤ 0 → cmpL a c ≤ 0 := by
  intro a
  induction a with
  | nil => intro b c _ _; cases c <;> simp [cmpL]
  | cons x s ih =>
    intro b c h1 h2
    cases b with
    | nil => simp [cmpL] at h1
    | cons y t =>
      cases c with
      | nil => simp [cmpL] at h2
      | cons z u =>
        unfold cmpL at h1 h2 ⊢
        by_cases a1 : x < y
        · by_cases a2 : y < z
          · rw [if_pos (by omega)]; omega
          · by_cases a3 : z < y
            · rw [if_neg a2, if_pos a3] at h2; omega
            · rw [if_pos (by omega)]; omega
        · by_cases a1' : y < x
          · rw [if_neg a1, if_pos a1'] at h1; omega
          · rw [if_neg a1, if_neg a1'] at h1
            by_cases a2 : y < z
            · rw [if_pos (by omega)]; omega
            · by_cases a3 : z < y
              · rw [if_neg a2, if_pos a3] at h2; omega
              · rw [if_neg a2, if_neg a3] at h2
                rw [if_neg (by omega), if_neg (by omega)]
                exact ih t u h1 h2
theorem cmp2_anti : ∀ a b : List (List Int), cmp2 b a = - cmp2 a b := by
  intro a
  induction a with
  | nil => intro b; cases b <;> simp [cmp2]
  | cons x s ih =>
    intro b
    cases b with
    | nil => simp [cmp2]
    | cons y t =>
      unfold cmp2
      have h := cmpL_anti x y
      by_cases h0 : cmpL x y = 0
      · rw [if_pos h0, if_pos (by omega), ih t]
      · rw [if_neg h0, if_neg (by omega), h]
theorem cmp2_zero : ∀ a b : List (List Int), cmp2 a b = 0 → a = b := by
  intro a
  induction a with
  | nil => intro b h; cases b with | nil => rfl | cons _ _ => simp [cmp2] at h
  | cons x s ih =>
    intro b h
    cases b with
    | nil => simp [cmp2] at h
    | cons y t =>
      unfold cmp2 at h
      by_cases h0 : cmpL x y = 0
      · rw [if_pos h0] at h
        rw [(cmpL_zero x y).1 h0, ih t h]
      · rw [if_neg h0] at h; exact absurd h h0
theorem cmp2_trans : ∀ a b c : List (List Int), cmp2 a b ≤ 0 → cmp2 b c ≤ 0 → cmp2 a c ≤ 0 := by
  intro a
  induction a with
  | nil => intro b c _ _; cases c <;> simp [cmp2]
  | cons x s ih =>
    intro b c h1 h2
    cases b with
    | nil => simp [cmp2] at h1
    | cons y t =>
      cases c with
      | nil => simp [cmp2] at h2
      | cons z u =>
        unfold cmp2 at h1 h2 ⊢
        by_cases a1 : cmpL x y = 0
        · have e := (cmpL_zero x y).1 a1
          subst e
          rw [if_pos a1] at h1
          by_cases a2 : cmpL x z = 0
          · rw [if_pos a2] at h2 ⊢
            exact ih t u h1 h2
          · rw [if_neg a2] at h2 ⊢
            exact h2
        · rw [if_neg a1] at h1
          by_cases a2 : cmpL y z = 0
          · have e := (cmpL_zero y z).1 a2
            subst e
            rw [if_neg a1]
            exact h1
          · rw [if_neg a2] at h2
            have h3 := cmpL_trans x y z h1 h2
            by_cases a3 : cmpL x z = 0
            · exfalso
              have e := (cmpL_zero x z).1 a3
              subst e
              have := cmpL_anti x y
              omega
            · rw [if_neg a3]; exact h3
/-- the least form is not greater than any form -/
theorem least_le (xss : List (List Int)) (n : Nat) : ∀ k f : Nat, (f < k ∨ f = 0) → cmp2 (leastGo xss n k) (formL xss n (f : Int)) ≤ 0 := by
  intro k
  induction k with
  | zero =>
    intro f hf
    obtain rfl : f = 0 := by omega
    show cmp2 (formL xss n 0) (formL xss n ((0 : Nat) : Int)) ≤ 0
    rw [show (((0 : Nat)) : Int) = 0 from rfl, cmp2_refl]
    omega
  | succ k ih =>
    intro f hf
    rw [leastGo_succ]
    unfold minF
    by_cases h : cmp2 (formL xss n (k : Int)) (leastGo xss n k) < 0
    · rw [if_pos h]
      by_cases e : f = k
      · subst e; rw [cmp2_refl]; omega
      · exact cmp2_trans _ _ _ (by omega) (ih f (by omega))
    · rw [if_neg h]
      by_cases e : f = k
      · subst e
        have := cmp2_anti (leastGo xss n f) (formL xss n (f : Int))
        omega
      · exact ih f (by omega)
/-- two that have the same forms have the same least form -/
theorem least_same {ys zs : List (List Int)} {m n : Nat} (hm : 1 ≤ m) (hn : 1 ≤ n) (h1 : ∀ f : Nat, f < m → ∃ g : Nat, g < n ∧ formL ys m (f : Int) = formL zs n (g : Int)) (h2 : ∀ g : Nat, g < n → ∃ f : Nat, f < m ∧ formL zs n (g : Int) = formL ys m (f : Int)) : leastGo ys m m = leastGo zs n n := by
  obtain ⟨f, hf, ef⟩ := leastGo_form ys m m
  obtain ⟨g, hg, eg⟩ := leastGo_form zs n n
  obtain ⟨g', hg', eg'⟩ := h1 f (by omega)
  obtain ⟨f', hf', ef'⟩ := h2 g (by omega)
  have a := least_le zs n n g' (.inl hg')
  have b := least_le ys m m f' (.inl hf')
  rw [← eg', ← ef] at a
  rw [← ef', ← eg] at b
  have := cmp2_anti (leastGo ys m m) (leastGo zs n n)
  exact cmp2_zero _ _ (by omega)
end Go.Proofs.YtebdfhkimnlglaaDoor
