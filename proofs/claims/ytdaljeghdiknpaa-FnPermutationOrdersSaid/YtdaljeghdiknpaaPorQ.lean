/- Facts for the law FnPermutationOrders. -/
import Derived.Test.YtdaljeghdiknpaaPorP
import Derived.Test.YtdaljeghdiknpaaPermX
namespace Go.Proofs.Ytdaljeghdiknpaa
set_option linter.unusedVariables false
theorem sum_perm {xs ys : List Int} (h : xs.Perm ys) : xs.sum = ys.sum := by
  induction h with
  | nil => rfl
  | cons x _ ih => simp [ih]
  | swap x y l => simp; omega
  | trans _ _ ih1 ih2 => exact ih1.trans ih2
theorem sum_ofNat (xs : List Nat) : (xs.map Int.ofNat).sum = (xs.sum : Int) := by
  induction xs with
  | nil => rfl
  | cons x xs ih => simp [ih]
theorem lensL_sum {p : List Int} (hp : isPermP p) : (lensL p).sum = (p.length : Int) := by
  unfold lensL
  rw [sum_perm (sortL_perm _), sum_ofNat, lens_sum hp]
theorem quo_lt {D q : Nat} (hq : 2 ≤ q) (h : D % q = 0) (hD : 0 < D) : 0 < D / q ∧ D / q < D := by
  refine ⟨?_, Nat.div_lt_self hD (by omega)⟩
  have e := Nat.div_add_mod D q
  rcases Nat.eq_zero_or_pos (D / q) with g | g
  · rw [g, h] at e; simp at e; omega
  · exact g
theorem powF_ok {p : List Int} (hp : isPermP p) {k : Int} (h : -1000000000 ≤ k ∧ k ≤ 1000000000) : powF p k = (powL p k, 0) := by
  unfold powF
  rw [if_pos (isPermB_iff.2 hp), if_pos h]
theorem thenF_pow {p : List Int} (hp : isPermP p) {a b : Int} (ha : -1000000 ≤ a ∧ a ≤ 1000000) (hb : -1000000 ≤ b ∧ b ≤ 1000000) : thenF (powL p a) (powL p b) = (powL p (a + b), 0) := by
  have pa := powL_ok hp (k := a) (by omega)
  have pb := powL_ok hp (k := b) (by omega)
  unfold thenF
  rw [if_pos (by unfold okTwo; simp [isPermB_iff.2 pa.1, isPermB_iff.2 pb.1, pa.2, pb.2]), pow_add hp ha hb]
theorem thenF_inv {p : List Int} (hp : isPermP p) : thenF p (invL p) = (idL p.length, 0) := by
  unfold thenF
  rw [if_pos (by unfold okTwo; simp [isPermB_iff.2 hp, isPermB_iff.2 (invL_perm hp), invL_length]), then_inv hp]
/-- the order: a number and a code -/
theorem orderF_cases {p : List Int} (hp : isPermP p) {x code : Int} (h : (x, code) = orderF p) : (code = 0 ∧ x = (lcmL (cycLens p) : Int)) ∨ (code = 3 ∧ x = 0) := by
  unfold orderF at h
  rw [if_pos (isPermB_iff.2 hp)] at h
  by_cases g : lcmL (cycLens p) ≤ 1000000000000000
  · rw [if_pos g] at h
    obtain ⟨h1, h2⟩ := Prod.mk.inj h
    exact .inl ⟨h2, h1⟩
  · rw [if_neg g] at h
    obtain ⟨h1, h2⟩ := Prod.mk.inj h
    exact .inr ⟨h2, h1⟩
end Go.Proofs.Ytdaljeghdiknpaa
