/- Plain mathematics of permutations given as lists of numbers: no program in sight. No condition. -/
import Derived.WalkKit
namespace Go.Proofs.Ytelolelhkfdkhaa
set_option linter.unusedVariables false

/-- a permutation of at most 400 points -/
def isPermP (xs : List Int) : Prop := xs.length ≤ 400 ∧ (∀ x ∈ xs, 0 ≤ x ∧ x < xs.length) ∧ xs.Nodup
instance (xs : List Int) : Decidable (isPermP xs) := by unfold isPermP; infer_instance
def isPermB (xs : List Int) : Bool := decide (isPermP xs)
/-- p then q -/
def thenL (p q : List Int) : List Int := p.map fun x => q.getD x.toNat 0
/-- the inverse -/
def invL (p : List Int) : List Int := (List.range p.length).map fun (j : Nat) => (p.idxOf (j : Int) : Int)
def freeB (p : List Int) : Bool := decide (∀ i, i < p.length → p.getD i 0 ≠ (i : Int) ∧ p.getD (p.getD i 0).toNat 0 = (i : Int))

theorem isPermB_iff {xs : List Int} : isPermB xs = true ↔ isPermP xs := by unfold isPermB; simp
theorem isPermB_len {xs : List Int} (h : isPermB xs = true) : xs.length ≤ 400 := (isPermB_iff.1 h).1
theorem isPermB_false {xs : List Int} (h : ¬ isPermP xs) : isPermB xs = false := by unfold isPermB; simp [h]
theorem thenL_length (p q : List Int) : (thenL p q).length = p.length := by simp [thenL]
theorem invL_length (p : List Int) : (invL p).length = p.length := by simp [invL]

theorem take_succ_of {α : Type} {xs : List α} {k : Nat} {x : α} (h : xs[k]? = some x) : xs.take (k + 1) = xs.take k ++ [x] := by
  rw [List.take_add_one, h]; rfl
theorem mem_of_take {α : Type} {xs : List α} {k : Nat} {x : α} (h : x ∈ xs.take k) : x ∈ xs := List.mem_of_mem_take h
theorem mem_of_get? {α : Type} {xs : List α} {k : Nat} {x : α} (h : xs[k]? = some x) : x ∈ xs := List.mem_of_getElem? h

/-- a round of isPermutation -/
theorem perm_out {xs : List Int} {k n : Nat} {x : Int} (hl : xs.length = n) (hx : xs[k]? = some x) (hr : ¬ (0 ≤ x ∧ x < n)) : isPermB xs = false := by
  apply isPermB_false
  rintro ⟨_, h, _⟩
  exact hr (by have := h x (mem_of_get? hx); omega)
theorem perm_dup {xs : List Int} {k : Nat} {x : Int} (hx : xs[k]? = some x) (hm : x ∈ xs.take k) : isPermB xs = false := by
  apply isPermB_false
  rintro ⟨_, _, h⟩
  have hk : k < xs.length := (List.getElem?_eq_some_iff.1 hx).1
  obtain ⟨j, hj⟩ := List.mem_iff_getElem?.1 hm
  have hjk : j < k := by have := (List.getElem?_eq_some_iff.1 hj).1; simp at this; omega
  rw [List.getElem?_take, if_pos hjk] at hj
  have e := (List.getElem?_inj (by omega) h).1 (hj.trans hx.symm)
  omega
theorem perm_all {xs : List Int} {n : Nat} (hl : xs.length = n) (h4 : n ≤ 400) (hr : ∀ x ∈ xs.take n, 0 ≤ x ∧ x < n) (hn : (xs.take n).Nodup) : isPermB xs = true := by
  subst hl
  rw [List.take_length] at hr hn
  exact isPermB_iff.2 ⟨h4, hr, hn⟩
theorem nodup_take_succ {xs : List Int} {k : Nat} {x : Int} (hx : xs[k]? = some x) (h : (xs.take k).Nodup) (hm : x ∉ xs.take k) : (xs.take (k + 1)).Nodup := by
  rw [take_succ_of hx, List.nodup_append]
  refine ⟨h, by simp, ?_⟩
  intro a ha b hb
  simp at hb
  subst hb
  exact fun e => hm (e ▸ ha)

theorem getD_some {α : Type} {xs : List α} {k : Nat} {x d : α} (h : xs[k]? = some x) : xs.getD k d = x := by simp [List.getD, h]
theorem get?_getD {α : Type} {xs : List α} {k : Nat} (d : α) (h : k < xs.length) : xs[k]? = some (xs.getD k d) := by simp [List.getD, h]

theorem isPermP.get {xs : List Int} (h : isPermP xs) {k : Nat} (hk : k < xs.length) : 0 ≤ xs.getD k 0 ∧ xs.getD k 0 < xs.length := h.2.1 _ (mem_of_get? (get?_getD 0 hk))
end Go.Proofs.Ytelolelhkfdkhaa
