/- Plain mathematics of permutations given as lists of numbers: no program in sight. No condition. -/
import Derived.WalkKit
namespace Go.Proofs.YtebdfhkimnlglaaDoor
set_option linter.unusedVariables false
set_option maxRecDepth 100000

/-- a permutation of at most 400 points -/
def isPermP (xs : List Int) : Prop := xs.length ≤ 400 ∧ (∀ x ∈ xs, 0 ≤ x ∧ x < xs.length) ∧ xs.Nodup
instance (xs : List Int) : Decidable (isPermP xs) := by unfold isPermP; infer_instance
def isPermB (xs : List Int) : Bool := decide (isPermP xs)
/-- p then q -/
def thenL (p q : List Int) : List Int := p.map fun x => q.getD x.toNat 0
/-- the inverse -/
def invL (p : List Int) : List Int := (List.range p.length).map fun (j : Nat) => (p.idxOf (j : Int) : Int)
def freeB (p : List Int) : Bool := decide (∀ i, i < p.length → p.getD i 0 ≠ (i : Int) ∧ p.getD (p.getD i 0).toNat 0 = (i : Int))

/-- two permutations of as many points -/
def okTwo (xs ys : List Int) : Bool := isPermB xs && isPermB ys && decide (xs.length = ys.length)
/-- the code 0 where a test holds, 1 (invalid) where it does not -/
def code01 (b : Bool) : Int := if b then 0 else 1
theorem isPermB_iff {xs : List Int} : isPermB xs = true ↔ isPermP xs := by unfold isPermB; simp
theorem isPermB_len {xs : List Int} (h : isPermB xs = true) : xs.length ≤ 400 := (isPermB_iff.1 h).1
theorem isPermB_false {xs : List Int} (h : ¬ isPermP xs) : isPermB xs = false := by unfold isPermB; simp [h]
theorem isPermP.rng {xs : List Int} (h : isPermP xs) : ∀ x ∈ xs, 0 ≤ x ∧ x < xs.length := And.left (And.right h)
theorem isPermP.nd {xs : List Int} (h : isPermP xs) : xs.Nodup := And.right (And.right h)
theorem isPermP.le {xs : List Int} (h : isPermP xs) : xs.length ≤ 400 := And.left h
theorem thenL_length (p q : List Int) : (thenL p q).length = p.length := by simp [thenL]
theorem invL_length (p : List Int) : (invL p).length = p.length := by simp [invL]

theorem take_succ_of {α : Type} {xs : List α} {k : Nat} {x : α} (h : xs[k]? = some x) : xs.take (k + 1) = xs.take k ++ [x] := by
  rw [List.take_add_one, h]; rfl
theorem mem_of_take {α : Type} {xs : List α} {k : Nat} {x : α} (h : x ∈ xs.take k) : x ∈ xs := List.mem_of_mem_take h
theorem mem_of_get? {α : Type} {xs : List α} {k : Nat} {x : α} (h : xs[k]? = some x) : x ∈ xs := List.mem_of_getElem? h

/-- a round of isPermutation -/
theorem perm_out {xs : List Int} {k n : Nat} {x : Int} (hl : xs.length = n) (hx : xs[k]? = some x) (hr : ¬ (0 ≤ x ∧ x < n)) : isPermB xs = false := by
  apply isPermB_false
  rintro ⟨_, h, _⟩
  exact hr (by have := h x (mem_of_get? hx); omega)
theorem perm_dup {xs : List Int} {k : Nat} {x : Int} (hx : xs[k]? = some x) (hm : x ∈ xs.take k) : isPermB xs = false := by
  apply isPermB_false
  rintro ⟨_, _, h⟩
  have hk : k < xs.length := (List.getElem?_eq_some_iff.1 hx).1
  obtain ⟨j, hj⟩ := List.mem_iff_getElem?.1 hm
  have hjk : j < k := by have := (List.getElem?_eq_some_iff.1 hj).1; simp at this; omega
  rw [List.getElem?_take, if_pos hjk] at hj
  have e := (List.getElem?_inj (by omega) h).1 (hj.trans hx.symm)
  omega
theorem perm_all {xs : List Int} {n : Nat} (hl : xs.length = n) (h4 : n ≤ 400) (hr : ∀ x ∈ xs.take n, 0 ≤ x ∧ x < n) (hn : (xs.take n).Nodup) : isPermB xs = true := by
  subst hl
  rw [List.take_length] at hr hn
  exact isPermB_iff.2 ⟨h4, hr, hn⟩
theorem nodup_take_succ {xs : List Int} {k : Nat} {x : Int} (hx : xs[k]? = some x) (h : (xs.take k).Nodup) (hm : x ∉ xs.take k) : (xs.take (k + 1)).Nodup := by
  rw [take_succ_of hx, List.nodup_append]
  refine ⟨h, by simp, ?_⟩
  intro a ha b hb
  simp at hb
  subst hb
  exact fun e => hm (e ▸ ha)

theorem getD_some {α : Type} {xs : List α} {k : Nat} {x d : α} (h : xs[k]? = some x) : xs.getD k d = x := by simp [List.getD, h]
theorem get?_getD {α : Type} {xs : List α} {k : Nat} (d : α) (h : k < xs.length) : xs[k]? = some (xs.getD k d) := by simp [List.getD, h]

theorem isPermP.get {xs : List Int} (h : isPermP xs) {k : Nat} (hk : k < xs.length) : 0 ≤ xs.getD k 0 ∧ xs.getD k 0 < xs.length := h.2.1 _ (mem_of_get? (get?_getD 0 hk))

theorem nodup_sub_len {α : Type} [DecidableEq α] : ∀ (l₁ l₂ : List α), l₁.Nodup → (∀ a ∈ l₁, a ∈ l₂) → l₁.length ≤ l₂.length
  | [], _, _, _ => by simp
  | a :: t, l₂, h, hs => by
    have ha := hs a (by simp)
    have hn := List.nodup_cons.1 h
    have := nodup_sub_len t (l₂.erase a) hn.2 fun b hb => (List.mem_erase_of_ne (fun (e : b = a) => hn.1 (by rw [← e]; exact hb))).2 (hs b (by simp [hb]))
    rw [List.length_erase_of_mem ha] at this
    have hp : 0 < l₂.length := List.length_pos_of_mem ha
    simp
    omega
theorem mem_of_full {α : Type} [DecidableEq α] {l₁ l₂ : List α} (h : l₁.Nodup) (hs : ∀ a ∈ l₁, a ∈ l₂) (hl : l₂.length ≤ l₁.length) {a : α} (ha : a ∈ l₂) : a ∈ l₁ := by
  by_cases hm : a ∈ l₁
  · exact hm
  · have := nodup_sub_len (a :: l₁) l₂ (List.nodup_cons.2 ⟨hm, h⟩) (by simpa using ⟨ha, hs⟩)
    simp at this
    omega
theorem mem_ints {n : Nat} {x : Int} : x ∈ (List.range n).map Int.ofNat ↔ 0 ≤ x ∧ x < n := by
  simp only [List.mem_map, List.mem_range]
  constructor
  · rintro ⟨k, hk, rfl⟩; simp; omega
  · rintro ⟨h0, h1⟩; exact ⟨x.toNat, by omega, by simp; omega⟩
theorem perm_mem {xs : List Int} {n : Nat} (hl : xs.length = n) (hr : ∀ x ∈ xs, 0 ≤ x ∧ x < n) (hn : xs.Nodup) {j : Int} (h0 : 0 ≤ j) (h1 : j < n) : j ∈ xs :=
  mem_of_full hn (fun a ha => mem_ints.2 (hr a ha)) (by simp; omega) (mem_ints.2 ⟨h0, h1⟩)
theorem idxOf_of_get? {xs : List Int} (hn : xs.Nodup) {k : Nat} {x : Int} (h : xs[k]? = some x) : xs.idxOf x = k := by
  obtain ⟨hk, rfl⟩ := List.getElem?_eq_some_iff.1 h
  exact hn.idxOf_getElem k hk
theorem get?_idxOf {xs : List Int} {x : Int} (h : x ∈ xs) : xs[xs.idxOf x]? = some x := by
  have hk := List.idxOf_lt_length_iff.2 h
  rw [List.getElem?_eq_getElem hk, List.getElem_idxOf hk]
theorem invL_get {p : List Int} {j : Nat} (h : j < p.length) : (invL p)[j]? = some (p.idxOf (j : Int) : Int) := by simp [invL, h]
theorem thenL_get {p q : List Int} {k : Nat} {x : Int} (h : p[k]? = some x) : (thenL p q)[k]? = some (q.getD x.toNat 0) := by simp [thenL, h]

theorem invL_perm {p : List Int} (h : isPermP p) : isPermP (invL p) := by
  obtain ⟨h4, hr, hn⟩ := h
  have hmem : ∀ j : Nat, j < p.length → (j : Int) ∈ p := fun j hj => perm_mem rfl hr hn (by omega) (by omega)
  refine ⟨by rw [invL_length]; exact h4, fun x hx => ?_, ?_⟩
  · rw [invL_length]
    simp only [invL, List.mem_map, List.mem_range] at hx
    obtain ⟨j, hj, rfl⟩ := hx
    have := List.idxOf_lt_length_iff.2 (hmem j hj)
    omega
  · unfold invL
    rw [List.nodup_iff_pairwise_ne, List.pairwise_map]
    refine List.Pairwise.imp_of_mem ?_ (List.nodup_iff_pairwise_ne.1 List.nodup_range)
    intro a b ha hb hab e
    have ha := List.mem_range.1 ha
    have hb := List.mem_range.1 hb
    have e1 := get?_idxOf (hmem a ha)
    have e2 := get?_idxOf (hmem b hb)
    have e3 : p.idxOf (a : Int) = p.idxOf (b : Int) := by omega
    rw [e3, e2] at e1
    have := Option.some.inj e1
    omega
theorem thenL_perm {p q : List Int} (h : isPermP p) (g : isPermP q) (hl : p.length = q.length) : isPermP (thenL p q) := by
  refine ⟨by rw [thenL_length]; exact h.1, fun x hx => ?_, ?_⟩
  · rw [thenL_length, hl]
    simp only [thenL, List.mem_map] at hx
    obtain ⟨y, hy, rfl⟩ := hx
    have := h.2.1 y hy
    exact g.get (by omega)
  · unfold thenL
    rw [List.nodup_iff_pairwise_ne, List.pairwise_map]
    refine List.Pairwise.imp_of_mem ?_ (List.nodup_iff_pairwise_ne.1 h.2.2)
    intro a b ha hb hab e
    have ha := h.2.1 a ha
    have hb := h.2.1 b hb
    have e1 := get?_getD (xs := q) (k := a.toNat) 0 (by omega)
    have e2 := get?_getD (xs := q) (k := b.toNat) 0 (by omega)
    rw [e] at e1
    have := (List.getElem?_inj (by omega) g.2.2).1 (e1.trans e2.symm)
    omega
end Go.Proofs.YtebdfhkimnlglaaDoor
