/- Merged texts, part 1: walks and plain lemmas of the functions that the statements reach (Plain .. LawM). No condition but those that each lemma names. -/
import Derived.WalkKit
import Derived.WalkSpells
import Derived.WalkLawsBesides
import Derived.Lib.Hide
import Derived.Deep.AppendLies
import Derived.Deep.Draws
import Derived.Deep.QuietTactic
import Derived.BigQuiet
import Derived.Test.YtbioelmofceaaaaGreatProg
import Derived.Outline
import Derived.Laws.CopyOwn
import Derived.Deep.RegionLaw
import Derived.Maps.AppendAt
import Derived.Deep.LoopGhost
import Derived.Deep.RegionWith
import Derived.Deep.RegionHeld3
import Derived.ProofKit
import Derived.OpenShut
import Derived.ShutString
import Derived.ChangeOld
import Derived.Below
import Derived.Deep.Matrix
import Derived.Lib.SmallJoins
import Derived.Laws.Rows
/- Plain -/
namespace Go.Proofs.YtbioelmofceaaaaGreat
set_option linter.unusedVariables false
set_option maxRecDepth 100000

/-- a permutation of at most 400 points -/
def isPermP (xs : List Int) : Prop := xs.length ≤ 400 ∧ (∀ x ∈ xs, 0 ≤ x ∧ x < xs.length) ∧ xs.Nodup
instance (xs : List Int) : Decidable (isPermP xs) := by unfold isPermP; infer_instance
def isPermB (xs : List Int) : Bool := decide (isPermP xs)
/-- p then q -/
def thenL (p q : List Int) : List Int := p.map fun x => q.getD x.toNat 0
/-- the inverse -/
def invL (p : List Int) : List Int := (List.range p.length).map fun (j : Nat) => (p.idxOf (j : Int) : Int)
def freeB (p : List Int) : Bool := decide (∀ i, i < p.length → p.getD i 0 ≠ (i : Int) ∧ p.getD (p.getD i 0).toNat 0 = (i : Int))

/-- two permutations of as many points -/
def okTwo (xs ys : List Int) : Bool := isPermB xs && isPermB ys && decide (xs.length = ys.length)
/-- the code 0 where a test holds, 1 (invalid) where it does not -/
def code01 (b : Bool) : Int := if b then 0 else 1
theorem isPermB_iff {xs : List Int} : isPermB xs = true ↔ isPermP xs := by unfold isPermB; simp
theorem isPermB_len {xs : List Int} (h : isPermB xs = true) : xs.length ≤ 400 := (isPermB_iff.1 h).1
theorem isPermB_false {xs : List Int} (h : ¬ isPermP xs) : isPermB xs = false := by unfold isPermB; simp [h]
theorem isPermP.rng {xs : List Int} (h : isPermP xs) : ∀ x ∈ xs, 0 ≤ x ∧ x < xs.length := And.left (And.right h)
theorem isPermP.nd {xs : List Int} (h : isPermP xs) : xs.Nodup := And.right (And.right h)
theorem isPermP.le {xs : List Int} (h : isPermP xs) : xs.length ≤ 400 := And.left h
theorem thenL_length (p q : List Int) : (thenL p q).length = p.length := by simp [thenL]
theorem invL_length (p : List Int) : (invL p).length = p.length := by simp [invL]

theorem take_succ_of {α : Type} {xs : List α} {k : Nat} {x : α} (h : xs[k]? = some x) : xs.take (k + 1) = xs.take k ++ [x] := by
  rw [List.take_add_one, h]; rfl
theorem mem_of_take {α : Type} {xs : List α} {k : Nat} {x : α} (h : x ∈ xs.take k) : x ∈ xs := List.mem_of_mem_take h
theorem mem_of_get? {α : Type} {xs : List α} {k : Nat} {x : α} (h : xs[k]? = some x) : x ∈ xs := List.mem_of_getElem? h

/-- a round of isPermutation -/
theorem perm_out {xs : List Int} {k n : Nat} {x : Int} (hl : xs.length = n) (hx : xs[k]? = some x) (hr : ¬ (0 ≤ x ∧ x < n)) : isPermB xs = false := by
  apply isPermB_false
  rintro ⟨_, h, _⟩
  exact hr (by have := h x (mem_of_get? hx); omega)
theorem perm_dup {xs : List Int} {k : Nat} {x : Int} (hx : xs[k]? = some x) (hm : x ∈ xs.take k) : isPermB xs = false := by
  apply isPermB_false
  rintro ⟨_, _, h⟩
  have hk : k < xs.length := (List.getElem?_eq_some_iff.1 hx).1
  obtain ⟨j, hj⟩ := List.mem_iff_getElem?.1 hm
  have hjk : j < k := by have := (List.getElem?_eq_some_iff.1 hj).1; simp at this; omega
  rw [List.getElem?_take, if_pos hjk] at hj
  have e := (List.getElem?_inj (by omega) h).1 (hj.trans hx.symm)
  omega
theorem perm_all {xs : List Int} {n : Nat} (hl : xs.length = n) (h4 : n ≤ 400) (hr : ∀ x ∈ xs.take n, 0 ≤ x ∧ x < n) (hn : (xs.take n).Nodup) : isPermB xs = true := by
  subst hl
  rw [List.take_length] at hr hn
  exact isPermB_iff.2 ⟨h4, hr, hn⟩
theorem nodup_take_succ {xs : List Int} {k : Nat} {x : Int} (hx : xs[k]? = some x) (h : (xs.take k).Nodup) (hm : x ∉ xs.take k) : (xs.take (k + 1)).Nodup := by
  rw [take_succ_of hx, List.nodup_append]
  refine ⟨h, by simp, ?_⟩
  intro a ha b hb
  simp at hb
  subst hb
  exact fun e => hm (e ▸ ha)

theorem getD_some {α : Type} {xs : List α} {k : Nat} {x d : α} (h : xs[k]? = some x) : xs.getD k d = x := by simp [List.getD, h]
theorem get?_getD {α : Type} {xs : List α} {k : Nat} (d : α) (h : k < xs.length) : xs[k]? = some (xs.getD k d) := by simp [List.getD, h]

theorem isPermP.get {xs : List Int} (h : isPermP xs) {k : Nat} (hk : k < xs.length) : 0 ≤ xs.getD k 0 ∧ xs.getD k 0 < xs.length := h.2.1 _ (mem_of_get? (get?_getD 0 hk))

theorem nodup_sub_len {α : Type} [DecidableEq α] : ∀ (l₁ l₂ : List α), l₁.Nodup → (∀ a ∈ l₁, a ∈ l₂) → l₁.length ≤ l₂.length
  | [], _, _, _ => by simp
  | a :: t, l₂, h, hs => by
    have ha := hs a (by simp)
    have hn := List.nodup_cons.1 h
    have := nodup_sub_len t (l₂.erase a) hn.2 fun b hb => (List.mem_erase_of_ne (fun (e : b = a) => hn.1 (by rw [← e]; exact hb))).2 (hs b (by simp [hb]))
    rw [List.length_erase_of_mem ha] at this
    have hp : 0 < l₂.length := List.length_pos_of_mem ha
    simp
    omega
theorem mem_of_full {α : Type} [DecidableEq α] {l₁ l₂ : List α} (h : l₁.Nodup) (hs : ∀ a ∈ l₁, a ∈ l₂) (hl : l₂.length ≤ l₁.length) {a : α} (ha : a ∈ l₂) : a ∈ l₁ := by
  by_cases hm : a ∈ l₁
  · exact hm
  · have := nodup_sub_len (a :: l₁) l₂ (List.nodup_cons.2 ⟨hm, h⟩) (by simpa using ⟨ha, hs⟩)
    simp at this
    omega
theorem mem_ints {n : Nat} {x : Int} : x ∈ (List.range n).map Int.ofNat ↔ 0 ≤ x ∧ x < n := by
  simp only [List.mem_map, List.mem_range]
  constructor
  · rintro ⟨k, hk, rfl⟩; simp; omega
  · rintro ⟨h0, h1⟩; exact ⟨x.toNat, by omega, by simp; omega⟩
theorem perm_mem {xs : List Int} {n : Nat} (hl : xs.length = n) (hr : ∀ x ∈ xs, 0 ≤ x ∧ x < n) (hn : xs.Nodup) {j : Int} (h0 : 0 ≤ j) (h1 : j < n) : j ∈ xs :=
  mem_of_full hn (fun a ha => mem_ints.2 (hr a ha)) (by simp; omega) (mem_ints.2 ⟨h0, h1⟩)
theorem idxOf_of_get? {xs : List Int} (hn : xs.Nodup) {k : Nat} {x : Int} (h : xs[k]? = some x) : xs.idxOf x = k := by
  obtain ⟨hk, rfl⟩ := List.getElem?_eq_some_iff.1 h
  exact hn.idxOf_getElem k hk
theorem get?_idxOf {xs : List Int} {x : Int} (h : x ∈ xs) : xs[xs.idxOf x]? = some x := by
  have hk := List.idxOf_lt_length_iff.2 h
  rw [List.getElem?_eq_getElem hk, List.getElem_idxOf hk]
theorem invL_get {p : List Int} {j : Nat} (h : j < p.length) : (invL p)[j]? = some (p.idxOf (j : Int) : Int) := by simp [invL, h]
theorem thenL_get {p q : List Int} {k : Nat} {x : Int} (h : p[k]? = some x) : (thenL p q)[k]? = some (q.getD x.toNat 0) := by simp [thenL, h]

theorem invL_perm {p : List Int} (h : isPermP p) : isPermP (invL p) := by
  obtain ⟨h4, hr, hn⟩ := h
  have hmem : ∀ j : Nat, j < p.length → (j : Int) ∈ p := fun j hj => perm_mem rfl hr hn (by omega) (by omega)
  refine ⟨by rw [invL_length]; exact h4, fun x hx => ?_, ?_⟩
  · rw [invL_length]
    simp only [invL, List.mem_map, List.mem_range] at hx
    obtain ⟨j, hj, rfl⟩ := hx
    have := List.idxOf_lt_length_iff.2 (hmem j hj)
    omega
  · unfold invL
    rw [List.nodup_iff_pairwise_ne, List.pairwise_map]
    refine List.Pairwise.imp_of_mem ?_ (List.nodup_iff_pairwise_ne.1 List.nodup_range)
    intro a b ha hb hab e
    have ha := List.mem_range.1 ha
    have hb := List.mem_range.1 hb
    have e1 := get?_idxOf (hmem a ha)
    have e2 := get?_idxOf (hmem b hb)
    have e3 : p.idxOf (a : Int) = p.idxOf (b : Int) := by omega
    rw [e3, e2] at e1
    have := Option.some.inj e1
    omega
theorem thenL_perm {p q : List Int} (h : isPermP p) (g : isPermP q) (hl : p.length = q.length) : isPermP (thenL p q) := by
  refine ⟨by rw [thenL_length]; exact h.1, fun x hx => ?_, ?_⟩
  · rw [thenL_length, hl]
    simp only [thenL, List.mem_map] at hx
    obtain ⟨y, hy, rfl⟩ := hx
    have := h.2.1 y hy
    exact g.get (by omega)
  · unfold thenL
    rw [List.nodup_iff_pairwise_ne, List.pairwise_map]
    refine List.Pairwise.imp_of_mem ?_ (List.nodup_iff_pairwise_ne.1 h.2.2)
    intro a b ha hb hab e
    have ha := h.2.1 a ha
    have hb := h.2.1 b hb
    have e1 := get?_getD (xs := q) (k := a.toNat) 0 (by omega)
    have e2 := get?_getD (xs := q) (k := b.toNat) 0 (by omega)
    rw [e] at e1
    have := (List.getElem?_inj (by omega) g.2.2).1 (e1.trans e2.symm)
    omega
end Go.Proofs.YtbioelmofceaaaaGreat
/- OrbP -/
namespace Go.Proofs.YtbioelmofceaaaaGreat
set_option linter.unusedVariables false
set_option maxRecDepth 100000

/-- permutations of n points -/
def SysOf (list : List (List Int)) (n : Nat) : Prop := ∀ p ∈ list, (∀ x ∈ p, 0 ≤ x ∧ x < n) ∧ p.Nodup ∧ p.length = n
/-- p at x -/
def at' (p : List Int) (x : Int) : Int := p.getD x.toNat 0
inductive Rch (list : List (List Int)) (x : Int) : Int → Prop
  | refl : Rch list x x
  | step {y : Int} {p : List Int} : Rch list x y → p ∈ list → Rch list x (at' p y)
theorem Rch.trans {list : List (List Int)} {x y z : Int} (h : Rch list x y) (g : Rch list y z) : Rch list x z := by
  induction g with
  | refl => exact h
  | step _ hp ih => exact ih.step hp
theorem at'_rng {p : List Int} {n : Nat} {x : Int} (hr : ∀ x ∈ p, 0 ≤ x ∧ x < n) (hl : p.length = n) (h0 : 0 ≤ x) (h1 : x < n) : 0 ≤ at' p x ∧ at' p x < n :=
  hr _ (mem_of_get? (get?_getD 0 (by omega)))
theorem Rch.rng {list : List (List Int)} {n : Nat} {x y : Int} (hs : SysOf list n) (h : Rch list x y) (h0 : 0 ≤ x) (h1 : x < n) : 0 ≤ y ∧ y < n := by
  induction h with
  | refl => exact ⟨h0, h1⟩
  | step _ hp ih => exact at'_rng (hs _ hp).1 (hs _ hp).2.2 ih.1 ih.2
theorem at'_inj {p : List Int} {n : Nat} {x y : Int} (hn : p.Nodup) (hl : p.length = n) (h0 : 0 ≤ x) (h1 : x < n) (g0 : 0 ≤ y) (g1 : y < n) (h : at' p x = at' p y) : x = y := by
  have e1 := get?_getD (xs := p) (k := x.toNat) 0 (by omega)
  have e2 := get?_getD (xs := p) (k := y.toNat) 0 (by omega)
  unfold at' at h
  rw [h] at e1
  have := (List.getElem?_inj (by omega) hn).1 (e1.trans e2.symm)
  omega
/-- p done k times -/
def itr (p : List Int) : Nat → Int → Int
  | 0, x => x
  | k + 1, x => at' p (itr p k x)
theorem itr_rng {p : List Int} {n : Nat} {x : Int} (hr : ∀ x ∈ p, 0 ≤ x ∧ x < n) (hl : p.length = n) (h0 : 0 ≤ x) (h1 : x < n) (k : Nat) : 0 ≤ itr p k x ∧ itr p k x < n := by
  induction k with
  | zero => exact ⟨h0, h1⟩
  | succ k ih => exact at'_rng hr hl ih.1 ih.2
theorem itr_succ' (p : List Int) (k : Nat) (x : Int) : itr p (k + 1) x = itr p k (at' p x) := by
  induction k with
  | zero => rfl
  | succ k ih => show at' p (itr p (k + 1) x) = at' p (itr p k (at' p x)); rw [ih]
theorem itr_add (p : List Int) (a b : Nat) (x : Int) : itr p (a + b) x = itr p a (itr p b x) := by
  induction a with
  | zero => simp [itr]
  | succ a ih => rw [show a + 1 + b = (a + b) + 1 by omega]; show at' p (itr p (a + b) x) = at' p (itr p a (itr p b x)); rw [ih]
theorem itr_inj {p : List Int} {n : Nat} (hr : ∀ x ∈ p, 0 ≤ x ∧ x < n) (hn : p.Nodup) (hl : p.length = n) (k : Nat) {x y : Int} (h0 : 0 ≤ x) (h1 : x < n) (g0 : 0 ≤ y) (g1 : y < n) (h : itr p k x = itr p k y) : x = y := by
  induction k with
  | zero => exact h
  | succ k ih =>
    have a := itr_rng hr hl h0 h1 k
    have b := itr_rng hr hl g0 g1 k
    exact ih (at'_inj hn hl a.1 a.2 b.1 b.2 h)
/-- each point comes back to itself -/
theorem itr_back {p : List Int} {n : Nat} {x : Int} (hr : ∀ x ∈ p, 0 ≤ x ∧ x < n) (hn : p.Nodup) (hl : p.length = n) (h0 : 0 ≤ x) (h1 : x < n) : ∃ k, 1 ≤ k ∧ k ≤ n ∧ itr p k x = x := by
  by_cases hex : ∃ i j, i < j ∧ j ≤ n ∧ itr p i x = itr p j x
  · obtain ⟨i, j, hij, hj, e⟩ := hex
    refine ⟨j - i, by omega, by omega, ?_⟩
    have e2 : itr p i x = itr p i (itr p (j - i) x) := by rw [← itr_add, show i + (j - i) = j by omega]; exact e
    have a := itr_rng hr hl h0 h1 (j - i)
    exact (itr_inj hr hn hl i h0 h1 a.1 a.2 e2).symm
  · exfalso
    have hnd : ((List.range (n + 1)).map fun k => itr p k x).Nodup := by
      rw [List.nodup_iff_pairwise_ne, List.pairwise_map]
      refine List.Pairwise.imp_of_mem ?_ List.pairwise_lt_range
      intro a b ha hb hab e
      exact hex ⟨a, b, hab, by have := List.mem_range.1 hb; omega, e⟩
    have := nodup_sub_len _ ((List.range n).map Int.ofNat) hnd (fun a ha => by
      obtain ⟨k, _, rfl⟩ := List.mem_map.1 ha
      exact mem_ints.2 (itr_rng hr hl h0 h1 k))
    simp at this
    omega
theorem Rch.itr_ {list : List (List Int)} {p : List Int} (hp : p ∈ list) (x : Int) (k : Nat) : Rch list x (itr p k x) := by
  induction k with
  | zero => exact .refl
  | succ k ih => exact ih.step hp
theorem Rch.back {list : List (List Int)} {n : Nat} {p : List Int} {y : Int} (hs : SysOf list n) (hp : p ∈ list) (h0 : 0 ≤ y) (h1 : y < n) : Rch list (at' p y) y := by
  obtain ⟨hr, hn, hl⟩ := hs p hp
  obtain ⟨k, hk, _, e⟩ := itr_back hr hn hl h0 h1
  obtain ⟨k, rfl⟩ : ∃ q, k = q + 1 := ⟨k - 1, by omega⟩
  rw [itr_succ'] at e
  have := Rch.itr_ hp (at' p y) k
  rwa [e] at this
theorem Rch.symm {list : List (List Int)} {n : Nat} {x y : Int} (hs : SysOf list n) (h : Rch list x y) (h0 : 0 ≤ x) (h1 : x < n) : Rch list y x := by
  induction h with
  | refl => exact .refl
  | step hxy hp ih =>
    have hr := hxy.rng hs h0 h1
    exact (Rch.back hs hp hr.1 hr.2).trans ih

theorem count_set_ne {α : Type} [DecidableEq α] {bs : List α} {k : Nat} {a b : α} (h : bs[k]? = some a) (hab : b ≠ a) : (bs.set k b).count a + 1 = bs.count a := by
  induction bs generalizing k with
  | nil => simp at h
  | cons c t ih =>
    cases k with
    | zero =>
      simp at h
      subst h
      simp [hab]
    | succ k =>
      simp at h
      have := ih h
      simp only [List.set_cons_succ, List.count_cons]
      omega

/-! ### breadth first -/
/-- what the point x adds -/
def bfsStep (list : List (List Int)) (x : Int) (out : List Int) : List Int := list.foldl (fun o p => if at' p x ∈ o then o else o ++ [at' p x]) out
def bfsGo (list : List (List Int)) : Nat → List Int → Nat → List Int
  | 0, out, _ => out
  | f + 1, out, i => match out[i]? with
    | none => out
    | some x => bfsGo list f (bfsStep list x out) (i + 1)
/-- the points to which x leads, in the order in which they are met -/
def bfs (list : List (List Int)) (n : Nat) (x : Int) : List Int := bfsGo list (n + 1) [x] 0
theorem bfsStep_snoc (list : List (List Int)) (p : List Int) (x : Int) (out : List Int) : bfsStep (list ++ [p]) x out = if at' p x ∈ bfsStep list x out then bfsStep list x out else bfsStep list x out ++ [at' p x] := by
  unfold bfsStep
  rw [List.foldl_append]
  rfl
theorem bfsGo_stop {list : List (List Int)} {f i : Nat} {out : List Int} (h : out.length ≤ i) : bfsGo list f out i = out := by
  cases f with
  | zero => rfl
  | succ f => simp [bfsGo, List.getElem?_eq_none h]
theorem bfsGo_step {list : List (List Int)} {f i : Nat} {out : List Int} {x : Int} (h : out[i]? = some x) : bfsGo list (f + 1) out i = bfsGo list f (bfsStep list x out) (i + 1) := by
  simp [bfsGo, h]
/-- what holds of the points met so far -/
structure Met (list : List (List Int)) (n : Nat) (x : Int) (out : List Int) : Prop where
  nd : out.Nodup
  rng : ∀ y ∈ out, 0 ≤ y ∧ y < n
  rch : ∀ y ∈ out, Rch list x y
  start : x ∈ out
theorem Met.len {list : List (List Int)} {n : Nat} {x : Int} {out : List Int} (h : Met list n x out) : out.length ≤ n := by
  have := nodup_sub_len out ((List.range n).map Int.ofNat) h.nd (fun a ha => mem_ints.2 (h.rng a ha))
  simpa using this
theorem Met.add {list : List (List Int)} {n : Nat} {x y : Int} {p : List Int} {out : List Int} (hs : SysOf list n) (h : Met list n x out) (hy : y ∈ out) (hp : p ∈ list) (hn : at' p y ∉ out) : Met list n x (out ++ [at' p y]) := by
  have hr := h.rng y hy
  refine ⟨?_, fun z hz => ?_, fun z hz => ?_, by simp [h.start]⟩
  · rw [List.nodup_append]
    refine ⟨h.nd, by simp, ?_⟩
    intro a ha b hb
    simp at hb
    subst hb
    exact fun e => hn (e ▸ ha)
  · rcases List.mem_append.1 hz with hz | hz
    · exact h.rng z hz
    · simp at hz; subst hz; exact at'_rng (hs p hp).1 (hs p hp).2.2 hr.1 hr.2
  · rcases List.mem_append.1 hz with hz | hz
    · exact h.rch z hz
    · simp at hz; subst hz; exact (h.rch y hy).step hp
theorem bfsStep_spec {list : List (List Int)} {n : Nat} {x y : Int} (hs : SysOf list n) : ∀ (ps : List (List Int)) (out : List Int), (∀ p ∈ ps, p ∈ list) → Met list n x out → y ∈ out →
    Met list n x (bfsStep ps y out) ∧ (∀ p ∈ ps, at' p y ∈ bfsStep ps y out) ∧ (∃ t, bfsStep ps y out = out ++ t) := by
  intro ps
  induction ps with
  | nil => intro out _ h _; exact ⟨h, by simp, [], by simp [bfsStep]⟩
  | cons p t ih =>
    intro out hps h hy
    unfold bfsStep
    rw [List.foldl_cons]
    by_cases hm : at' p y ∈ out
    · rw [if_pos hm]
      obtain ⟨h1, h2, r, h3⟩ := ih out (fun q hq => hps q (by simp [hq])) h hy
      refine ⟨h1, fun q hq => ?_, r, h3⟩
      rcases List.mem_cons.1 hq with rfl | hq
      · show at' q y ∈ bfsStep t y out; rw [h3]; exact List.mem_append_left _ hm
      · exact h2 q hq
    · rw [if_neg hm]
      obtain ⟨h1, h2, r, h3⟩ := ih (out ++ [at' p y]) (fun q hq => hps q (by simp [hq])) (h.add hs hy (hps p (by simp)) hm) (by simp [hy])
      refine ⟨h1, fun q hq => ?_, [at' p y] ++ r, ?_⟩
      · rcases List.mem_cons.1 hq with rfl | hq
        · show at' q y ∈ bfsStep t y (out ++ [at' q y]); rw [h3]; simp
        · exact h2 q hq
      · show bfsStep t y (out ++ [at' p y]) = _; rw [h3]; simp
theorem bfsGo_spec {list : List (List Int)} {n : Nat} {x : Int} (hs : SysOf list n) : ∀ (f : Nat) (out : List Int) (i : Nat), Met list n x out → (∀ j y, j < i → out[j]? = some y → ∀ p ∈ list, at' p y ∈ out) → n < f + i →
    Met list n x (bfsGo list f out i) ∧ ∀ y ∈ bfsGo list f out i, ∀ p ∈ list, at' p y ∈ bfsGo list f out i := by
  intro f
  induction f with
  | zero =>
    intro out i h hc hf
    have := h.len
    refine ⟨h, fun y hy p hp => ?_⟩
    obtain ⟨j, hj⟩ := List.mem_iff_getElem?.1 (show y ∈ out from hy)
    exact hc j y (by have := (List.getElem?_eq_some_iff.1 hj).1; omega) hj p hp
  | succ f ih =>
    intro out i h hc hf
    cases hx : out[i]? with
    | none =>
      rw [bfsGo_stop (List.getElem?_eq_none_iff.1 hx)]
      refine ⟨h, fun y hy p hp => ?_⟩
      obtain ⟨j, hj⟩ := List.mem_iff_getElem?.1 hy
      exact hc j y (by have := (List.getElem?_eq_some_iff.1 hj).1; have := List.getElem?_eq_none_iff.1 hx; omega) hj p hp
    | some y =>
      rw [bfsGo_step hx]
      have hy := mem_of_get? hx
      obtain ⟨h1, h2, r, h3⟩ := bfsStep_spec (x := x) hs list out (fun _ h => h) h hy
      refine ih _ _ h1 ?_ (by omega)
      intro j z hj hz p hp
      by_cases e : j = i
      · subst e
        rw [h3, List.getElem?_append_left (List.getElem?_eq_some_iff.1 hx).1, hx] at hz
        have e := Option.some.inj hz
        subst e
        exact h2 p hp
      · have hlt : j < out.length := by have := (List.getElem?_eq_some_iff.1 hx).1; omega
        rw [h3, List.getElem?_append_left hlt] at hz
        rw [h3]
        exact List.mem_append_left _ (hc j z (by omega) hz p hp)
theorem Met.one {list : List (List Int)} {n : Nat} {x : Int} (h0 : 0 ≤ x) (h1 : x < n) : Met list n x [x] :=
  ⟨by simp, by simpa using ⟨h0, h1⟩, by simpa using Rch.refl, by simp⟩
theorem bfs_met {list : List (List Int)} {n : Nat} {x : Int} (hs : SysOf list n) (h0 : 0 ≤ x) (h1 : x < n) : Met list n x (bfs list n x) :=
  (bfsGo_spec hs (n + 1) [x] 0 (Met.one h0 h1) (fun j y hj => absurd hj (by omega)) (by omega)).1
theorem bfs_mem {list : List (List Int)} {n : Nat} {x y : Int} (hs : SysOf list n) (h0 : 0 ≤ x) (h1 : x < n) : y ∈ bfs list n x ↔ Rch list x y := by
  have hm := bfs_met hs h0 h1
  refine ⟨hm.rch y, fun h => ?_⟩
  induction h with
  | refl => exact hm.start
  | step _ hp ih => exact (bfsGo_spec hs (n + 1) [x] 0 (Met.one h0 h1) (fun j y hj => absurd hj (by omega)) (by omega)).2 _ ih _ hp
/-! ### least points -/
open Classical

/-- j is the least point of its orbit -/
noncomputable def rootB (list : List (List Int)) (j : Nat) : Bool := decide (∀ i : Nat, i < j → ¬ Rch list i j)
noncomputable def cntR (list : List (List Int)) (i : Nat) : Nat := ((List.range i).filter (rootB list)).length
noncomputable def rootOf (list : List (List Int)) (x : Nat) : Nat := ((List.range (x + 1)).find? fun (i : Nat) => decide (Rch list i x)).getD x
noncomputable def labOf (list : List (List Int)) (x : Nat) : Int := cntR list (rootOf list x)
noncomputable def labL (list : List (List Int)) (n : Nat) : List Int := (List.range n).map fun x => labOf list x
theorem labL_length (list : List (List Int)) (n : Nat) : (labL list n).length = n := by simp [labL]
theorem labL_get {list : List (List Int)} {n x : Nat} (h : x < n) : (labL list n)[x]? = some (labOf list x) := by simp [labL, h]
/-- reached from a point before i -/
def Old (list : List (List Int)) (i : Nat) (x : Int) : Prop := ∃ j : Nat, j < i ∧ Rch list j x
theorem cntR_succ (list : List (List Int)) (i : Nat) : cntR list (i + 1) = cntR list i + (if rootB list i = true then 1 else 0) := by
  unfold cntR
  rw [List.range_succ, List.filter_append]
  by_cases h : rootB list i = true <;> simp [h]
theorem rootOf_spec (list : List (List Int)) (x : Nat) : Rch list (rootOf list x) x ∧ ∀ j : Nat, j < rootOf list x → ¬ Rch list j x := by
  unfold rootOf
  cases hf : (List.range (x + 1)).find? fun (i : Nat) => decide (Rch list i x) with
  | none =>
    have := List.find?_eq_none.1 hf x (by simp)
    simp at this
    exact absurd Rch.refl this
  | some r =>
    simp only [Option.getD_some]
    have h1 := List.find?_some hf
    refine ⟨by simpa using h1, fun j hj hr => ?_⟩
    rw [List.find?_range_eq_some] at hf
    have := hf.2.2 j hj
    simp at this
    exact this hr
theorem rootOf_eq {list : List (List Int)} {x i : Nat} (h : Rch list i x) (hn : ∀ j : Nat, j < i → ¬ Rch list j x) : rootOf list x = i := by
  obtain ⟨h1, h2⟩ := rootOf_spec list x
  rcases Nat.lt_trichotomy (rootOf list x) i with h3 | h3 | h3
  · exact absurd h1 (hn _ h3)
  · exact h3
  · exact absurd h (h2 _ h3)
theorem Old.step {list : List (List Int)} {n i : Nat} {x : Int} (hs : SysOf list n) (hi : i < n) (ho : Old list i i) : Old list (i + 1) x ↔ Old list i x := by
  constructor
  · rintro ⟨j, hj, hr⟩
    by_cases e : j = i
    · subst e
      obtain ⟨j', hj', hr'⟩ := ho
      exact ⟨j', hj', hr'.trans hr⟩
    · exact ⟨j, by omega, hr⟩
  · rintro ⟨j, hj, hr⟩; exact ⟨j, by omega, hr⟩
theorem Old.new {list : List (List Int)} {i : Nat} {x : Int} : Old list (i + 1) x ↔ Old list i x ∨ Rch list i x := by
  constructor
  · rintro ⟨j, hj, hr⟩
    by_cases e : j = i
    · subst e; exact .inr hr
    · exact .inl ⟨j, by omega, hr⟩
  · rintro (⟨j, hj, hr⟩ | hr)
    · exact ⟨j, by omega, hr⟩
    · exact ⟨i, by omega, hr⟩
theorem root_iff {list : List (List Int)} {i : Nat} : rootB list i = true ↔ ¬ Old list i i := by
  unfold rootB Old; simp
/-- the orbit of a root holds no old point -/
theorem not_old {list : List (List Int)} {n i : Nat} {x : Int} (hs : SysOf list n) (hi : i < n) (h : ¬ Old list i i) (hx : Rch list i x) : ¬ Old list i x := by
  rintro ⟨j, hj, hr⟩
  exact h ⟨j, hj, hr.trans (hx.symm hs (by omega) (by omega))⟩
theorem labOf_root {list : List (List Int)} {n i x : Nat} (hs : SysOf list n) (hi : i < n) (h : ¬ Old list i i) (hx : Rch list i x) : labOf list x = cntR list i := by
  unfold labOf
  rw [rootOf_eq hx fun j hj hr => not_old hs hi h hx ⟨j, hj, hr⟩]
theorem labOf_nonneg (list : List (List Int)) (x : Nat) : 0 ≤ labOf list x := by unfold labOf; omega
theorem Old.all {list : List (List Int)} {n : Nat} {x : Nat} (h : x < n) : Old list n x := ⟨x, h, .refl⟩

end Go.Proofs.YtbioelmofceaaaaGreat
/- Voc -/
namespace Go.Proofs.YtbioelmofceaaaaGreat
open Go.RowKit
set_option linter.unusedVariables false
set_option maxRecDepth 100000

/-- From w to w' nothing has turned but blocks from lo on, below hi (and new blocks). -/
structure Chg (lo hi : Nat) (w w' : World) : Prop where
  os : w'.os = w.os
  tape : w'.tape = w.tape
  output : w'.output = w.output
  size : w.heap.size ≤ w'.heap.size
  block : ∀ k, k < w.heap.size → (k < lo ∨ hi ≤ k) → w'.heap[k]? = w.heap[k]?

/-- w' is as w on the blocks from lo on, below hi -/
def Same (lo hi : Nat) (w w' : World) : Prop := ∀ k, lo ≤ k → k < hi → w'.heap[k]? = w.heap[k]?

theorem Same.refl (lo hi : Nat) (w : World) : Same lo hi w w := fun _ _ _ => rfl
theorem Same.trans {lo hi : Nat} {a b c : World} (h : Same lo hi a b) (k : Same lo hi b c) : Same lo hi a c := fun i h1 h2 => (k i h1 h2).trans (h i h1 h2)
theorem Same.mono {lo hi lo' hi' : Nat} {a b : World} (h : Same lo hi a b) (h1 : lo ≤ lo') (h2 : hi' ≤ hi) : Same lo' hi' a b := fun i g1 g2 => h i (by omega) (by omega)
theorem Same.of_below {B lo hi : Nat} {a b : World} (h : Below B a b) (h2 : hi ≤ B) : Same lo hi a b := fun i _ g2 => h.block i (by omega)
theorem Same.of_chg {lo hi lo' hi' : Nat} {a b : World} (h : Chg lo hi a b) (hs : hi' ≤ a.heap.size) (h2 : hi' ≤ lo ∨ hi ≤ lo') : Same lo' hi' a b := fun i g1 g2 => h.block i (by omega) (by omega)

theorem Chg.refl (lo hi : Nat) (w : World) : Chg lo hi w w := ⟨rfl, rfl, rfl, Nat.le_refl _, fun _ _ _ => rfl⟩
theorem Chg.of_below {w w' : World} (lo hi : Nat) (h : Below w.heap.size w w') : Chg lo hi w w' := ⟨h.os, h.tape, h.output, h.size, fun k hk _ => h.block k hk⟩
theorem Chg.below {lo hi B : Nat} {w w' : World} (h : Chg lo hi w w') (hB : B ≤ lo) (hs : B ≤ w.heap.size) : Below B w w' := ⟨h.os, h.tape, h.output, h.size, fun k hk => h.block k (by omega) (by omega)⟩
theorem Chg.trans {lo hi lo' hi' lo'' hi'' : Nat} {a b c : World} (h : Chg lo hi a b) (k : Chg lo' hi' b c) (h1 : lo'' ≤ lo ∧ hi ≤ hi'') (h2 : lo'' ≤ lo' ∧ hi' ≤ hi'') : Chg lo'' hi'' a c :=
  ⟨k.os.trans h.os, k.tape.trans h.tape, k.output.trans h.output, Nat.le_trans h.size k.size, fun i hi g => (k.block i (by have := h.size; omega) (by omega)).trans (h.block i hi (by omega))⟩
theorem Chg.trans_below {lo hi : Nat} {a b c : World} (h : Chg lo hi a b) (k : Below b.heap.size b c) : Chg lo hi a c := h.trans (Chg.of_below lo hi k) ⟨Nat.le_refl _, Nat.le_refl _⟩ ⟨Nat.le_refl _, Nat.le_refl _⟩
theorem Chg.drew {lo hi : Nat} {a w : World} (h : Chg lo hi a w) : Chg lo hi a w.drew := ⟨h.os, h.tape, h.output, h.size, h.block⟩
theorem Chg.alloc {lo hi : Nat} {a w : World} (h : Chg lo hi a w) (o : Obj) : Chg lo hi a (w.alloc o) := h.trans_below ((Below.refl _ _).alloc (Nat.le_refl _) o)
theorem Chg.setCell {lo hi : Nat} {a w : World} (h : Chg lo hi a w) {p : Addr} (h1 : lo ≤ p.block) (h2 : p.block < hi) (u : Value) : Chg lo hi a (w.setCell p u) :=
  ⟨h.os, h.tape, h.output, by have := h.size; simp only [World.size_setCell]; omega, fun k hk g => (Below.heap_setCell _ _ _ _ (by omega)).trans (h.block k hk g)⟩
theorem Chg.of_grown {w w' : World} {row : Option Nat} {lo hi : Nat} (hg : w.grownBy w' row) (h : ∀ k, row = some k → lo ≤ k ∧ k < hi) : Chg lo hi w w' :=
  ⟨hg.os, hg.tape, hg.output, hg.size, fun k hk g => hg.block k hk (fun e => by have := h k e.symm; omega)⟩
theorem below_of_grown {B : Nat} {w w' : World} {row : Option Nat} (hg : w.grownBy w' row) (hB : B ≤ w.heap.size) (hr : ∀ k, row = some k → B ≤ k) : Below B w w' :=
  (Below.refl B w).grown hg hB hr
theorem below_then {B : Nat} {a b c : World} (h : Below B a b) (k : Below b.heap.size b c) (hB : B ≤ b.heap.size) : Below B a c := h.trans (k.mono hB)

/-- the slice '.slice A n c' holds the cells vs, in a block from lo on, below hi -/
def Rd (w : World) (lo hi : Nat) (A : Option Addr) (n : Nat) (vs : List Value) : Prop :=
  vs.length = n ∧ n ≤ 9223372036854775807 ∧ (0 < n → ∃ b o, A = some ⟨b, o, none⟩ ∧ lo ≤ b ∧ b < hi ∧ ∀ k v, vs[k]? = some v → w.cell? ⟨b, o + k, none⟩ = some v)

section
variable {w w' : World} {lo hi lo' hi' n : Nat} {A : Option Addr} {vs : List Value} {xs : List Int}
theorem Rd.nil : Rd w lo hi A 0 [] := ⟨rfl, by omega, fun h => absurd h (by omega)⟩
theorem Rd.keep (h : Rd w lo hi A n vs) (hs : Same lo hi w w') : Rd w' lo hi A n vs := by
  refine ⟨h.1, h.2.1, fun hn => ?_⟩
  obtain ⟨b, o, e, h1, h2, hc⟩ := h.2.2 hn
  exact ⟨b, o, e, h1, h2, fun k v hv => (World.cell?_of_block (w := w) (a := ⟨b, o + k, none⟩) (hs b h1 h2)).trans (hc k v hv)⟩
theorem Rd.more (h : Rd w lo hi A n vs) (h1 : lo' ≤ lo) (h2 : hi ≤ hi') : Rd w lo' hi' A n vs := by
  refine ⟨h.1, h.2.1, fun hn => ?_⟩
  obtain ⟨b, o, e, g1, g2, hc⟩ := h.2.2 hn
  exact ⟨b, o, e, by omega, by omega, hc⟩
theorem Rd.below {B : Nat} (h : Rd w lo hi A n vs) (hb : Below B w w') (hB : hi ≤ B) : Rd w' lo hi A n vs := h.keep (Same.of_below hb hB)
theorem Rd.at_ {k : Nat} (h : Rd w lo hi A n vs) (hk : k < n) : ∃ b o v, A = some ⟨b, o, none⟩ ∧ lo ≤ b ∧ b < hi ∧ vs[k]? = some v ∧ w.cell? ⟨b, o + k, none⟩ = some v := by
  obtain ⟨b, o, e, h1, h2, hc⟩ := h.2.2 (by omega)
  have hl : k < vs.length := by have := h.1; omega
  exact ⟨b, o, vs[k], e, h1, h2, List.getElem?_eq_getElem hl, hc k _ (List.getElem?_eq_getElem hl)⟩

/-- ints -/
def RI (w : World) (lo hi : Nat) (A : Option Addr) (n : Nat) (xs : List Int) : Prop := Rd w lo hi A n (xs.map (Value.int .i64))
theorem RI.nil : RI w lo hi A 0 [] := Rd.nil
theorem RI.len (h : RI w lo hi A n xs) : xs.length = n := by have := h.1; simpa using this
theorem RI.max (h : RI w lo hi A n xs) : n ≤ 9223372036854775807 := h.2.1
theorem RI.keep (h : RI w lo hi A n xs) (hs : Same lo hi w w') : RI w' lo hi A n xs := Rd.keep h hs
theorem RI.more (h : RI w lo hi A n xs) (h1 : lo' ≤ lo) (h2 : hi ≤ hi') : RI w lo' hi' A n xs := Rd.more h h1 h2
theorem RI.below {B : Nat} (h : RI w lo hi A n xs) (hb : Below B w w') (hB : hi ≤ B) : RI w' lo hi A n xs := Rd.below h hb hB
theorem RI.at_ {k : Nat} (h : RI w lo hi A n xs) (hk : k < n) : ∃ b o x, A = some ⟨b, o, none⟩ ∧ lo ≤ b ∧ b < hi ∧ xs[k]? = some x ∧ w.cell? ⟨b, o + k, none⟩ = some (.int .i64 x) := by
  obtain ⟨b, o, v, e, h1, h2, hv, hc⟩ := Rd.at_ h hk
  simp only [List.getElem?_map, Option.map_eq_some_iff] at hv
  obtain ⟨x, hx, rfl⟩ := hv
  exact ⟨b, o, x, e, h1, h2, hx, hc⟩

/-- the cells of a row whose address is known -/
theorem Rd.cell {b o k : Nat} {v : Value} (h : Rd w lo hi (some ⟨b, o, none⟩) n vs) (hv : vs[k]? = some v) : w.cell? ⟨b, o + k, none⟩ = some v := by
  have hk : k < n := by have := (List.getElem?_eq_some_iff.1 hv).1; have := h.1; omega
  obtain ⟨b', o', e, _, _, hc⟩ := h.2.2 (by omega)
  injection e with e; injection e with e1 e2 _; subst e1; subst e2
  exact hc k v hv
theorem RI.cell {b o k : Nat} {x : Int} (h : RI w lo hi (some ⟨b, o, none⟩) n xs) (hv : xs[k]? = some x) : w.cell? ⟨b, o + k, none⟩ = some (.int .i64 x) :=
  Rd.cell h (by simp [hv])

/-- a row of the call's own, in the blocks from lo on, below hi: '.slice A n c' -/
def Own (w : World) (lo hi : Nat) (T : TypeId) (A : Option Addr) (n c : Nat) (vs : List Value) : Prop :=
  w.ownsRow lo T 1 (.slice A n c) n vs ∧ ∀ a, A = some a → a.block < hi
variable {T : TypeId} {c : Nat}
theorem Own.nil : Own w lo hi T none 0 0 [] := ⟨World.ownsRow_nil w lo T 1, fun _ h => by cases h⟩
theorem Own.len (h : Own w lo hi T A n c vs) : vs.length = n := by have := h.1.1; simpa using this
theorem Own.of_row (h : w.ownsRow lo T 1 (.slice A n c) n vs) : Own w lo w.heap.size T A n c vs :=
  ⟨h, fun a e => (h.lt a.block (by simp [Value.ownBlock, e])).2⟩
theorem Own.rd (h : Own w lo hi T A n c vs) : Rd w lo hi A n vs := by
  refine ⟨h.len, ?_, fun hn => ?_⟩
  · rcases h.1.2 with ⟨hv, hn⟩ | ⟨g, cap, cur, hv, hb, hg, hnc, hcm, hcs, htake⟩
    · omega
    · simp only [maxLen] at hcm; omega
  · rcases h.1.2 with ⟨hv, hn⟩ | ⟨g, cap, cur, hv, hb, hg, hnc, hcm, hcs, htake⟩
    · omega
    · injection hv with hA _ _
      refine ⟨g, 0, hA, hb, h.2 _ hA, fun k v hk => ?_⟩
      have := h.1.cells (g := g) (by simp [Value.ownBlock, hA]) k v hk
      simpa [Addr.add_lit] using this
theorem Own.ri (h : Own w lo hi T A n c (xs.map (Value.int .i64))) : RI w lo hi A n xs := h.rd
theorem Own.keep (h : Own w lo hi T A n c vs) (hs : Same lo hi w w') : Own w' lo hi T A n c vs := by
  refine ⟨⟨h.1.1, ?_⟩, h.2⟩
  rcases h.1.2 with hn | ⟨g, cap, cur, hv, hb, hg, rest⟩
  · exact .inl hn
  · refine .inr ⟨g, cap, cur, hv, hb, ?_, rest⟩
    injection hv with hA _ _
    rw [hs g hb (h.2 _ hA)]
    exact hg
theorem Own.below {B : Nat} (h : Own w lo hi T A n c vs) (hb : Below B w w') (hB : hi ≤ B) : Own w' lo hi T A n c vs := h.keep (Same.of_below hb hB)
theorem Own.more (h : Own w lo hi T A n c vs) (h1 : lo' ≤ lo) (h2 : hi ≤ hi') : Own w lo' hi' T A n c vs := by
  refine ⟨⟨h.1.1, ?_⟩, fun a e => by have := h.2 a e; omega⟩
  rcases h.1.2 with hn | ⟨g, cap, cur, hv, hb, hg, rest⟩
  · exact .inl hn
  · exact .inr ⟨g, cap, cur, hv, by omega, hg, rest⟩
theorem Own.at_ {k : Nat} (h : Own w lo hi T A n c vs) (hk : k < n) : ∃ b v, A = some ⟨b, 0, none⟩ ∧ lo ≤ b ∧ b < hi ∧ b < w.heap.size ∧ vs[k]? = some v ∧ (∀ j, w.cell? ⟨b, j, none⟩ = if j < n then vs[j]? else w.cell? ⟨b, j, none⟩) ∧ w.cell? ⟨b, k, none⟩ = some v ∧ ∀ j, w.frozen? ⟨b, j, none⟩ = false := by
  have hl : k < vs.length := by have := h.len; omega
  rcases h.1.2 with ⟨hv, hn⟩ | ⟨g, cap, cur, hv, hb, hg, hnc, hcm, hcs, htake⟩
  · omega
  · have ho := h.1
    injection hv with hA hn hc
    subst hA
    have hcell : ∀ j, j < n → w.cell? ⟨g, j, none⟩ = vs[j]? := fun j hj => ho.cellAt j (by omega)
    refine ⟨g, vs[k], rfl, hb, h.2 _ rfl, (Array.getElem?_eq_some_iff.1 hg).1, List.getElem?_eq_getElem hl, fun j => ?_, ?_, fun j => ho.frozenAt j⟩
    · split
      · exact hcell j ‹_›
      · rfl
    · rw [hcell k hk]; exact List.getElem?_eq_getElem hl
/-- a store into a row of the call's own -/
theorem Own.set {b k : Nat} (h : Own w lo hi T (some ⟨b, 0, none⟩) n c vs) (u : Value) : Own (w.setCell ⟨b, k, none⟩ u) lo hi T (some ⟨b, 0, none⟩) n c (vs.set k u) :=
  ⟨(h.1.stored k u).1, h.2⟩
/-- a store elsewhere -/
theorem Own.far (h : Own w lo hi T A n c vs) {p : Addr} (hp : p.block < lo ∨ hi ≤ p.block) (u : Value) : Own (w.setCell p u) lo hi T A n c vs :=
  h.keep fun k h1 h2 => Below.heap_setCell _ _ _ _ (by omega)
theorem Rd.far (h : Rd w lo hi A n vs) {p : Addr} (hp : p.block < lo ∨ hi ≤ p.block) (u : Value) : Rd (w.setCell p u) lo hi A n vs :=
  h.keep fun k h1 h2 => Below.heap_setCell _ _ _ _ (by omega)
end

theorem quiet_left {P : Program} {f : FuncId} {args : Array Value} {w : World} {n : Nat} {v : Value}
    (h : Calls P f args (w.drewN n) fun e w' => e = .returned v ∧ w.drewN n = w') : Calls P f args (w.drewN n) fun e w'' => e = .returned v ∧ ∃ m, w'' = w.drewN m :=
  h.mono fun _ _ ⟨he, hm⟩ => ⟨he, n, hm.symm⟩
/-- the worlds that are as w was below its heap's size: what pure calls may leave -/
structure Since (w : World) where
  val : World
  ok : Below w.heap.size w val
theorem Since.ne (w : World) : Nonempty (Since w) := ⟨⟨w, Below.refl _ _⟩⟩
/-- a region that draws its order and holds calls that may make memory, their values known: one walk in the order of the text -/
theorem wp_region_since_lit {P : Program} {id : Nat} {Q : Exit → Act → World → Prop} {a : Act} {w : World} {l : List Oper} (hm : P.follows .mixedOrders = true) (hB : Region.lexB .any l.toArray = true)
    (h : wpQuiet P l.toArray (fun w' => ∃ u : Since w, w' = u.val) (fun a' => ∀ w', (∃ u : Since w, w' = u.val) → Q .normal a' w') l a) : (Code.region id l.toArray true).wp P Q a w :=
  wp_region_quiet (C := fun w' => ∃ u : Since w, w' = u.val) hm hB ⟨⟨w.drew, (Below.refl _ _).drew⟩, rfl⟩ (by simpa using h)
/-- a pure call inside such a region -/
theorem since_call {P : Program} {f : FuncId} {args : Array Value} {w : World} {u : Since w} {v : Value} (h : Calls P f args u.val fun e w' => e = .returned v ∧ Below u.val.heap.size u.val w') :
    Calls P f args u.val fun e w' => e = .returned v ∧ ∃ u' : Since w, w' = u'.val :=
  h.mono fun e w' ⟨he, hb⟩ => ⟨he, ⟨w', below_then u.ok hb u.ok.size⟩, rfl⟩
theorem since_call_same {P : Program} {f : FuncId} {args : Array Value} {w : World} {u : Since w} {v : Value} (h : Calls P f args u.val fun e w' => e = .returned v ∧ u.val = w') :
    Calls P f args u.val fun e w' => e = .returned v ∧ ∃ u' : Since w, w' = u'.val :=
  h.mono fun e w' ⟨he, hb⟩ => ⟨he, u, hb.symm⟩
theorem ret_bool {a b : Bool} (h : a = b) : Ending.returned (.bool a) = .returned (.bool b) := by rw [h]
theorem ret_int {k : IntKind} {a b : Int} (h : a = b) : Ending.returned (.int k a) = .returned (.int k b) := by rw [h]
theorem bcell {B : Nat} {W w1 : World} (hb : Below B W w1) : (∀ b o, b < B → w1.cell? ⟨b, o, none⟩ = W.cell? ⟨b, o, none⟩) ∧ (∀ b o, b < B → w1.frozen? ⟨b, o, none⟩ = W.frozen? ⟨b, o, none⟩) :=
  ⟨fun b o h => hb.cell (p := ⟨b, o, none⟩) h, fun b o h => hb.frozen (p := ⟨b, o, none⟩) h⟩
theorem list_ext_upto {α : Type} {xs ys : List α} (k : Nat) (hx : xs.length ≤ k) (hy : ys.length ≤ k) (h : ∀ j, j < k → xs[j]? = ys[j]?) : xs = ys := by
  apply List.ext_getElem?
  intro j
  by_cases hj : j < k
  · exact h j hj
  · rw [List.getElem?_eq_none (by omega), List.getElem?_eq_none (by omega)]
end Go.Proofs.YtbioelmofceaaaaGreat
/- OrbD -/
namespace Go.Proofs.YtbioelmofceaaaaGreat
set_option linter.unusedVariables false
set_option maxRecDepth 100000

/-- the labels when all points before i have been looked at -/
structure OutI (list : List (List Int)) (n i : Nat) (ls : List Int) : Prop where
  len : ls.length = n
  old : ∀ x : Nat, x < n → Old list i x → ls[x]? = some (labOf list x)
  new : ∀ x : Nat, x < n → ¬ Old list i x → ls[x]? = some (-1)
/-- the labels while the orbit of i is being found: 'op' open, at the point x the permutations ps are done -/
structure Dfs (list : List (List Int)) (n i : Nat) (ls op : List Int) (x : Int) (ps : List (List Int)) : Prop where
  len : ls.length = n
  old : ∀ z : Nat, z < n → Old list i z → ls[z]? = some (labOf list z)
  new : ∀ z : Nat, z < n → ¬ Old list i z → ls[z]? = some (-1) ∨ (ls[z]? = some (cntR list i : Int) ∧ Rch list i z)
  start : ls[i]? = some (cntR list i : Int)
  opn : ∀ y ∈ op, Rch list i y
  done : ∀ z : Nat, z < n → ¬ Old list i z → ls[z]? = some (cntR list i : Int) → (z : Int) ∈ op ∨ (∀ p ∈ list, ∃ v : Int, 0 ≤ v ∧ ls[(at' p z).toNat]? = some v) ∨ ((z : Int) = x ∧ ∀ p ∈ ps, ∃ v : Int, 0 ≤ v ∧ ls[(at' p z).toNat]? = some v)
theorem cntR_le (list : List (List Int)) (i : Nat) : cntR list i ≤ i := by
  unfold cntR
  have := List.length_filter_le (rootB list) (List.range i)
  simpa using this
theorem OutI.zero (list : List (List Int)) (n : Nat) : OutI list n 0 (List.replicate n (-1)) :=
  ⟨by simp, fun x _ ⟨j, hj, _⟩ => absurd hj (by omega), fun x hx _ => by simp [hx]⟩
theorem OutI.end_ {list : List (List Int)} {n : Nat} {ls : List Int} (h : OutI list n n ls) : ls = labL list n := by
  apply list_ext_upto n (by rw [h.len]; omega) (by rw [labL_length]; omega)
  intro j hj
  rw [h.old j hj (Old.all hj), labL_get hj]
section
variable {list : List (List Int)} {n i : Nat} {ls op : List Int} {x : Int} {ps : List (List Int)}
theorem OutI.nonneg (h : OutI list n i ls) (hi : i < n) : (0 : Int) ≤ ls.getD i 0 ↔ Old list i i := by
  by_cases ho : Old list i i
  · rw [getD_some (h.old i hi ho)]; simp [ho, labOf_nonneg]
  · rw [getD_some (h.new i hi ho)]; simp [ho]
theorem OutI.skip (hs : SysOf list n) (h : OutI list n i ls) (hi : i < n) (ho : Old list i i) : OutI list n (i + 1) ls ∧ cntR list (i + 1) = cntR list i := by
  refine ⟨⟨h.len, fun x hx hxo => h.old x hx ((Old.step hs hi ho).1 hxo), fun x hx hxo => h.new x hx fun hh => hxo ((Old.step hs hi ho).2 hh)⟩, ?_⟩
  rw [cntR_succ, if_neg]; simp
  exact fun hr => (root_iff.1 hr) ho
theorem OutI.start (h : OutI list n i ls) (hi : i < n) (ho : ¬ Old list i i) : Dfs list n i (ls.set i (cntR list i : Int)) [(i : Int)] i list := by
  have hl := h.len
  refine ⟨by simpa using hl, fun z hz hzo => ?_, fun z hz hzo => ?_, by simp [hl, hi], by simpa using Rch.refl, fun z hz hzo hzl => ?_⟩
  · have : i ≠ z := fun e => ho (e ▸ hzo)
    rw [List.getElem?_set_ne this]; exact h.old z hz hzo
  · by_cases e : i = z
    · subst e; right; exact ⟨by simp [hl, hi], .refl⟩
    · left; rw [List.getElem?_set_ne e]; exact h.new z hz hzo
  · by_cases e : i = z
    · subst e; left; simp
    · rw [List.getElem?_set_ne e, h.new z hz hzo] at hzl
      injection hzl with hzl
      omega
theorem Dfs.pop {y : Int} (h : Dfs list n i ls (op ++ [x]) y list) : Dfs list n i ls op x [] := by
  refine ⟨h.len, h.old, h.new, h.start, fun z hz => h.opn z (by simp [hz]), fun z hz hzo hzl => ?_⟩
  rcases h.done z hz hzo hzl with h1 | h1 | ⟨_, h1⟩
  · rcases List.mem_append.1 h1 with h1 | h1
    · exact .inl h1
    · simp at h1; exact .inr (.inr ⟨h1, by simp⟩)
  · exact .inr (.inl h1)
  · exact .inr (.inl h1)
theorem Dfs.close (h : Dfs list n i ls op x list) (y : Int) : Dfs list n i ls op y list := by
  refine ⟨h.len, h.old, h.new, h.start, h.opn, fun z hz hzo hzl => ?_⟩
  rcases h.done z hz hzo hzl with h1 | h1 | ⟨_, h1⟩
  · exact .inl h1
  · exact .inr (.inl h1)
  · exact .inr (.inl h1)
theorem Dfs.seen {p : List Int} {v : Int} (h : Dfs list n i ls op x ps) (hv : ls[(at' p x).toNat]? = some v) (h0 : 0 ≤ v) : Dfs list n i ls op x (ps ++ [p]) := by
  refine ⟨h.len, h.old, h.new, h.start, h.opn, fun z hz hzo hzl => ?_⟩
  rcases h.done z hz hzo hzl with h1 | h1 | ⟨e, h1⟩
  · exact .inl h1
  · exact .inr (.inl h1)
  · refine .inr (.inr ⟨e, fun q hq => ?_⟩)
    rcases List.mem_append.1 hq with hq | hq
    · exact h1 q hq
    · simp at hq; subst hq; exact ⟨v, h0, by rw [e]; exact hv⟩
theorem Dfs.mark {p : List Int} {v : Int} (hs : SysOf list n) (hi : i < n) (ho : ¬ Old list i i) (h : Dfs list n i ls op x ps) (hp : p ∈ list) (hx : Rch list i x) (hv : ls[(at' p x).toNat]? = some v) (h0 : v < 0) :
    Dfs list n i (ls.set (at' p x).toNat (cntR list i : Int)) (op ++ [at' p x]) x (ps ++ [p]) := by
  have hl := h.len
  have hxr := hx.rng hs (by omega) (by omega)
  have hyr := at'_rng (hs p hp).1 (hs p hp).2.2 hxr.1 hxr.2
  have hry := hx.step hp
  obtain ⟨y, hy⟩ : ∃ y : Nat, at' p x = y := ⟨(at' p x).toNat, by omega⟩
  rw [hy] at hv hry hyr ⊢
  rw [Int.toNat_natCast] at hv ⊢
  have hyn : y < n := by omega
  have hyo : ¬ Old list i y := not_old hs hi ho hry
  have hkeep : ∀ (m : Nat) (u : Int), 0 ≤ u → ls[m]? = some u → (ls.set y (cntR list i : Int))[m]? = some (if y = m then (cntR list i : Int) else u) := by
    intro m u _ hm
    have := (List.getElem?_eq_some_iff.1 hm).1
    split
    · rename_i e; subst e; simp [this]
    · rename_i e; rw [List.getElem?_set_ne e]; exact hm
  have hpos : ∀ m : Nat, (∃ u : Int, 0 ≤ u ∧ ls[m]? = some u) → ∃ u : Int, 0 ≤ u ∧ (ls.set y (cntR list i : Int))[m]? = some u := by
    rintro m ⟨u, hu, hm⟩
    refine ⟨_, ?_, hkeep m u hu hm⟩
    split <;> omega
  refine ⟨by simpa using hl, fun z hz hzo => ?_, fun z hz hzo => ?_, ?_, fun z hz => ?_, fun z hz hzo hzl => ?_⟩
  · have : y ≠ z := fun e => hyo (e ▸ hzo)
    rw [List.getElem?_set_ne this]; exact h.old z hz hzo
  · by_cases e : y = z
    · subst e; right; exact ⟨by simp [hl, hyn], hry⟩
    · rw [List.getElem?_set_ne e]; exact h.new z hz hzo
  · rw [hkeep i _ (by omega) h.start]; split <;> rfl
  · rcases List.mem_append.1 hz with hz | hz
    · exact h.opn z hz
    · simp at hz; subst hz; exact hry
  · by_cases e : y = z
    · subst e; left; simp
    · rw [List.getElem?_set_ne e] at hzl
      rcases h.done z hz hzo hzl with h1 | h1 | ⟨e1, h1⟩
      · left; simp [h1]
      · exact .inr (.inl fun q hq => hpos _ (h1 q hq))
      · refine .inr (.inr ⟨e1, fun q hq => ?_⟩)
        rcases List.mem_append.1 hq with hq | hq
        · exact hpos _ (h1 q hq)
        · simp at hq; subst hq; exact ⟨cntR list i, by omega, by rw [e1, hy, Int.toNat_natCast]; simp [hl, hyn]⟩
theorem Dfs.finish (hs : SysOf list n) (hi : i < n) (ho : ¬ Old list i i) (h : Dfs list n i ls [] x list) : OutI list n (i + 1) ls ∧ cntR list (i + 1) = cntR list i + 1 := by
  have key : ∀ z : Int, Rch list i z → ls[z.toNat]? = some (cntR list i : Int) := by
    intro z hz
    induction hz with
    | refl => rw [Int.toNat_natCast]; exact h.start
    | @step y p hy hp ih =>
      have hyr := hy.rng hs (by omega) (by omega)
      have hzr := at'_rng (hs p hp).1 (hs p hp).2.2 hyr.1 hyr.2
      obtain ⟨y, rfl⟩ : ∃ m : Nat, y = m := ⟨y.toNat, by omega⟩
      rw [Int.toNat_natCast] at ih
      have hcl : ∃ v : Int, 0 ≤ v ∧ ls[(at' p y).toNat]? = some v := by
        rcases h.done y (by omega) (not_old hs hi ho hy) ih with h1 | h1 | ⟨_, h1⟩
        · simp at h1
        · exact h1 p hp
        · exact h1 p hp
      obtain ⟨v, hv, hvl⟩ := hcl
      have hno : ¬ Old list i ((at' p y).toNat : Nat) := by
        rw [Int.toNat_of_nonneg hzr.1]; exact not_old hs hi ho (hy.step hp)
      rcases h.new (at' p y).toNat (by omega) hno with h2 | h2
      · rw [h2] at hvl; injection hvl with hvl; omega
      · exact h2.1
  refine ⟨⟨h.len, fun z hz hzo => ?_, fun z hz hzo => ?_⟩, by rw [cntR_succ, if_pos (root_iff.2 ho)]⟩
  · rcases Old.new.1 hzo with h1 | h1
    · exact h.old z hz h1
    · have := key z h1
      rw [Int.toNat_natCast] at this
      rw [this, labOf_root hs hi ho h1]
  · rcases h.new z hz (fun h1 => hzo (Old.new.2 (.inl h1))) with h1 | h1
    · exact h1
    · exact absurd (Old.new.2 (.inr h1.2)) hzo
end
end Go.Proofs.YtbioelmofceaaaaGreat
/- LawI -/
namespace Go.Proofs.YtbioelmofceaaaaGreat
open Go.RowKit
set_option linter.unusedVariables false
set_option maxRecDepth 100000

theorem infoI : (Tryz.prog.info? 2).map (fun i => (i.zero, i.size, i.bytes)) = some (some (.int .i64 0), 1, 8) := by kernel_rfl
end Go.Proofs.YtbioelmofceaaaaGreat
/- Rep -/
namespace Go.Proofs.YtbioelmofceaaaaGreat
open Go.RowKit
set_option linter.unusedVariables false
set_option maxRecDepth 100000
theorem mask_u64 (n : Nat) (h : n < 4294967296) : bits BinOp.and IntKind.u64 (n : Int) 4294967295 = n := by
  have e := bits_and_u64_nat n 4294967295 (by omega) (by omega)
  have m := Nat.and_two_pow_sub_one_eq_mod n 32
  rw [show (4294967295 : Nat) = 2 ^ 32 - 1 from rfl, m, Nat.mod_eq_of_lt (by omega)] at e
  exact e
theorem own_blk {w : World} {base : Nat} {e : TypeId} {g n : Nat} {vs : List Value} (h : w.ownsRow base e 1 (.slice (some ⟨g, 0, none⟩) n n) n vs) : w.heap[g]? = some (.cells vs.toArray e (0, 0)) := by
  rcases h.2 with ⟨hv, _⟩ | ⟨g', cap, cur, hv, _, hg, _, _, hcs, htake⟩
  · cases hv
  · injection hv with h1 _ h3
    injection h1 with h1
    injection h1 with h1 _ _
    subst h1; subst h3
    rw [List.take_of_length_le (by rw [Array.length_toList, hcs]; exact Nat.le_refl _)] at htake
    rw [hg, ← htake]
theorem blk_own {w : World} {base : Nat} {e : TypeId} {g n : Nat} {vs : List Value} (h : w.heap[g]? = some (.cells vs.toArray e (0, 0))) (hl : vs.length = n) (hb : base ≤ g) (hn : n ≤ maxLen) : w.ownsRow base e 1 (.slice (some ⟨g, 0, none⟩) n n) n vs :=
  ⟨by simpa using hl, .inr ⟨g, n, vs.toArray, rfl, hb, h, Nat.le_refl _, hn, by simpa using hl, by simp only [Nat.mul_one]; exact List.take_of_length_le (by simp [hl])⟩⟩
theorem splice_rep (v : Value) (n k m : Nat) (ys : List Value) (h : ys.take k = List.replicate k v) (hl : ys.length = n) (hkm : k + m ≤ n) : (splice ys k (List.replicate m v)).take (k + m) = List.replicate (k + m) v := by
  unfold splice
  rw [h, ← List.append_assoc, List.replicate_append_replicate, List.take_append_of_le_length (by simp)]
  simp
set_option maxHeartbeats 1000000 in
theorem mul64_one (n : Nat) (w : World) (hn : n ≤ 1048576) :
    Calls Tryz.prog 99 #[.int .u64 1, .int .u64 n] w fun e w' => e = .returned (.tuple #[.int .u64 0, .int .u64 n]) ∧ w = w' := by
  go_enter Tryz.func99, Tryz.ntmps99
  go_wp2_with fail
  go_ret2
  refine ⟨?_, rfl⟩
  have h1 : bits BinOp.and IntKind.u64 1 4294967295 = 1 := mask_u64 1 (by omega)
  have h2 := mask_u64 n (by omega)
  have h3 : bits BinOp.and IntKind.u64 0 4294967295 = 0 := mask_u64 0 (by omega)
  have h4 : (n : Int) % 18446744073709551616 = n := by omega
  have h5 : (n : Int) / 4294967296 = 0 := by omega
  simp [h1, h2, h3, h4, h5, IntKind.wrap_u64]
theorem mul_one (n : Nat) (w : World) (hn : n ≤ 1048576) :
    Calls Tryz.prog 78 #[.int .u64 1, .int .u64 n] w fun e w' => e = .returned (.tuple #[.int .u64 0, .int .u64 n]) ∧ w = w' := by
  go_enter Tryz.func78, Tryz.ntmps78
  go_wp2_with fail
  ((with_reducible refine (mul64_one n _ hn).mono ?_); rintro e w' ⟨rfl, rfl⟩)
  go_wp2_with fail
  go_ret2
  exact ⟨by simp, rfl⟩
set_option maxHeartbeats 1000000 in
theorem repeat_any (A : Option Addr) (c n : Nat) (v : Int) (w : World) {lo hi : Nat} (h : RI w lo hi A 1 [v]) (hhi : hi ≤ w.heap.size) (hn : n ≤ 1048576) :
    Calls Tryz.prog 64 #[.slice A 1 c, .int .i64 n] w fun e w' => ∃ A1, e = .returned (.slice A1 n n) ∧ Own w' w.heap.size w'.heap.size 2 A1 n n ((List.replicate n v).map (Value.int .i64)) ∧ Below w.heap.size w w' := by
  obtain ⟨i0, hi0, hz0, hz1, hz2⟩ := info_parts infoI
  have hsz : (Tryz.prog.info? 2).map (·.size) = some 1 := by rw [hi0]; simp [hz1]
  go_enter Tryz.func64, Tryz.ntmps64
  go_wp2_with fail
  ((with_reducible refine (mul_one n _ hn).mono ?_); rintro e w' ⟨rfl, rfl⟩)
  go_wp2_with (at_make; refine wpList_make_full _ rfl _ _ 35 rfl w.heap.size 2 i0 (.int .i64 0) 1 Tryz.underlying35 hi0 hz0 hz1 _ _ _ _ n rfl rfl rfl rfl ?c1 ?c2 (Nat.le_refl _) ?_)
  case c1 => rw [hz2]; omega
  case c2 => simp only [maxLen]; omega
  intro w1 hown hg
  have hb1 : Below w.heap.size w w1 := below_of_grown hg (Nat.le_refl _) (by simp)
  obtain ⟨zs, hblk, hlen⟩ : ∃ zs : List Value, w1.heap[w.heap.size]? = some (.cells zs.toArray 2 (0, 0)) ∧ zs.length = n := ⟨_, own_blk hown, by have := hown.1; simpa [Value.cells] using this⟩
  obtain ⟨cs, hcs⟩ : ∃ cs : List Value, cs = List.replicate (Nat.min 1 n) (.int .i64 v) := ⟨_, rfl⟩
  have hcl : cs.length = Nat.min 1 n := by rw [hcs]; simp
  replace hcs := Lib.hid hcs
  replace hblk := Lib.hid hblk
  replace hlen := Lib.hid hlen
  have hpos : 0 < cs.length → (some (⟨w.heap.size, 0, none⟩ : Addr)) = some ⟨w.heap.size, 0, none⟩ ∧ ∃ ad, A = some ad ∧ ∀ j u, cs[j]? = some u → w1.cell? (ad.add j) = some u := by
    intro hp
    obtain ⟨b, o, x, rfl, _, _, hx, hc⟩ := (h.below hb1 hhi).at_ (k := 0) (by omega)
    refine ⟨rfl, _, rfl, fun j u hj => ?_⟩
    have hcs := hcs.out
    have hj1 := (List.getElem?_eq_some_iff.1 hj).1
    have hmin : Nat.min 1 n ≤ 1 := Nat.min_le_left 1 n
    have : j = 0 := by omega
    subst this
    rw [hcs] at hj
    have hu : u = .int .i64 v := by exact List.eq_of_mem_replicate (List.mem_of_getElem? hj)
    simp at hx
    subst hx
    rw [hu]
    simpa [Addr.add_lit] using hc
  go_wp2_with (refine wpList_copy_splice rfl (.tmp 31) (.tmp 32) _ _ rfl 2 Tryz.underlying35 hsz _ _ _ _ _ _ rfl rfl w.heap.size 0 zs 2 hblk.out cs hcl hpos (by have := hlen.out; have : Nat.min 1 n ≤ n := Nat.min_le_right 1 n; omega) (by rw [hcs.out]; simp [Value.oneCell']) w.heap.size w hb1 (Nat.le_refl _) ?_)
  intro w2 hblk2 hb2
  clear hpos
  have hk1 : splice zs 0 cs = (splice zs 0 cs) := rfl
  have hs0 : (splice zs 0 cs).length = n := by rw [length_splice _ _ _ (by have := hlen.out; have : Nat.min 1 n ≤ n := Nat.min_le_right 1 n; omega)]; exact hlen.out
  have ht0 : (splice zs 0 cs).take (Nat.min 1 n) = List.replicate (Nat.min 1 n) (.int .i64 v) := by
    have := splice_rep (.int .i64 v) n 0 (Nat.min 1 n) zs (by simp) hlen.out (by have : Nat.min 1 n ≤ n := Nat.min_le_right 1 n; omega)
    rw [hcs.out]
    simpa using this
  generalize splice zs 0 cs = ys0 at hblk2 hs0 ht0
  have hm1 : Nat.min 1 n ≤ 1 := Nat.min_le_left 1 n
  have hm2 : Nat.min 1 n ≤ n := Nat.min_le_right 1 n
  have hm3 : 0 < n → 1 ≤ Nat.min 1 n := fun h => by show 1 ≤ min 1 n; omega
  generalize Nat.min 1 n = k0 at ht0 hm1 hm2 hm3 ⊢
  replace ht0 := Lib.hid ht0
  replace hs0 := Lib.hid hs0
  clear hcl hcs hlen hblk
  go_wp2_with fail
  go_loopw [8] (fun iv wr => ∃ (k : Nat) (ys : List Value), k ≤ n ∧ (0 < n → 1 ≤ k) ∧ iv = .int .i64 k ∧ Hid (ys.length = n) ∧ Hid (ys.take k = List.replicate k (.int .i64 v)) ∧ Hid (wr.heap[w.heap.size]? = some (.cells ys.toArray 2 (0, 0))) ∧ Below w.heap.size w wr) (fun iv wr => n - (intOf iv).toNat)
  case atStart => exact ⟨k0, ys0, hm2, hm3, rfl, hs0, ht0, hblk2, hb2⟩
  case round =>
    obtain ⟨k, ys, hk, hk1, rfl, hyl, hyt, hblk, hb⟩ := hrel
    by_cases hlt : k < n
    · have hk1 := hk1 (by omega)
      obtain ⟨m, hmin, hm1, hm2, hm3⟩ : ∃ m : Nat, m = Nat.min k (n - k) ∧ 1 ≤ m ∧ m ≤ k ∧ k + m ≤ n := by
        refine ⟨_, rfl, ?_, ?_, ?_⟩
        · show 1 ≤ min k (n - k); omega
        · show min k (n - k) ≤ k; omega
        · show k + min k (n - k) ≤ n; omega
      obtain ⟨ds, hds⟩ : ∃ ds : List Value, ds = List.replicate m (.int .i64 v) := ⟨_, rfl⟩
      have hdl : ds.length = Nat.min k (n - k) := by rw [hds]; simpa using hmin
      have hdm : ds.length = m := by rw [hds]; simp
      have hsrc : ∀ j u, ds[j]? = some u → wr.cell? ((⟨w.heap.size, 0, none⟩ : Addr).add j) = some u := by
        intro j u hj
        have hj1 := (List.getElem?_eq_some_iff.1 hj).1
        have e1 : ys[j]? = some (.int .i64 v) := by
          have h1 : (ys.take k)[j]? = some (.int .i64 v) := by rw [hyt.out]; simp [show j < k by omega]
          rwa [List.getElem?_take_of_lt (by omega)] at h1
        have hu : u = .int .i64 v := by rw [hds] at hj; exact List.eq_of_mem_replicate (List.mem_of_getElem? hj)
        rw [hu]
        have := hblk.out
        rw [Addr.add_lit]
        simp [World.cell?, this, e1]
      have hfit : k + ds.length ≤ ys.length := by rw [hdm, hyl.out]; exact hm3
      have hone : ∀ u ∈ ds, u.oneCell' = true := by rw [hds]; simp [Value.oneCell']
      replace hds := Lib.hid hds
      replace hmin := Lib.hid hmin
      have hlt' : k ≤ n := by omega
      have hne : ¬ n = k := by omega
      go_wp2_with fail
      go_region_law (refine step_copy_splice rfl (.tmp 41) (.tmp 44) 35 35 rfl 2 Tryz.underlying35 hsz (some ⟨w.heap.size, k, none⟩) (some ⟨w.heap.size, 0, none⟩) (n - k) (n - k) k n (by simp [Act.eval, Act.put]) (by simp [Act.eval, Act.put]) w.heap.size k ys 2 hblk.out ds hdl (fun _ => ⟨rfl, _, rfl, hsrc⟩) hfit hone w.heap.size w (by first | exact hb | exact hb.drew) (Nat.le_refl _) ?_; intro w4 hg4 hb4)
      have hw : IntKind.i64.wrap ((k : Int) + (Nat.min k (n - k) : Nat)) = ((k + m : Nat) : Int) := by rw [← hmin.out]; simp only [IntKind.wrap_i64]; omega
      simp [Act.put, hw]
      go_roundw
      case rel => exact ⟨.int .i64 ((k : Int) + m), _, _, _, _, _, _, _, _, _, _, _, _, _, ⟨k + m, splice ys k ds, hm3, fun _ => by omega, by simp, Lib.hid (by rw [length_splice _ _ _ hfit]; exact hyl.out), Lib.hid (by rw [hds.out]; exact splice_rep _ n k m ys hyt.out hyl.out hm3), hg4, hb4⟩, rfl⟩
      case measure => simp [intOf]; omega
    · go_wp2_with fail
      go_ret
      have hkn : k = n := by omega
      subst hkn
      refine ⟨_, rfl, ?_, hb⟩
      have hyt := hyt.out
      rw [List.take_of_length_le (by have := hyl.out; omega)] at hyt
      subst hyt
      refine Own.of_row (lo := w.heap.size) (w := wr) ?_
      rw [List.map_replicate]
      exact blk_own hblk.out (by simp) (Nat.le_refl _) (by simp only [maxLen]; omega)
end Go.Proofs.YtbioelmofceaaaaGreat
/- App -/
namespace Go.Proofs.YtbioelmofceaaaaGreat
open Go.RowKit
set_option linter.unusedVariables false
set_option maxRecDepth 100000

section
variable {P : Program}
theorem slice_of_own {w : World} {lo : Nat} {e : TypeId} {v : Value} {n : Nat} {vs : List Value} (h : w.ownsRow lo e 1 v n vs) (hn : 0 < n) : ∃ g cap, v = .slice (some ⟨g, 0, none⟩) n cap ∧ lo ≤ g ∧ g < w.heap.size := by
  rcases h.2 with ⟨hv, h0⟩ | ⟨g, cap, cur, hv, hb, hg, _⟩
  · omega
  · exact ⟨g, cap, hv, hb, (Array.getElem?_eq_some_iff.1 hg).1⟩

/-- 'append(s, x)': the new element has just been laid in a block of its own -/
theorem wpList_append1 (w : World) {ops : Array Oper} {rest : List Oper} {o : Oper} {a : Act} {Q : Exit → Act → World → Prop} (hgd : o.guard = none) (s x : Operand) (t : TypeId)
    (ho : o.op = .call { callee := .builtin .append, args := #[s, x], argTypes := #[t, t] })
    (lo : Nat) (e : TypeId) (i : TypeInfo) (z : Value) (bytes : Nat) (ht : P.underlying t = some (.slice e)) (hi : P.info? e = some i) (hz : i.zero = some z)
    (hsize : i.size = 1) (hby : i.bytes = bytes) (hzs : z.cells.size = 1) (hbs : bytes ≤ 64)
    (A : Option Addr) (n c : Nat) (vs : List Value) (u : Value) (hs : a.eval s = .slice A n c) (hown : w.ownsRow lo e 1 (.slice A n c) n vs)
    (N : Nat) (hx : a.eval x = .slice (some ⟨N, 0, none⟩) 1 1) (hN : N = w.heap.size) (h1 : u.oneCell' = true) (h63 : n < 1099511627776) (hlo : lo ≤ w.heap.size)
    (h : ∀ g c' w', w'.ownsRow lo e 1 (.slice (some ⟨g, 0, none⟩) (n + 1) c') (n + 1) (vs ++ [u]) → w.grownBy w' (Value.slice A n c).ownBlock → lo ≤ g → g < w'.heap.size →
      (A = some ⟨g, 0, none⟩ ∨ w.heap.size ≤ g) → wpList P ops Q rest (a.put o.dst (.slice (some ⟨g, 0, none⟩) (n + 1) c')) w') :
    wpList P ops Q (o :: rest) a (w.alloc (.cells #[u] e)) := by
  subst hN
  refine wpList_plain hgd fun K hK => ?_
  have hnews : ∀ j v, [u][j]? = some v → (w.alloc (.cells #[u] e)).cell? ((⟨w.heap.size, 0, none⟩ : Addr).add j) = some v := by
    intro j v hv
    have : j = 0 := by have := (List.getElem?_eq_some_iff.1 hv).1; simp at this; omega
    subst this
    simp at hv
    subst hv
    simp [Addr.add_lit]
  obtain ⟨v', w', hrun, r1, r2, r3, r4⟩ := run_append_own_at (P := P) (w.alloc (.cells #[u] e)) lo t o.type e i z 1 bytes ht hi hz hsize hby hzs (by omega) (.slice A n c) n vs (hown.alloc _)
    ⟨w.heap.size, 0, none⟩ 1 1 [u] rfl hnews (by simpa using h1) (by simp only [maxLen]; omega) (by have := Nat.mul_le_mul (show n + 1 ≤ 1099511627776 by omega) hbs; omega) (by simp; omega)
  obtain ⟨g, c', rfl, hg1, hg2⟩ := slice_of_own r1 (by omega)
  unfold Oper.wp execOp
  simp only [ho, resolve, invoke, builtin, Sem.run_bind, Sem.run_pure, Result.andThen_ok, List.map_toArray, List.map_cons, List.map_nil, hs, hx, hrun]
  refine hK _ _ (h g c' w' r1 ?_ hg1 hg2 ?_)
  · have ha := World.grownBy_alloc w (.cells #[u] e) (Value.slice A n c).ownBlock
    exact ⟨r2.os.trans ha.os, r2.tape.trans ha.tape, r2.output.trans ha.output, Nat.le_trans ha.size r2.size, fun k hk hne => (r2.block k (by simp; omega) hne).trans (ha.block k hk hne)⟩
  · rcases r4 with r4 | r4
    · left
      rcases A with _ | ad
      · simp [Value.ownBlock] at r4
      · have hn : ad = ⟨g, 0, none⟩ := by
          rcases hown.2 with ⟨hv, _⟩ | ⟨g', cap', cur', hv, _⟩
          · cases hv
          · injection hv with hv _ _
            simp [Value.ownBlock] at r4
            injection hv with hv
            subst hv
            simp at r4
            subst r4
            rfl
        rw [hn]
    · right
      simp [Value.ownBlock] at r4
      omega

/-- a row of the call's own is a slice -/
theorem slice_of_own' {w : World} {lo : Nat} {e : TypeId} {v : Value} {n : Nat} {vs : List Value} (h : w.ownsRow lo e 1 v n vs) : ∃ A c, v = .slice A n c := by
  rcases h.2 with ⟨hv, h0⟩ | ⟨g, cap, cur, hv, hb, hg, _⟩
  · subst h0; exact ⟨none, 0, hv⟩
  · exact ⟨_, cap, hv⟩

/-- 'append(s, xs...)': whole slices -/
theorem wpList_appendL (w : World) {ops : Array Oper} {rest : List Oper} {o : Oper} {a : Act} {Q : Exit → Act → World → Prop} (hgd : o.guard = none) (s x : Operand) (t : TypeId)
    (ho : o.op = .call { callee := .builtin .append, args := #[s, x], argTypes := #[t, t] })
    (lo : Nat) (e : TypeId) (i : TypeInfo) (z : Value) (bytes : Nat) (ht : P.underlying t = some (.slice e)) (hi : P.info? e = some i) (hz : i.zero = some z)
    (hsize : i.size = 1) (hby : i.bytes = bytes) (hzs : z.cells.size = 1) (hbs : bytes ≤ 64)
    (A : Option Addr) (n c : Nat) (vs : List Value) (hs : a.eval s = .slice A n c) (hown : w.ownsRow lo e 1 (.slice A n c) n vs)
    (A' : Option Addr) (m c' : Nat) (us : List Value) (l1 l2 : Nat) (hx : a.eval x = .slice A' m c') (hr : Rd w l1 l2 A' m us) (h1 : ∀ u ∈ us, u.oneCell' = true) (h63 : n + m ≤ 1099511627776) (hlo : lo ≤ w.heap.size)
    (h : ∀ A2 c2 w', w'.ownsRow lo e 1 (.slice A2 (n + m) c2) (n + m) (vs ++ us) → w.grownBy w' (Value.slice A n c).ownBlock →
      ((Value.slice A2 (n + m) c2).ownBlock = (Value.slice A n c).ownBlock ∨ (Value.slice A2 (n + m) c2).ownBlock = some w.heap.size) → wpList P ops Q rest (a.put o.dst (.slice A2 (n + m) c2)) w') :
    wpList P ops Q (o :: rest) a w := by
  have hl : us.length = m := hr.1
  have key : ∃ v' w', (Builtin.append_ #[t, t] o.type #[.slice A n c, .slice A' m c']).run P w = .ok v' w' ∧ w'.ownsRow lo e 1 v' (n + m) (vs ++ us) ∧ w.grownBy w' (Value.slice A n c).ownBlock ∧
      (v'.ownBlock = (Value.slice A n c).ownBlock ∨ v'.ownBlock = some w.heap.size) := by
    have hb : (n + m) * bytes ≤ 140737488355328 := by have := Nat.mul_le_mul h63 hbs; omega
    rcases Nat.eq_zero_or_pos m with h0 | h0
    · subst h0
      have hn : us = [] := List.eq_nil_of_length_eq_zero hl
      subst hn
      rcases A' with _ | ad
      · refine ⟨_, w, ?_, by simpa using hown, World.grownBy.refl w _, .inl rfl⟩
        rcases hown.2 with ⟨hv, hn⟩ | ⟨g, cap, cur, hv, _, _, hnc, _⟩
        · subst hn
          injection hv with h1 _ h3
          subst h1; subst h3
          simp [Builtin.append_, run_underlying ht, sizeOf, typeInfo, hi, Builtin.lenOf, Builtin.firstCells]
        · injection hv with h1 _ h3
          subst h1; subst h3
          simp [Builtin.append_, run_underlying ht, sizeOf, typeInfo, hi, Builtin.lenOf, Builtin.firstCells, hnc, storeCells]
      · obtain ⟨v', w', q1, q2, q3, _, q5⟩ := run_append_own_at (P := P) w lo t o.type e i z 1 bytes ht hi hz hsize hby hzs (by omega) (.slice A n c) n vs hown ad 0 c' [] rfl (by simp) (by simp) (by simp only [maxLen]; omega) hb hlo
        exact ⟨v', w', q1, q2, q3, q5⟩
    · obtain ⟨b, off, rfl, _, _, hc⟩ := hr.2.2 h0
      obtain ⟨v', w', q1, q2, q3, _, q5⟩ := run_append_own_at (P := P) w lo t o.type e i z 1 bytes ht hi hz hsize hby hzs (by omega) (.slice A n c) n vs hown ⟨b, off, none⟩ m c' us (by omega) (fun j u hu => by rw [Addr.add_lit]; exact hc j u hu) h1 (by simp only [maxLen]; omega) hb hlo
      exact ⟨v', w', q1, q2, q3, q5⟩
  obtain ⟨v', w', hrun, r1, r2, r3⟩ := key
  obtain ⟨A2, c2, rfl⟩ := slice_of_own' r1
  refine wpList_plain hgd fun K hK => ?_
  unfold Oper.wp execOp
  simp only [ho, resolve, invoke, builtin, Sem.run_bind, Sem.run_pure, Result.andThen_ok, List.map_toArray, List.map_cons, List.map_nil, hs, hx, hrun]
  exact hK _ _ (h A2 c2 w' r1 r2 r3)
end
end Go.Proofs.YtbioelmofceaaaaGreat
/- Sls -/
namespace Go.Proofs.YtbioelmofceaaaaGreat
open Go.RowKit
set_option linter.unusedVariables false
set_option maxRecDepth 100000

/-- the cells vs are slices that read as the lists xss, each in blocks from lo on, below hi -/
def RowsAt (w : World) (lo hi : Nat) (vs : List Value) (xss : List (List Int)) : Prop :=
  vs.length = xss.length ∧ ∀ (k : Nat) (v : Value) (xs : List Int), vs[k]? = some v → xss[k]? = some xs → ∃ A n c, v = .slice A n c ∧ RI w lo hi A n xs
/-- the slice '.slice A n c' reads as the lists xss -/
def RS (w : World) (lo hi : Nat) (A : Option Addr) (n : Nat) (xss : List (List Int)) : Prop := ∃ vs, Rd w lo hi A n vs ∧ RowsAt w lo hi vs xss

section
variable {w w' : World} {lo hi lo' hi' n : Nat} {A : Option Addr} {vs : List Value} {xss : List (List Int)}
theorem RowsAt.keep (h : RowsAt w lo hi vs xss) (hs : Same lo hi w w') : RowsAt w' lo hi vs xss := by
  refine ⟨h.1, fun k v xs h1 h2 => ?_⟩
  obtain ⟨A, n, c, e, hr⟩ := h.2 k v xs h1 h2
  exact ⟨A, n, c, e, hr.keep hs⟩
theorem RowsAt.more (h : RowsAt w lo hi vs xss) (h1 : lo' ≤ lo) (h2 : hi ≤ hi') : RowsAt w lo' hi' vs xss := by
  refine ⟨h.1, fun k v xs g1 g2 => ?_⟩
  obtain ⟨A, n, c, e, hr⟩ := h.2 k v xs g1 g2
  exact ⟨A, n, c, e, hr.more h1 h2⟩
theorem RS.nil : RS w lo hi A 0 [] := ⟨[], ⟨rfl, by omega, fun h => absurd h (by omega)⟩, rfl, fun k v xs h => by simp at h⟩
theorem RS.keep (h : RS w lo hi A n xss) (hs : Same lo hi w w') : RS w' lo hi A n xss := by
  obtain ⟨vs, h1, h2⟩ := h
  exact ⟨vs, h1.keep hs, h2.keep hs⟩
theorem RS.more (h : RS w lo hi A n xss) (h1 : lo' ≤ lo) (h2 : hi ≤ hi') : RS w lo' hi' A n xss := by
  obtain ⟨vs, g1, g2⟩ := h
  exact ⟨vs, g1.more h1 h2, g2.more h1 h2⟩
theorem RS.below {B : Nat} (h : RS w lo hi A n xss) (hb : Below B w w') (hB : hi ≤ B) : RS w' lo hi A n xss := h.keep (Same.of_below hb hB)
theorem RS.len (h : RS w lo hi A n xss) : xss.length = n := by
  obtain ⟨vs, g1, g2⟩ := h
  have := g1.1; have := g2.1; omega
theorem RS.max (h : RS w lo hi A n xss) : n ≤ 9223372036854775807 := by
  obtain ⟨vs, g1, g2⟩ := h
  exact g1.2.1
theorem RS.at_ {k : Nat} (h : RS w lo hi A n xss) (hk : k < n) : ∃ b o Ak nk ck xs, A = some ⟨b, o, none⟩ ∧ lo ≤ b ∧ b < hi ∧ xss[k]? = some xs ∧ w.cell? ⟨b, o + k, none⟩ = some (.slice Ak nk ck) ∧ RI w lo hi Ak nk xs := by
  have hl := h.len
  obtain ⟨vs, g1, g2⟩ := h
  obtain ⟨b, o, v, e, h1, h2, hv, hc⟩ := g1.at_ hk
  have hx : xss[k]? = some xss[k] := List.getElem?_eq_getElem (by omega)
  obtain ⟨Ak, nk, ck, rfl, hr⟩ := g2.2 k v _ hv hx
  exact ⟨b, o, Ak, nk, ck, _, e, h1, h2, hx, hc, hr⟩

/-- two values that own no block together -/
def Apart (v v' : Value) : Prop := ∀ g, v.ownBlock = some g → v'.ownBlock ≠ some g
/-- the cells vs are slices of the call's own, with the numbers xss -/
def RowsOwn (w : World) (lo hi : Nat) (T : TypeId) (vs : List Value) (xss : List (List Int)) : Prop :=
  vs.length = xss.length ∧ vs.Pairwise Apart ∧ ∀ (k : Nat) (v : Value) (xs : List Int), vs[k]? = some v → xss[k]? = some xs → ∃ A n c, v = .slice A n c ∧ Own w lo hi T A n c (xs.map (Value.int .i64))
variable {T e : TypeId} {v : Value} {m : Nat} {us : List Value} {row : Option Nat}
theorem RowsOwn.nil : RowsOwn w lo hi T [] [] := ⟨rfl, List.Pairwise.nil, fun k v xs h => by simp at h⟩
theorem RowsOwn.keep (h : RowsOwn w lo hi T vs xss) (hs : Same lo hi w w') : RowsOwn w' lo hi T vs xss := by
  refine ⟨h.1, h.2.1, fun k v xs h1 h2 => ?_⟩
  obtain ⟨A, n, c, e, hr⟩ := h.2.2 k v xs h1 h2
  exact ⟨A, n, c, e, hr.keep hs⟩
theorem RowsOwn.more (h : RowsOwn w lo hi T vs xss) (h1 : lo' ≤ lo) (h2 : hi ≤ hi') : RowsOwn w lo' hi' T vs xss := by
  refine ⟨h.1, h.2.1, fun k v xs g1 g2 => ?_⟩
  obtain ⟨A, n, c, e, hr⟩ := h.2.2 k v xs g1 g2
  exact ⟨A, n, c, e, hr.more h1 h2⟩
theorem RowsOwn.at (h : RowsOwn w lo hi T vs xss) : RowsAt w lo hi vs xss := by
  refine ⟨h.1, fun k v xs h1 h2 => ?_⟩
  obtain ⟨A, n, c, e, hr⟩ := h.2.2 k v xs h1 h2
  exact ⟨A, n, c, e, hr.ri⟩
/-- rows of different element types share no block -/
theorem own_apart {base base' : Nat} {e e' : TypeId} {v v' : Value} {n n' : Nat} {xs ys : List Value} (h : w.ownsRow base e 1 v n xs) (h' : w.ownsRow base' e' 1 v' n' ys) (hne : e ≠ e') : ∀ g, v.ownBlock = some g → v'.ownBlock ≠ some g := by
  intro g hg hg'
  rcases h.2 with ⟨rfl, _⟩ | ⟨g1, cap, cur, rfl, _, hh, _⟩
  · simp [Value.ownBlock] at hg
  · rcases h'.2 with ⟨rfl, _⟩ | ⟨g2, cap', cur', rfl, _, hh', _⟩
    · simp [Value.ownBlock] at hg'
    · simp [Value.ownBlock] at hg hg'
      subst hg; subst hg'
      rw [hh] at hh'
      injection hh' with hh'
      injection hh' with _ ht
      exact hne ht
theorem own_kept_ty {base base' : Nat} {e e' : TypeId} {v v' : Value} {n n' : Nat} {xs ys : List Value} (h : w.ownsRow base e 1 v n xs) (h' : w.ownsRow base' e' 1 v' n' ys) (hne : e ≠ e') (hg : w.grownBy w' v'.ownBlock) : w'.ownsRow base e 1 v n xs := by
  refine h.kept hg ?_
  cases hv : v.ownBlock with
  | none => exact .inl rfl
  | some g => exact .inr fun hx => own_apart h h' hne g hv hx.symm
theorem Own.kept_ty {c : Nat} {base' : Nat} {e' : TypeId} {v' : Value} {n' : Nat} {ys : List Value} (h : Own w lo hi T A n c us) (h' : w.ownsRow base' e' 1 v' n' ys) (hne : T ≠ e') (hg : w.grownBy w' v'.ownBlock) : Own w' lo hi T A n c us :=
  ⟨own_kept_ty h.1 h' hne hg, h.2⟩
theorem RowsOwn.kept_ty {base' : Nat} {e' : TypeId} {v' : Value} {n' : Nat} {ys : List Value} (h : RowsOwn w lo hi T vs xss) (h' : w.ownsRow base' e' 1 v' n' ys) (hne : T ≠ e') (hg : w.grownBy w' v'.ownBlock) : RowsOwn w' lo hi T vs xss := by
  refine ⟨h.1, h.2.1, fun k v xs h1 h2 => ?_⟩
  obtain ⟨A, n, c, e, hr⟩ := h.2.2 k v xs h1 h2
  exact ⟨A, n, c, e, hr.kept_ty h' hne hg⟩
theorem RowsOwn.snoc {c : Nat} {xs : List Int} (h : RowsOwn w lo hi T vs xss) (ho : Own w hi hi' T A n c (xs.map (Value.int .i64))) (h1 : lo ≤ hi) (h2 : hi ≤ hi') : RowsOwn w lo hi' T (vs ++ [.slice A n c]) (xss ++ [xs]) := by
  refine ⟨by simp [h.1], ?_, fun k v ys g1 g2 => ?_⟩
  · rw [List.pairwise_append]
    refine ⟨h.2.1, by simp, fun a ha b hb => ?_⟩
    simp at hb
    subst hb
    intro g hg hg'
    obtain ⟨k, hk⟩ := List.mem_iff_getElem?.1 ha
    have hkl : k < xss.length := by have := (List.getElem?_eq_some_iff.1 hk).1; have := h.1; omega
    obtain ⟨A1, n1, c1, rfl, hr⟩ := h.2.2 k a _ hk (List.getElem?_eq_getElem hkl)
    have hlt := hr.2
    have hge := (ho.1.lt g hg').1
    rcases A1 with _ | ad
    · simp [Value.ownBlock] at hg
    · have := hlt ad rfl
      simp [Value.ownBlock] at hg
      omega
  · by_cases hk : k < vs.length
    · rw [List.getElem?_append_left hk] at g1
      rw [List.getElem?_append_left (by have := h.1; omega)] at g2
      obtain ⟨A1, n1, c1, e, hr⟩ := h.2.2 k v ys g1 g2
      exact ⟨A1, n1, c1, e, hr.more (Nat.le_refl _) h2⟩
    · rw [List.getElem?_append_right (by omega)] at g1
      rw [List.getElem?_append_right (by have := h.1; omega)] at g2
      have hk0 : k - vs.length = 0 := by have := (List.getElem?_eq_some_iff.1 g1).1; simp at this; omega
      have hk1 : k - xss.length = 0 := by have := h.1; omega
      rw [hk0] at g1
      rw [hk1] at g2
      simp at g1 g2
      subst g1; subst g2
      exact ⟨A, n, c, rfl, ho.more h1 (Nat.le_refl _)⟩
/-- one row has been written, whatever its numbers are now -/
theorem RowsOwn.upd {i c : Nat} {ys : List Int} (h : RowsOwn w lo hi T vs xss) (hv : vs[i]? = some (.slice A n c)) (ho : Own w' lo hi T A n c (ys.map (Value.int .i64))) (hg : w.grownBy w' (Value.slice A n c).ownBlock) : RowsOwn w' lo hi T vs (xss.set i ys) := by
  refine ⟨by simp [h.1], h.2.1, fun k v xs h1 h2 => ?_⟩
  rw [List.getElem?_set] at h2
  by_cases e : i = k
  · subst e
    have hi : i < xss.length := by have := (List.getElem?_eq_some_iff.1 hv).1; have := h.1; omega
    rw [if_pos rfl, if_pos hi] at h2
    rw [hv] at h1
    have e1 := Option.some.inj h1
    have e2 := Option.some.inj h2
    subst e1; subst e2
    exact ⟨A, n, c, rfl, ho⟩
  · rw [if_neg e] at h2
    obtain ⟨A1, n1, c1, rfl, hr⟩ := h.2.2 k v xs h1 h2
    refine ⟨A1, n1, c1, rfl, ⟨hr.1.kept hg ?_, hr.2⟩⟩
    cases hq : (Value.slice A1 n1 c1).ownBlock with
    | none => exact .inl rfl
    | some g =>
      refine .inr fun hx => ?_
      obtain ⟨hi, hiv⟩ := List.getElem?_eq_some_iff.1 hv
      obtain ⟨hk, hkv⟩ := List.getElem?_eq_some_iff.1 h1
      have hp := List.pairwise_iff_getElem.1 h.2.1
      rcases Nat.lt_or_gt_of_ne e with hlt | hlt
      · have := hp i k hi hk hlt
        rw [hiv, hkv] at this
        exact this g hx.symm hq
      · have := hp k i hk hi hlt
        rw [hiv, hkv] at this
        exact this g hq hx.symm
/-- a slice of slices of the call's own -/
def OwnS (w : World) (lo hi : Nat) (TS T : TypeId) (A : Option Addr) (n c : Nat) (xss : List (List Int)) : Prop := ∃ vs, Own w lo hi TS A n c vs ∧ RowsOwn w lo hi T vs xss
variable {TS : TypeId} {c : Nat}
theorem OwnS.rs (h : OwnS w lo hi TS T A n c xss) : RS w lo hi A n xss := by
  obtain ⟨vs, h1, h2⟩ := h
  exact ⟨vs, h1.rd, h2.at⟩
theorem OwnS.nil : OwnS w lo hi TS T none 0 0 [] := ⟨[], Own.nil, RowsOwn.nil⟩
theorem OwnS.keep (h : OwnS w lo hi TS T A n c xss) (hs : Same lo hi w w') : OwnS w' lo hi TS T A n c xss := by
  obtain ⟨vs, h1, h2⟩ := h
  exact ⟨vs, h1.keep hs, h2.keep hs⟩
theorem OwnS.below {B : Nat} (h : OwnS w lo hi TS T A n c xss) (hb : Below B w w') (hB : hi ≤ B) : OwnS w' lo hi TS T A n c xss := h.keep (Same.of_below hb hB)
theorem OwnS.more (h : OwnS w lo hi TS T A n c xss) (h1 : lo' ≤ lo) (h2 : hi ≤ hi') : OwnS w lo' hi' TS T A n c xss := by
  obtain ⟨vs, g1, g2⟩ := h
  exact ⟨vs, g1.more h1 h2, g2.more h1 h2⟩
theorem OwnS.len (h : OwnS w lo hi TS T A n c xss) : xss.length = n := h.rs.len
end

theorem same_alloc (w : World) (o : Obj) (lo hi : Nat) (h : hi ≤ w.heap.size) : Same lo hi w (w.alloc o) := fun k _ hk => Below.heap_alloc w o k (by omega)
theorem same_set (w : World) (p : Addr) (u : Value) (lo hi : Nat) (h : p.block < lo ∨ hi ≤ p.block) : Same lo hi w (w.setCell p u) := fun k h1 h2 => Below.heap_setCell w p u k (by omega)
theorem same_grown {w w' : World} {row : Option Nat} (hg : w.grownBy w' row) {lo hi : Nat} (h : hi ≤ w.heap.size) (hr : ∀ g, row = some g → g < lo ∨ hi ≤ g) : Same lo hi w w' :=
  fun k h1 h2 => hg.block k (by omega) (fun e => by have := hr k e.symm; omega)
end Go.Proofs.YtbioelmofceaaaaGreat
/- OrbL -/
namespace Go.Proofs.YtbioelmofceaaaaGreat
open Go.RowKit
set_option linter.unusedVariables false
set_option maxRecDepth 100000
section
variable {w : World} {lo hi n c : Nat} {T : TypeId} {A : Option Addr} {xs : List Int}
theorem Own.atI {k : Nat} (h : Own w lo hi T A n c (xs.map (Value.int .i64))) (hk : k < n) : ∃ b x, A = some ⟨b, 0, none⟩ ∧ lo ≤ b ∧ b < hi ∧ b < w.heap.size ∧ xs[k]? = some x ∧ w.cell? ⟨b, k, none⟩ = some (.int .i64 x) ∧ ∀ j, w.frozen? ⟨b, j, none⟩ = false := by
  obtain ⟨b, v, e, h1, h2, h3, h4, _, h6, h7⟩ := h.at_ hk
  simp only [List.getElem?_map, Option.map_eq_some_iff] at h4
  obtain ⟨x, hx, rfl⟩ := h4
  exact ⟨b, x, e, h1, h2, h3, hx, h6, h7⟩
theorem Own.cellI {b k : Nat} {x : Int} (h : Own w lo hi T (some ⟨b, 0, none⟩) n c (xs.map (Value.int .i64))) (hx : xs[k]? = some x) : w.cell? ⟨b, k, none⟩ = some (.int .i64 x) := by
  have := RI.cell h.ri hx
  simpa using this
theorem Own.frz {b : Nat} {vs : List Value} (h : Own w lo hi T (some ⟨b, 0, none⟩) n c vs) (k : Nat) : w.frozen? ⟨b, k, none⟩ = false := h.1.frozenAt k
theorem Own.lenI (h : Own w lo hi T A n c (xs.map (Value.int .i64))) : xs.length = n := by have := h.len; simpa using this
theorem Own.setI {b k : Nat} (h : Own w lo hi T (some ⟨b, 0, none⟩) n c (xs.map (Value.int .i64))) (u : Int) : Own (w.setCell ⟨b, k, none⟩ (.int .i64 u)) lo hi T (some ⟨b, 0, none⟩) n c ((xs.set k u).map (Value.int .i64)) := by
  rw [List.map_set]; exact h.set _
theorem Own.cap {vs : List Value} (h : Own w lo hi T A n c vs) : n ≤ c := by
  rcases h.1.2 with ⟨hv, h0⟩ | ⟨g, cap, cur, hv, hb, hg, hnc, hcm, hcs, htake⟩
  · omega
  · injection hv with _ _ h3
    omega
/-- the last element falls away -/
theorem Own.popI {b : Nat} {x : Int} (h : Own w lo hi T (some ⟨b, 0, none⟩) (n + 1) c ((xs ++ [x]).map (Value.int .i64))) : Own w lo hi T (some ⟨b, 0, none⟩) n c (xs.map (Value.int .i64)) := by
  have hl := h.lenI
  simp at hl
  refine ⟨⟨by simp [hl], ?_⟩, h.2⟩
  rcases h.1.2 with ⟨hv, h0⟩ | ⟨g, cap, cur, hv, hb, hg, hnc, hcm, hcs, htake⟩
  · cases hv
  · injection hv with h1 _ h3
    injection h1 with h1
    injection h1 with h1 _ _
    subst h1; subst h3
    refine .inr ⟨b, c, cur, rfl, hb, hg, by omega, hcm, hcs, ?_⟩
    have e : cur.toList.take (n * 1) = (cur.toList.take ((n + 1) * 1)).take (n * 1) := by rw [List.take_take]; congr 1; omega
    rw [e, htake, List.map_append, List.take_append_of_le_length (by simp [hl]), List.take_of_length_le (by simp [hl])]
theorem ri_lit1 (w : World) (T : TypeId) (v : Int) : RI (w.alloc (.cells #[.int .i64 v] T)) w.heap.size (w.heap.size + 1) (some ⟨w.heap.size, 0, none⟩) 1 [v] := by
  refine ⟨rfl, by omega, fun _ => ⟨w.heap.size, 0, rfl, Nat.le_refl _, by omega, fun k u hk => ?_⟩⟩
  have h0 := (List.getElem?_eq_some_iff.1 hk).1
  simp at h0
  subst h0
  simp at hk
  subst hk
  simp
theorem own_lit1 (w : World) (T : TypeId) (v : Int) {lo : Nat} (hlo : lo ≤ w.heap.size) : Own (w.alloc (.cells #[.int .i64 v] T)) lo (w.heap.size + 1) T (some ⟨w.heap.size, 0, none⟩) 1 1 ([v].map (Value.int .i64)) :=
  ⟨World.ownsRow_lit (e := T) (base := lo) (size := 1) w #[.int .i64 v] 1 hlo (by simp only [maxLen]; omega) rfl, fun a e => by injection e with e; subst e; simp⟩
end
theorem count_app_set {ls : List Int} {y : Nat} {u : Int} (h : ls[y]? = some (-1)) (hu : 0 ≤ u) : (ls.set y u).count (-1) + 1 = ls.count (-1) := count_set_ne h (by omega)
set_option maxHeartbeats 4000000 in
theorem orbitLabels_any (n : Nat) (A : Option Addr) (m c : Nat) (xss : List (List Int)) (w : World) {lo hi : Nat} (h : RS w lo hi A m xss) (hhi : hi ≤ w.heap.size) (hn : n ≤ 400) (hs : SysOf xss n) :
    Calls Tryz.prog 50 #[.int .i64 n, .slice A m c] w fun e w' => ∃ A1, e = .returned (.tuple #[.slice A1 n n, .int .i64 (cntR xss n)]) ∧ Own w' w.heap.size w'.heap.size 2 A1 n n ((labL xss n).map (Value.int .i64)) ∧ Below w.heap.size w w' := by
  obtain ⟨j0, hj0, hy0, hy1, hy2⟩ := info_parts infoI
  have hm := h.max
  have hl := Lib.hid h.len
  replace hs := Lib.hid hs
  go_enter Tryz.func50, Tryz.ntmps50
  go_wp2_with fail
  ((with_reducible refine (repeat_any _ _ n (-1) _ (ri_lit1 w _ _) (by simp) (by omega)).mono ?_); rintro e w1 ⟨A1, rfl, ho1, hb1⟩)
  have hB1 : Below w.heap.size w w1 := ((Below.refl _ _).alloc (Nat.le_refl _) _).trans (hb1.mono (by simp))
  replace ho1 := ho1.more (lo' := w.heap.size) (hi' := w1.heap.size) (by simp) (Nat.le_refl _)
  have hz1 := hB1.size
  clear hb1
  go_wp2_with fail
  go_loopw [7, 18] (fun cv iv wr => ∃ (i : Nat) (ls : List Int), i ≤ n ∧ iv = .int .i64 i ∧ cv = .int .i64 (cntR xss i : Nat) ∧ Hid (OutI xss n i ls) ∧ Own wr w.heap.size w1.heap.size 2 A1 n n (ls.map (Value.int .i64)) ∧ w1.heap.size ≤ wr.heap.size ∧ Below w.heap.size w wr) (fun _ iv _ => n - (intOf iv).toNat)
  case atStart => exact ⟨0, _, by omega, rfl, rfl, Lib.hid (OutI.zero xss n), ho1, Nat.le_refl _, hB1⟩
  case round =>
    obtain ⟨i, ls, hi, rfl, rfl, hout, ho, hz, hb⟩ := hrel
    clear ho1 hB1
    by_cases hlt : i < n
    · obtain ⟨b, x, rfl, hb1, hb2, hb3, hx, hc, hfr⟩ := ho.atI hlt
      have hcle := cntR_le xss i
      by_cases hold : Old xss i i
      · have hx0 : decide ((0 : Int) ≤ x) = true := by
          have := (hout.out.nonneg hlt).2 hold
          rw [getD_some hx] at this; simpa using this
        obtain ⟨k1, k2⟩ := hout.out.skip hs.out hlt hold
        replace k2 := Lib.hid k2
        replace hx := Lib.hid hx
        clear hold
        go_wp2_with fail
        go_roundw
        case measure => simp [intOf]; omega
        case rel => exact ⟨i + 1, ls, by omega, by go_num, by rw [k2.out], Lib.hid k1, ho, hz, hb⟩
      · have hx0 : decide ((0 : Int) ≤ x) = false := by
          have := mt (hout.out.nonneg hlt).1 hold
          rw [getD_some hx] at this; simpa using this
        replace hold := Lib.hid hold
        replace hx := Lib.hid hx
        go_wp2_with fail
        clear hc hfr
        have hset := (ho.setI (b := b) (k := i) (cntR xss i : Int)).keep (same_alloc _ (.cells #[.int .i64 i] 2) _ _ (by simp; omega))
        have hopen := (own_lit1 (wr.setCell ⟨b, i, none⟩ (.int .i64 (cntR xss i : Nat))) 2 (i : Int) (lo := w1.heap.size) (by simp; omega)).more (hi' := ((wr.setCell ⟨b, i, none⟩ (.int .i64 (cntR xss i : Nat))).alloc (.cells #[.int .i64 i] 2)).heap.size) (Nat.le_refl _) (by simp)
        rw [World.size_setCell] at hopen
        have hbA : Below w.heap.size w ((wr.setCell ⟨b, i, none⟩ (.int .i64 (cntR xss i : Nat))).alloc (.cells #[.int .i64 i] 2)) := (hb.setCell (by simp; omega) _).alloc (by simp; omega) _
        clear ho hb
        go_loopg [9] (n + 2) (fun f ov wq => ∃ (ys ls : List Int) (A2 : Option Addr) (c2 : Nat) (x : Int), ov = .slice A2 ys.length c2 ∧ f ≤ n + 2 ∧ Hid (ls.count (-1) + ys.length < f) ∧ Hid (Dfs xss n i ls ys x xss) ∧
            Own wq w.heap.size w1.heap.size 2 (some ⟨b, 0, none⟩) n n (ls.map (Value.int .i64)) ∧ Own wq w1.heap.size wq.heap.size 2 A2 ys.length c2 (ys.map (Value.int .i64)) ∧ w1.heap.size ≤ wq.heap.size ∧ Below w.heap.size w wq)
        case atStart =>
          refine ⟨[(i : Int)], ls.set i (cntR xss i : Int), _, 1, i, rfl, Nat.le_refl _, Lib.hid ?_, Lib.hid (hout.out.start hlt hold.out), hset, hopen, by simp; omega, hbA⟩
          have := List.count_le_length (a := (-1 : Int)) (l := ls.set i (cntR xss i : Int))
          have := hout.out.len
          simp at *
          omega
        case round =>
          clear hset hopen hbA
          obtain ⟨ys, ls, A2, c2, x, rfl, hfn, hcnt, hd, ho, hop, hz, hb⟩ := hrel
          obtain ⟨f, rfl⟩ : ∃ f, gk = f + 1 := ⟨gk - 1, by have := hcnt.out; omega⟩
          have hol := hop.lenI
          rcases List.eq_nil_or_concat ys with rfl | ⟨ys, y, rfl⟩
          · go_wp2_with fail
            go_roundw
            case measure => simp [intOf]; omega
            case rel =>
              obtain ⟨k1, k2⟩ := hd.out.finish hs.out hlt hold.out
              exact ⟨i + 1, ls, by omega, by go_num, by rw [k2]; go_num, Lib.hid k1, ho, hz, hb⟩
          · rw [List.concat_eq_append] at hcnt hop hd hol ⊢
            rw [List.length_append, List.length_singleton] at hcnt hop ⊢
            obtain ⟨g, y', rfl, hg1, hg2, hg3, hy', hgc, hgf⟩ := hop.atI (k := ys.length) (by omega)
            have e : y' = y := by simp at hy'; exact hy'.symm
            subst e
            clear hy'
            have hyr := hd.out.opn y' (by simp)
            have hy01 := hyr.rng hs.out (by omega) (by omega)
            obtain ⟨y, rfl⟩ : ∃ q : Nat, y' = q := ⟨y'.toNat, by omega⟩
            replace hyr := Lib.hid hyr
            have hd2 := Lib.hid hd.out.pop
            have hop2 := hop.popI
            have hcap := hop.cap
            clear hd hop
            have hyl : ys.length ≤ 402 := by have := hcnt.out; omega
            go_wp2_with fail
            obtain ⟨wo, hwo⟩ : ∃ wo : World, wo = wr := ⟨_, rfl⟩
            have hcnt2 : Hid (ls.count (-1) + ys.length < f) := Lib.hid (by have := hcnt.out; omega)
            go_loopw [9, 48] (fun ov kv wq => ∃ (k : Nat) (zs ls : List Int) (A2 : Option Addr) (c2 : Nat), k ≤ m ∧ kv = .int .i64 k ∧ ov = .slice A2 zs.length c2 ∧ zs.length ≤ n + 2 ∧ Hid (ls.count (-1) + zs.length < f) ∧ Hid (Dfs xss n i ls zs y (xss.take k)) ∧
                Own wq w.heap.size w1.heap.size 2 (some ⟨b, 0, none⟩) n n (ls.map (Value.int .i64)) ∧ Own wq w1.heap.size wq.heap.size 2 A2 zs.length c2 (zs.map (Value.int .i64)) ∧ w1.heap.size ≤ wq.heap.size ∧ Below w.heap.size w wq) (fun _ kv _ => m - (intOf kv).toNat)
            case atStart => exact ⟨0, ys, ls, _, c2, by omega, rfl, rfl, by have := hcnt.out; omega, hcnt2, Lib.hid (by simpa using hd2.out), ho, hop2, hz, hb⟩
            case round =>
              clear ho hop2 hz hb hd2 hcnt2 hcnt hgc hgf hwo
              obtain ⟨k, zs, ls, A2, c3, hk, rfl, rfl, hzl, hcnt, hd, ho, hop, hz, hb⟩ := hrel
              by_cases hkm : k < m
              · obtain ⟨bb, oo, Ak, nk, ck, p, rfl, _, _, hp, hpc, hpr⟩ := (h.below hb hhi).at_ hkm
                have hpm := mem_of_get? hp
                obtain ⟨hpr0, hpn, hpl⟩ := hs.out p hpm
                have hnk := hpr.len
                obtain ⟨bp, oq, v, rfl, _, _, hv, hvc⟩ := hpr.at_ (k := y) (by omega)
                have hva : at' p y = v := by unfold at'; rw [Int.toNat_natCast]; exact getD_some hv
                obtain ⟨hv0, hv1⟩ := hpr0 v (mem_of_get? hv)
                have hlen := ho.lenI
                have hlb : ls[v.toNat]? = some (ls.getD v.toNat 0) := get?_getD 0 (by omega)
                have hlc := ho.cellI hlb
                have hfr := ho.frz v.toNat
                have htk := take_succ_of hp
                have hynk : y < nk := by omega
                have hxy := hyr.out
                generalize hu : ls.getD v.toNat 0 = u at hlb hlc
                clear hu
                by_cases hneg : u < 0
                · have hvo : ¬ Old xss i (v.toNat : Nat) := by
                    rw [Int.toNat_of_nonneg hv0, ← hva]; exact not_old hs.out hlt hold.out (hxy.step hpm)
                  have hu1 : u = -1 := by
                    rcases hd.out.new v.toNat (by omega) hvo with h1 | h1
                    · rw [h1] at hlb; exact (Option.some.inj hlb).symm
                    · rw [h1.1] at hlb; have := Option.some.inj hlb; omega
                  subst hu1
                  have hmk := hd.out.mark hs.out hlt hold.out hpm hxy (by rw [hva]; exact hlb) hneg
                  rw [hva, ← htk] at hmk
                  replace hmk := Lib.hid hmk
                  have hcs := count_app_set hlb (show (0 : Int) ≤ (cntR xss i : Nat) by omega)
                  replace hcs := Lib.hid hcs
                  replace hlb := Lib.hid hlb
                  replace hv := Lib.hid hv
                  replace hp := Lib.hid hp
                  replace htk := Lib.hid htk
                  replace hva := Lib.hid hva
                  replace hpr0 := Lib.hid hpr0
                  replace hpl := Lib.hid hpl
                  clear hneg hvo
                  have hop' := hop.far (p := ⟨b, v.toNat, none⟩) (.inl hb2) (.int .i64 (cntR xss i : Nat))
                  have hss : (wr.setCell ⟨b, v.toNat, none⟩ (.int .i64 (cntR xss i : Nat))).heap.size = wr.heap.size := World.size_setCell _ _ _
                  replace hss := Lib.hid hss
                  go_wp2_with (at_builtin; refine wpList_append1 (wr.setCell ⟨b, v.toNat, none⟩ (.int .i64 (cntR xss i : Nat))) rfl (.tmp 65) (.tmp 67) 35 rfl w1.heap.size 2 j0 (.int .i64 0) 8 Tryz.underlying35 hj0 hy0 hy1 hy2 rfl (by omega) A2 zs.length c3 _ (.int .i64 v) rfl hop'.1 _ rfl (World.size_setCell _ _ _).symm rfl (by omega) (by rw [hss.out]; exact hz) ?_)
                  intro g4 c4 w2 ho2 hg2 hlo2 hlt2 hor2
                  have hown : ∀ q, some q = (Value.slice A2 zs.length c3).ownBlock → w1.heap.size ≤ q := fun q hq => (hop.1.lt q hq.symm).1
                  have hb4 : Below w.heap.size w w2 := (hb.setCell (p := ⟨b, v.toNat, none⟩) hb1 (.int .i64 (cntR xss i : Nat))).grown hg2 (by rw [hss.out]; omega) (fun q hq => by have := hown q hq.symm; omega)
                  have ho4 := (ho.setI (b := b) (k := v.toNat) (cntR xss i : Int)).keep (same_grown hg2 (lo := w.heap.size) (hi := w1.heap.size) (by rw [hss.out]; omega) (fun q hq => .inr (hown q hq.symm)))
                  have hz4 : w1.heap.size ≤ w2.heap.size := by have := hg2.size; have := hss.out; omega
                  have hop4 := Own.of_row ho2
                  clear ho hop hop' hb hpc hvc hlc hfr hpr hown ho2 hg2
                  go_wp2_with fail
                  go_roundw
                  case measure => simp [intOf]; omega
                  case rel =>
                    refine ⟨k + 1, zs ++ [v], ls.set v.toNat (cntR xss i : Int), _, c4, by omega, by go_num, by rw [List.length_append]; rfl, ?_, Lib.hid ?_, hmk, ho4, by simpa using hop4, hz4, hb4⟩
                    · have := hcnt.out; have := hcs.out; simp; omega
                    · have := hcnt.out; have := hcs.out; simp; omega
                · have hsn := hd.out.seen (p := p) (by rw [hva]; exact hlb) (by omega)
                  rw [← htk] at hsn
                  replace hsn := Lib.hid hsn
                  replace hlb := Lib.hid hlb
                  replace hv := Lib.hid hv
                  replace hp := Lib.hid hp
                  replace htk := Lib.hid htk
                  replace hva := Lib.hid hva
                  replace hpr0 := Lib.hid hpr0
                  replace hpl := Lib.hid hpl
                  have hn0 : decide (u < 0) = false := by simpa using hneg
                  go_wp2_with fail
                  go_roundw
                  case measure => simp [intOf]; omega
                  case rel => exact ⟨k + 1, zs, ls, A2, c3, by omega, by go_num, rfl, hzl, hcnt, hsn, ho, hop, hz, hb⟩
              · have hkm' : k = m := by omega
                subst hkm'
                go_wp2_with fail
                go_roundg f
                case measure => omega
                case rel => exact ⟨zs, ls, A2, c3, y, rfl, by omega, hcnt, Lib.hid (by have := hd.out; rwa [List.take_of_length_le (by have := hl.out; omega)] at this), ho, hop, hz, hb⟩
    · go_wp2_with fail
      go_ret2
      have hin : i = n := by omega
      subst hin
      refine ⟨A1, rfl, ?_, hb⟩
      rw [← hout.out.end_]
      exact ho.more (Nat.le_refl _) hz
end Go.Proofs.YtbioelmofceaaaaGreat
/- Perm -/
namespace Go.Proofs.YtbioelmofceaaaaGreat
open Go.RowKit
set_option linter.unusedVariables false
set_option maxRecDepth 100000

theorem infoB : (Tryz.prog.info? 4).map (fun i => (i.zero, i.size, i.bytes)) = some (some (.bool false), 1, 1) := by kernel_rfl

theorem within_any (n lo hi : Int) (w : World) :
    Calls Tryz.prog 47 #[.int .i64 n, .int .i64 lo, .int .i64 hi] w fun e w' => e = .returned (.bool (decide (lo ≤ n) && decide (n ≤ hi))) ∧ w = w' := by
  by_cases h1 : lo ≤ n
  · go_enter Tryz.func47, Tryz.ntmps47
    go_wp2
    go_ret
    exact ⟨by simp [h1], rfl⟩
  · go_enter Tryz.func47, Tryz.ntmps47
    go_wp2
    go_ret
    refine ⟨?_, rfl⟩
    rw [decide_eq_false (show ¬ lo ≤ n from by omega)]
    rfl
theorem in_any (n lo hi : Int) (w : World) :
    Calls Tryz.prog 71 #[.int .i64 n, .int .i64 lo, .int .i64 hi] w fun e w' => e = .returned (.bool (decide (lo ≤ n) && decide (n ≤ hi))) ∧ w = w' := by
  by_cases h1 : lo ≤ n
  · go_enter Tryz.func71, Tryz.ntmps71
    go_wp2
    go_ret
    exact ⟨by simp [h1], rfl⟩
  · go_enter Tryz.func71, Tryz.ntmps71
    go_wp2
    go_ret
    refine ⟨?_, rfl⟩
    rw [decide_eq_false (show ¬ lo ≤ n from by omega)]
    rfl
theorem sizeI_any (A : Option Addr) (n c : Nat) (w : World) (hn : n ≤ 9223372036854775807) :
    Calls Tryz.prog 31 #[.slice A n c] w fun e w' => e = .returned (.int .i64 n) ∧ w = w' := by
  go_enter Tryz.func31, Tryz.ntmps31
  go_wp2
  go_ret
  exact ⟨rfl, rfl⟩
set_option maxHeartbeats 400000 in
theorem isPerm_any (A : Option Addr) (n c : Nat) (xs : List Int) (w : World) (lo hi : Nat) (h : RI w lo hi A n xs) (hhi : hi ≤ w.heap.size) :
    Calls Tryz.prog 30 #[.slice A n c] w fun e w' => e = .returned (.bool (isPermB xs)) ∧ Below w.heap.size w w' := by
  obtain ⟨i0, hi0, hz0, hz1, hz2⟩ := info_parts infoB
  have hm := h.max
  have hl := Lib.hid h.len
  by_cases h4 : n ≤ 400
  · have h4d : decide ((400 : Int) < (n : Int)) = false := by simp; omega
    go_enter Tryz.func30, Tryz.ntmps30
    go_wp2_with (at_make; refine wpList_make_full _ rfl _ _ 80 rfl w.heap.size 4 i0 (.bool false) 1 Tryz.underlying80 hi0 hz0 hz1 _ _ _ _ n rfl rfl rfl rfl ?c1 ?c2 (Nat.le_refl _) ?_)
    case c1 => rw [hz2]; omega
    case c2 => simp only [maxLen]; omega
    intro w1 hown hg
    have hb1 : Below w.heap.size w w1 := below_of_grown hg (Nat.le_refl _) (by simp)
    go_wp2_with fail
    go_loopw [14] (fun i wr => ∃ (k : Nat) (bs : List Bool), k ≤ n ∧ i = .int .i64 k ∧ (∀ y : Int, 0 ≤ y → y < n → bs[y.toNat]? = some (decide (y ∈ xs.take k))) ∧ (∀ y ∈ xs.take k, 0 ≤ y ∧ y < n) ∧ (xs.take k).Nodup ∧ wr.ownsRow w.heap.size 4 1 (.slice (some ⟨w.heap.size, 0, none⟩) n n) n (bs.map Value.bool) ∧ Below w.heap.size w wr) (fun i wr => n - (intOf i).toNat)
    case atStart =>
      refine ⟨0, List.replicate n false, by omega, rfl, fun y h0 h1 => ?_, by simp, by simp, ?_, hb1⟩
      · rw [List.getElem?_replicate, if_pos (by omega)]; simp
      · simpa [toList_madeCells_one, Value.cells] using hown
    case round =>
      obtain ⟨k, bs, hk, rfl, hbs, hrg, hnd, ho, hb⟩ := hrel
      replace hbs := Lib.hid hbs
      replace hrg := Lib.hid hrg
      replace hnd := Lib.hid hnd
      by_cases hlt : k < n
      · obtain ⟨b, o, x, rfl, _, _, hx, hc⟩ := (h.below hb hhi).at_ hlt
        replace hx := Lib.hid hx
        by_cases hr : 0 ≤ x ∧ x < n
        · obtain ⟨hx0, hx1⟩ := hr
          have hbx := hbs.out x hx0 hx1
          replace hbx := Lib.hid hbx
          have hcb : wr.cell? ⟨w.heap.size, x.toNat, none⟩ = some (.bool (decide (x ∈ xs.take k))) := by
            rw [ho.cellAt x.toNat (by omega), List.getElem?_map, hbx.out]; rfl
          have hw1 : (decide ((0 : Int) ≤ x) && decide (x ≤ (n : Int) - 1)) = true := by simp; omega
          have hfr := ho.frozenAt x.toNat
          by_cases hmem : x ∈ xs.take k
          · rw [decide_eq_true hmem] at hcb
            go_wp2_with (first | (go_at_call 31; refine (sizeI_any _ _ _ _ (by omega)).mono ?_; rintro e w' ⟨rfl, rfl⟩) | (go_at_call 47; refine (within_any _ _ _ _).mono ?_; rintro e w' ⟨rfl, rfl⟩))
            go_ret
            exact ⟨ret_bool (perm_dup hx.out hmem).symm, hb⟩
          · rw [decide_eq_false hmem] at hcb
            go_wp2_with (first | (go_at_call 31; refine (sizeI_any _ _ _ _ (by omega)).mono ?_; rintro e w' ⟨rfl, rfl⟩) | (go_at_call 47; refine (within_any _ _ _ _).mono ?_; rintro e w' ⟨rfl, rfl⟩))
            go_roundw
            case rel =>
              refine ⟨k + 1, bs.set x.toNat true, by omega, by go_num, fun y h0 h1 => ?_, ?_, nodup_take_succ hx.out hnd.out hmem, ?_, hb.setCell (by simp) _⟩
              · have hbl : bs.length = n := by have := ho.1; simpa using this
                rw [List.getElem?_set, take_succ_of hx.out]
                by_cases e : x = y
                · subst e; simp; omega
                · rw [if_neg (by omega), hbs.out y h0 h1]
                  have e' : y ≠ x := fun h => e h.symm
                  simp [e']
              · intro y hy
                rw [take_succ_of hx.out] at hy
                rcases List.mem_append.1 hy with hy | hy
                · exact hrg.out y hy
                · simp at hy; subst hy; exact ⟨hx0, hx1⟩
              · rw [List.map_set]; exact (ho.stored x.toNat (.bool true)).1
            case measure => simp [intOf]; omega
        · have hw1 : (decide ((0 : Int) ≤ x) && decide (x ≤ (n : Int) - 1)) = false := by simp; omega
          go_wp2_with (first | (go_at_call 31; refine (sizeI_any _ _ _ _ (by omega)).mono ?_; rintro e w' ⟨rfl, rfl⟩) | (go_at_call 47; refine (within_any _ _ _ _).mono ?_; rintro e w' ⟨rfl, rfl⟩))
          go_ret
          exact ⟨ret_bool (perm_out hl.out hx.out hr).symm, hb⟩
      · go_wp2_with fail
        go_ret
        have hkn : k = n := by omega
        subst hkn
        exact ⟨ret_bool (perm_all hl.out h4 hrg.out hnd.out).symm, hb⟩
  · go_enter Tryz.func30, Tryz.ntmps30
    go_wp2
    go_ret
    refine ⟨ret_bool ?_, Below.refl _ _⟩
    rw [isPermB_false]
    rintro ⟨h, _⟩
    have := hl.out
    omega
set_option maxHeartbeats 400000 in
theorem l01Perm_any (A : Option Addr) (n c : Nat) (xs : List Int) (w : World) (lo hi : Nat) (h : RI w lo hi A n xs) (hhi : hi ≤ w.heap.size) :
    Calls Tryz.prog 52 #[.slice A n c] w fun e w' => e = .returned (.bool (isPermB xs)) ∧ Below w.heap.size w w' := by
  obtain ⟨i0, hi0, hz0, hz1, hz2⟩ := info_parts infoB
  have hm := h.max
  have hl := Lib.hid h.len
  by_cases h4 : n ≤ 400
  · have h4d : decide ((400 : Int) < (n : Int)) = false := by simp; omega
    go_enter Tryz.func52, Tryz.ntmps52
    go_wp2_with (at_make; refine wpList_make_full _ rfl _ _ 80 rfl w.heap.size 4 i0 (.bool false) 1 Tryz.underlying80 hi0 hz0 hz1 _ _ _ _ n rfl rfl rfl rfl ?c1 ?c2 (Nat.le_refl _) ?_)
    case c1 => rw [hz2]; omega
    case c2 => simp only [maxLen]; omega
    intro w1 hown hg
    have hb1 : Below w.heap.size w w1 := below_of_grown hg (Nat.le_refl _) (by simp)
    go_wp2_with fail
    go_loopw [4] (fun i wr => ∃ (k : Nat) (bs : List Bool), k ≤ n ∧ i = .int .i64 k ∧ (∀ y : Int, 0 ≤ y → y < n → bs[y.toNat]? = some (decide (y ∈ xs.take k))) ∧ (∀ y ∈ xs.take k, 0 ≤ y ∧ y < n) ∧ (xs.take k).Nodup ∧ wr.ownsRow w.heap.size 4 1 (.slice (some ⟨w.heap.size, 0, none⟩) n n) n (bs.map Value.bool) ∧ Below w.heap.size w wr) (fun i wr => n - (intOf i).toNat)
    case atStart =>
      refine ⟨0, List.replicate n false, by omega, rfl, fun y h0 h1 => ?_, by simp, by simp, ?_, hb1⟩
      · rw [List.getElem?_replicate, if_pos (by omega)]; simp
      · simpa [toList_madeCells_one, Value.cells] using hown
    case round =>
      obtain ⟨k, bs, hk, rfl, hbs, hrg, hnd, ho, hb⟩ := hrel
      replace hbs := Lib.hid hbs
      replace hrg := Lib.hid hrg
      replace hnd := Lib.hid hnd
      by_cases hlt : k < n
      · obtain ⟨b, o, x, rfl, _, _, hx, hc⟩ := (h.below hb hhi).at_ hlt
        replace hx := Lib.hid hx
        by_cases hr : 0 ≤ x ∧ x < n
        · obtain ⟨hx0, hx1⟩ := hr
          have hbx := hbs.out x hx0 hx1
          replace hbx := Lib.hid hbx
          have hcb : wr.cell? ⟨w.heap.size, x.toNat, none⟩ = some (.bool (decide (x ∈ xs.take k))) := by
            rw [ho.cellAt x.toNat (by omega), List.getElem?_map, hbx.out]; rfl
          have hw1 : (decide ((0 : Int) ≤ x) && decide (x ≤ (n : Int) - 1)) = true := by simp; omega
          have hfr := ho.frozenAt x.toNat
          by_cases hmem : x ∈ xs.take k
          · rw [decide_eq_true hmem] at hcb
            go_wp2_with (first | (go_at_call 71; refine (in_any _ _ _ _).mono ?_; rintro e w' ⟨rfl, rfl⟩))
            go_ret
            exact ⟨ret_bool (perm_dup hx.out hmem).symm, hb⟩
          · rw [decide_eq_false hmem] at hcb
            go_wp2_with (first | (go_at_call 71; refine (in_any _ _ _ _).mono ?_; rintro e w' ⟨rfl, rfl⟩))
            go_roundw
            case rel =>
              refine ⟨k + 1, bs.set x.toNat true, by omega, by go_num, fun y h0 h1 => ?_, ?_, nodup_take_succ hx.out hnd.out hmem, ?_, hb.setCell (by simp) _⟩
              · have hbl : bs.length = n := by have := ho.1; simpa using this
                rw [List.getElem?_set, take_succ_of hx.out]
                by_cases e : x = y
                · subst e; simp; omega
                · rw [if_neg (by omega), hbs.out y h0 h1]
                  have e' : y ≠ x := fun h => e h.symm
                  simp [e']
              · intro y hy
                rw [take_succ_of hx.out] at hy
                rcases List.mem_append.1 hy with hy | hy
                · exact hrg.out y hy
                · simp at hy; subst hy; exact ⟨hx0, hx1⟩
              · rw [List.map_set]; exact (ho.stored x.toNat (.bool true)).1
            case measure => simp [intOf]; omega
        · have hw1 : (decide ((0 : Int) ≤ x) && decide (x ≤ (n : Int) - 1)) = false := by simp; omega
          go_wp2_with (first | (go_at_call 71; refine (in_any _ _ _ _).mono ?_; rintro e w' ⟨rfl, rfl⟩))
          go_ret
          exact ⟨ret_bool (perm_out hl.out hx.out hr).symm, hb⟩
      · go_wp2_with fail
        go_ret
        have hkn : k = n := by omega
        subst hkn
        exact ⟨ret_bool (perm_all hl.out h4 hrg.out hnd.out).symm, hb⟩
  · go_enter Tryz.func52, Tryz.ntmps52
    go_wp2
    go_ret
    refine ⟨ret_bool ?_, Below.refl _ _⟩
    rw [isPermB_false]
    rintro ⟨h, _⟩
    have := hl.out
    omega
theorem free_end {xs : List Int} {n : Nat} (hl : xs.length = n) (h : ∀ j, j < n → xs.getD j 0 ≠ (j : Int) ∧ xs.getD (xs.getD j 0).toNat 0 = (j : Int)) : freeB xs = true := by
  unfold freeB; apply decide_eq_true; intro j hj; exact h j (by omega)
theorem free_no {xs : List Int} {k : Nat} {x y : Int} (hx : xs[k]? = some x) (hy : xs[x.toNat]? = some y) (h : x = (k : Int) ∨ y ≠ (k : Int)) : freeB xs = false := by
  unfold freeB; apply decide_eq_false
  intro hh
  obtain ⟨h1, h2⟩ := hh k (List.getElem?_eq_some_iff.1 hx).1
  rw [getD_some hx] at h1 h2
  rw [getD_some hy] at h2
  rcases h with h | h
  · exact h1 h
  · exact h h2
set_option maxHeartbeats 400000 in
theorem l01Free_any (A : Option Addr) (n c : Nat) (xs : List Int) (w : World) (lo hi : Nat) (h : RI w lo hi A n xs) (hhi : hi ≤ w.heap.size) (hp : isPermP xs) :
    Calls Tryz.prog 53 #[.slice A n c] w fun e w' => e = .returned (.bool (freeB xs)) ∧ Below w.heap.size w w' := by
  have hm := h.max
  have hl := Lib.hid h.len
  replace hp := Lib.hid hp
  go_enter Tryz.func53, Tryz.ntmps53
  go_wp2_with fail
  go_loopw [3] (fun i wr => ∃ (k : Nat), k ≤ n ∧ i = .int .i64 k ∧ (∀ j, j < k → xs.getD j 0 ≠ (j : Int) ∧ xs.getD (xs.getD j 0).toNat 0 = (j : Int)) ∧ Below w.heap.size w wr) (fun i wr => n - (intOf i).toNat)
  case atStart => exact ⟨0, by omega, rfl, fun j hj => absurd hj (by omega), Below.refl _ _⟩
  case round =>
    obtain ⟨k, hk, rfl, hall, hb⟩ := hrel
    replace hall := Lib.hid hall
    by_cases hlt : k < n
    · have hr := h.below hb hhi
      obtain ⟨b, o, x, rfl, _, _, hx, hc⟩ := hr.at_ hlt
      have hxr := hp.out.get (k := k) (by have := hl.out; omega)
      rw [getD_some hx, hl.out] at hxr
      obtain ⟨hx0, hx1⟩ := hxr
      obtain ⟨b', o', y, e, _, _, hy, hc'⟩ := hr.at_ (k := x.toNat) (by omega)
      injection e with e; injection e with e1 e2 _; subst e1; subst e2
      replace hx := Lib.hid hx
      replace hy := Lib.hid hy
      by_cases c1 : x = (k : Int)
      · have c1' : (x == (k : Int)) = true := by simpa using c1
        go_wp2_with fail
        go_ret
        exact ⟨ret_bool (free_no hx.out hy.out (.inl c1)).symm, hb⟩
      · have c1' : (x == (k : Int)) = false := by simpa using c1
        by_cases c2 : y = (k : Int)
        · have c2' : (y != (k : Int)) = false := by simpa using c2
          go_wp2_with fail
          go_roundw
          case rel =>
            refine ⟨k + 1, by omega, by go_num, fun j hj => ?_, hb⟩
            by_cases e : j = k
            · subst e; rw [getD_some hx.out, getD_some hy.out]; exact ⟨c1, c2⟩
            · exact hall.out j (by omega)
          case measure => simp [intOf]; omega
        · have c2' : (y != (k : Int)) = true := by simpa using c2
          go_wp2_with fail
          go_ret
          exact ⟨ret_bool (free_no hx.out hy.out (.inr c2)).symm, hb⟩
    · go_wp2_with fail
      go_ret
      have hkn : k = n := by omega
      subst hkn
      exact ⟨ret_bool (free_end hl.out hall.out).symm, hb⟩
end Go.Proofs.YtbioelmofceaaaaGreat
/- OrbS -/
namespace Go.Proofs.YtbioelmofceaaaaGreat
open Go.RowKit
set_option linter.unusedVariables false
set_option maxRecDepth 100000
theorem bfs_nil (n : Nat) (x : Int) : bfs [] n x = [x] := by
  unfold bfs
  rw [bfsGo_step (x := x) (by simp)]
  show bfsGo [] n (bfsStep [] x [x]) 1 = [x]
  rw [show bfsStep [] x [x] = [x] from rfl, bfsGo_stop (by simp)]
theorem drewN_own {w : World} {lo n k : Nat} {T : TypeId} {v : Value} {vs : List Value} (h : w.ownsRow lo T 1 v n vs) : (w.drewN k).ownsRow lo T 1 v n vs := h
theorem below_dn {B : Nat} {w w' : World} (h : Below B w w') (k : Nat) : Below B w (w'.drewN k) := ⟨h.os, h.tape, h.output, h.size, h.block⟩
set_option maxHeartbeats 4000000 in
theorem l01Orbit_any (n : Nat) (A : Option Addr) (m c : Nat) (xss : List (List Int)) (x : Int) (w : World) {lo hi : Nat} (h : RS w lo hi A m xss) (hhi : hi ≤ w.heap.size) (hn : n ≤ 400) (hs : SysOf xss n) (hx0 : 0 ≤ x) (hx1 : x < n) :
    Calls Tryz.prog 54 #[.slice A m c, .int .i64 x] w fun e w' => ∃ (A1 : Option Addr) (n1 c1 : Nat), e = .returned (.slice A1 n1 c1) ∧ Own w' w.heap.size w'.heap.size 2 A1 n1 c1 ((bfs xss n x).map (Value.int .i64)) ∧ Below w.heap.size w w' := by
  obtain ⟨i0, hi0, hz0, hz1, hz2⟩ := info_parts infoB
  obtain ⟨j0, hj0, hy0, hy1, hy2⟩ := info_parts infoI
  have hm := h.max
  have hl := h.len
  have hlit : (w.alloc (.cells #[.int .i64 x] 2)).ownsRow w.heap.size 2 1 (.slice (some ⟨w.heap.size, 0, none⟩) 1 1) 1 ([x].map (Value.int .i64)) := (own_lit1 w _ x (Nat.le_refl _)).1
  obtain ⟨x, rfl⟩ : ∃ q : Nat, x = q := ⟨x.toNat, by omega⟩
  by_cases hm0 : m = 0
  · subst hm0
    have hnil : xss = [] := List.eq_nil_of_length_eq_zero hl
    subst hnil
    go_enter Tryz.func54, Tryz.ntmps54
    go_wp2_with (at_make; refine wpList_make_full _ rfl _ _ 80 rfl w.heap.size 4 i0 (.bool false) 1 Tryz.underlying80 hi0 hz0 hz1 _ _ _ _ (x + 1) rfl rfl (by simp) (by simp) ?c1 ?c2 (by simp) ?_)
    case c1 => rw [hz2]; omega
    case c2 => simp only [maxLen]; omega
    intro w1 hown hg
    have hb1 : Below w.heap.size w w1 := ((Below.refl _ _).alloc (Nat.le_refl _) _).grown hg (by simp) (by simp)
    have ho1 := hlit.kept hg (.inr (by simp [Value.ownBlock]))
    have hfr := hown.frozenAt x
    have hcx : w1.cell? ⟨w.heap.size + 1, x, none⟩ = some (.bool false) := by rw [hown.cellAt x (by omega)]; simp [toList_madeCells_one]; try omega
    go_wp2_with fail
    have hset := hown.stored x (.bool true)
    have ho2 := own_kept_ty ho1 hown (by decide) hset.2
    have hb2 : Below w.heap.size w (w1.setCell ⟨w.heap.size + 1, x, none⟩ (.bool true)) := hb1.setCell (by simp) _
    clear hset ho1 hown hg hlit hb1 hcx hfr
    go_loopw [5, 8] (fun ov jv wr => ∃ j : Nat, j ≤ 1 ∧ ov = .slice (some ⟨w.heap.size, 0, none⟩) 1 1 ∧ jv = .int .i64 j ∧ wr.ownsRow w.heap.size 2 1 (.slice (some ⟨w.heap.size, 0, none⟩) 1 1) 1 ([(x : Int)].map (Value.int .i64)) ∧ Below w.heap.size w wr) (fun _ jv _ => 1 - (intOf jv).toNat)
    case atStart => exact ⟨0, by omega, rfl, rfl, ho2, hb2⟩
    case round =>
      obtain ⟨j, hj, rfl, rfl, ho, hb⟩ := hrel
      by_cases hlt : j < 1
      · go_wp2_with fail
        go_loopw [5, 9] (fun ov kv wq => ov = .slice (some ⟨w.heap.size, 0, none⟩) 1 1 ∧ kv = .int .i64 0 ∧ wq = wr) (fun _ _ _ => 0)
        case atStart => exact ⟨rfl, rfl, rfl⟩
        case round =>
          obtain ⟨rfl, rfl, rfl⟩ := hrel
          go_wp2_with fail
          go_roundw
          case measure => simp [intOf]; omega
          case rel => exact ⟨j + 1, by omega, rfl, by go_num, ho, hb⟩
      · go_wp2_with fail
        go_ret
        exact ⟨_, 1, 1, rfl, by rw [bfs_nil]; exact Own.of_row ho, hb⟩
  · obtain ⟨b0, o0, A0, n0, c0, p0, hA0, _, hb0, hp0, hc0, hr0⟩ := (h.keep (same_alloc w (.cells #[.int .i64 (x : Int)] 2) _ _ hhi)).at_ (k := 0) (by omega)
    rw [Nat.add_zero] at hc0
    have hn0 : n0 = n := by rw [← hr0.len]; exact (hs p0 (mem_of_get? hp0)).2.2
    subst hn0
    subst hA0
    clear hp0 hr0
    replace hs := Lib.hid hs
    replace hl := Lib.hid hl
    go_enter Tryz.func54, Tryz.ntmps54
    go_wp2_with (at_make; refine wpList_make_full _ rfl _ _ 80 rfl w.heap.size 4 i0 (.bool false) 1 Tryz.underlying80 hi0 hz0 hz1 _ _ _ _ (n0 + x + 1) rfl rfl (by simp) (by simp) ?c1 ?c2 (by simp) ?_)
    case c1 => rw [hz2]; omega
    case c2 => simp only [maxLen]; omega
    intro w1 hown hg
    have hb1 : Below w.heap.size w w1 := ((Below.refl _ _).alloc (Nat.le_refl _) _).grown hg (by simp) (by simp)
    have ho1 := hlit.kept hg (.inr (by simp [Value.ownBlock]))
    have hfr := hown.frozenAt x
    have hcx : w1.cell? ⟨w.heap.size + 1, x, none⟩ = some (.bool false) := by rw [hown.cellAt x (by omega)]; simp [toList_madeCells_one, List.getElem?_replicate]; try omega
    go_wp2_with fail
    have hset := hown.stored x (.bool true)
    have ho2 := own_kept_ty ho1 hown (by decide) hset.2
    have hb2 : Below w.heap.size w (w1.setCell ⟨w.heap.size + 1, x, none⟩ (.bool true)) := hb1.setCell (by simp) _
    have hset1 : (w1.setCell ⟨w.heap.size + 1, x, none⟩ (.bool true)).ownsRow w.heap.size 4 1 (.slice (some ⟨w.heap.size + 1, 0, none⟩) (n0 + x + 1) (n0 + x + 1)) (n0 + x + 1) (((List.replicate (n0 + x + 1) false).set x true).map Value.bool) := by
      have := hset.1
      rw [List.map_set]
      simpa [toList_madeCells_one, Value.cells] using this
    clear hset ho1 hown hg hlit hb1 hcx hfr hc0
    go_loopw [5, 8] (fun ov jv wr => ∃ (j : Nat) (ys : List Int) (A1 : Option Addr) (c1 : Nat) (bs : List Bool), j ≤ ys.length ∧ ys.length ≤ n0 ∧ ov = .slice A1 ys.length c1 ∧ jv = .int .i64 j ∧ Hid (bfsGo xss (n0 + 1 - j) ys j = bfs xss n0 x) ∧ Hid (Met xss n0 x ys) ∧ Hid (∀ z : Nat, z < n0 → bs[z]? = some (decide ((z : Int) ∈ ys))) ∧
        wr.ownsRow w.heap.size 4 1 (.slice (some ⟨w.heap.size + 1, 0, none⟩) (n0 + x + 1) (n0 + x + 1)) (n0 + x + 1) (bs.map Value.bool) ∧ wr.ownsRow w.heap.size 2 1 (.slice A1 ys.length c1) ys.length (ys.map (Value.int .i64)) ∧ Below w.heap.size w wr) (fun _ jv _ => n0 - (intOf jv).toNat)
    case atStart =>
      refine ⟨0, [(x : Int)], _, 1, _, by simp, by simp; omega, rfl, rfl, Lib.hid rfl, Lib.hid (Met.one hx0 hx1), Lib.hid fun z hz => ?_, hset1, ho2, hb2⟩
      by_cases e : x = z
      · subst e; simp [show x < n0 + x + 1 by omega]
      · have hne : ¬ (z : Int) = x := by omega
        rw [List.getElem?_set_ne e]; simp [show z < n0 + x + 1 by omega, hne]
    case round =>
      clear hset1 ho2 hb2
      obtain ⟨j, ys, A1, c1, bs, hj, hyn, rfl, rfl, heq, hmet, hbs, hsn, ho, hb⟩ := hrel
      have hmq := hb.size
      by_cases hlt : j < ys.length
      · obtain ⟨g, y, rfl, _, _, _, hy, _, _⟩ := (Own.of_row ho).atI hlt
        have hyr := hmet.out.rng y (mem_of_get? hy)
        obtain ⟨y, rfl⟩ : ∃ q : Nat, y = q := ⟨y.toNat, by omega⟩
        replace hy := Lib.hid hy
        go_wp2_with fail
        obtain ⟨wo, hwo⟩ : ∃ wo : World, wo = wr := ⟨_, rfl⟩
        go_loopw [5, 9] (fun ov kv wq => ∃ (k : Nat) (zs : List Int) (A2 : Option Addr) (c2 : Nat) (bs : List Bool), k ≤ m ∧ zs.length ≤ n0 ∧ ov = .slice A2 zs.length c2 ∧ kv = .int .i64 k ∧ Hid (zs = bfsStep (xss.take k) y ys) ∧ Hid (Met xss n0 x zs) ∧ Hid (zs[j]? = some (y : Int)) ∧ Hid (∀ z : Nat, z < n0 → bs[z]? = some (decide ((z : Int) ∈ zs))) ∧
            wq.ownsRow w.heap.size 4 1 (.slice (some ⟨w.heap.size + 1, 0, none⟩) (n0 + x + 1) (n0 + x + 1)) (n0 + x + 1) (bs.map Value.bool) ∧ wq.ownsRow w.heap.size 2 1 (.slice A2 zs.length c2) zs.length (zs.map (Value.int .i64)) ∧ Below w.heap.size w wq) (fun _ kv _ => m - (intOf kv).toNat)
        case atStart => exact ⟨0, ys, _, c1, bs, by omega, hyn, rfl, rfl, Lib.hid rfl, hmet, hy, hbs, hsn, ho, hb⟩
        case round =>
          clear hsn ho hb hbs hwo
          obtain ⟨k, zs, A2, c2, bs, hk, hzn, rfl, rfl, hzs, hmz, hzy, hbs, hsn, ho, hb⟩ := hrel
          have hjz : j < zs.length := (List.getElem?_eq_some_iff.1 hzy.out).1
          by_cases hkm : k < m
          · obtain ⟨bb, oo, Ak, nk, ck, p, hA, _, hbb, hp, hpc, hpr⟩ := (h.below hb hhi).at_ hkm
            injection hA with hA
            injection hA with hA1 hA2 _
            subst hA1; subst hA2
            have hpm := mem_of_get? hp
            obtain ⟨hpr0, hpn, hpl⟩ := hs.out p hpm
            have hnk := hpr.len
            have hynk : y < nk := by omega
            obtain ⟨bp, oq, v, rfl, _, hbp, hv, hvc⟩ := hpr.at_ hynk
            have hva : at' p y = v := by unfold at'; rw [Int.toNat_natCast]; exact getD_some hv
            obtain ⟨hv0, hv1⟩ := hpr0 v (mem_of_get? hv)
            obtain ⟨v, rfl⟩ : ∃ q : Nat, v = q := ⟨v.toNat, by omega⟩
            obtain ⟨gz, y', rfl, hgz1, hgz2, hgz3, hy', hyc, _⟩ := (Own.of_row ho).atI hjz
            have e : y' = y := by rw [hzy.out] at hy'; exact (Option.some.inj hy').symm
            subst e
            clear hy'
            have htk := take_succ_of hp
            have hbv := hbs.out v (by omega)
            have hsc : wr.cell? ⟨w.heap.size + 1, v, none⟩ = some (.bool (decide ((v : Int) ∈ zs))) := by
              rw [hsn.cellAt v (by omega), List.getElem?_map, hbv]; rfl
            have hsf := hsn.frozenAt v
            replace hbv := Lib.hid hbv
            replace hp := Lib.hid hp
            replace hv := Lib.hid hv
            replace hpr0 := Lib.hid hpr0
            have hvn : v < n0 := by omega
            by_cases hmem : (v : Int) ∈ zs
            · have hst : zs = bfsStep (xss.take (k + 1)) y ys := by
                rw [htk, bfsStep_snoc, hva, ← hzs.out, if_pos hmem]
              replace hst := Lib.hid hst
              rw [decide_eq_true hmem] at hsc
              replace htk := Lib.hid htk
              replace hva := Lib.hid hva
              replace hmem := Lib.hid hmem
              replace hpl := Lib.hid hpl
              go_wp2_with fail
              go_quiet (fail)
              go_wp2_with fail
              go_roundw
              case measure => simp [intOf]; omega
              case rel => exact ⟨k + 1, zs, _, c2, bs, by omega, hzn, rfl, by go_num, hst, hmz, hzy, hbs, drewN_own hsn, drewN_own ho, below_dn hb _⟩
            · have hst : zs ++ [(v : Int)] = bfsStep (xss.take (k + 1)) y ys := by
                rw [htk, bfsStep_snoc, hva, ← hzs.out, if_neg hmem]
              replace hst := Lib.hid hst
              have hmz2 : Met xss n0 x (zs ++ [(v : Int)]) := by
                have := hmz.out.add hs.out (mem_of_get? hzy.out) hpm (by rw [hva]; exact hmem)
                rwa [hva] at this
              have hzn2 := hmz2.len
              rw [List.length_append, List.length_singleton] at hzn2
              replace hmz2 := Lib.hid hmz2
              rw [decide_eq_false hmem] at hsc
              replace htk := Lib.hid htk
              replace hva := Lib.hid hva
              replace hmem := Lib.hid hmem
              replace hpl := Lib.hid hpl
              go_wp2_with fail
              go_quiet (fail)
              have hset := (drewN_own hsn (k := nq)).stored v (.bool true)
              have ho' := own_kept_ty (drewN_own ho (k := nq)) (drewN_own hsn (k := nq)) (by decide) hset.2
              have hss : ((wr.drewN nq).setCell ⟨w.heap.size + 1, v, none⟩ (.bool true)).heap.size = wr.heap.size := World.size_setCell _ _ _
              have hsize := hb.size
              replace hss := Lib.hid hss
              go_wp2_with (at_builtin; refine wpList_append1 ((wr.drewN nq).setCell ⟨w.heap.size + 1, v, none⟩ (.bool true)) rfl (.tmp 58) (.tmp 60) 35 rfl w.heap.size 2 j0 (.int .i64 0) 8 Tryz.underlying35 hj0 hy0 hy1 hy2 rfl (by omega) _ zs.length c2 _ (.int .i64 v) rfl ho' _ rfl (World.size_setCell _ _ _).symm rfl (by omega) (by rw [hss.out]; exact hsize) ?_)
              intro g4 c4 w2 ho2 hg2 hlo2 hlt2 hor2
              have hb4 : Below w.heap.size w w2 := ((below_dn hb nq).setCell (p := ⟨w.heap.size + 1, v, none⟩) (by simp) (.bool true)).grown hg2 (by rw [hss.out]; exact hsize) (fun q hq => by have := (ho.lt q hq).1; omega)
              have hsn4 : w2.ownsRow w.heap.size 4 1 (.slice (some ⟨w.heap.size + 1, 0, none⟩) (n0 + x + 1) (n0 + x + 1)) (n0 + x + 1) ((bs.set v true).map Value.bool) :=
                own_kept_ty (by rw [List.map_set]; exact hset.1) ho' (by decide) hg2
              clear hset ho' ho hsn hb hpc hvc hyc hsc hsf hpr hg2
              go_wp2_with fail
              go_roundw
              case measure => simp [intOf]; omega
              case rel =>
                refine ⟨k + 1, zs ++ [(v : Int)], _, c4, bs.set v true, by omega, by simp; omega, by rw [List.length_append]; rfl, by go_num, hst, hmz2, Lib.hid ?_, Lib.hid fun z hz => ?_, hsn4, by simpa using ho2, hb4⟩
                · rw [List.getElem?_append_left hjz]; exact hzy.out
                · by_cases e : v = z
                  · subst e
                    have := (List.getElem?_eq_some_iff.1 hbv.out).1
                    simp [this]
                  · rw [List.getElem?_set_ne e, hbs.out z hz]
                    have : ¬ (z : Int) = v := by omega
                    simp [this]
          · have hkm' : k = m := by omega
            subst hkm'
            go_wp2_with fail
            go_roundw
            case measure => simp [intOf]; omega
            case rel =>
              refine ⟨j + 1, zs, A2, c2, bs, by omega, hzn, rfl, by go_num, Lib.hid ?_, hmz, hbs, hsn, ho, hb⟩
              have h1 := heq.out
              rw [show n0 + 1 - j = (n0 - j) + 1 by omega, bfsGo_step hy.out] at h1
              have h2 := hzs.out
              rw [List.take_of_length_le (by have := hl.out; omega)] at h2
              rw [← h1, h2, show n0 + 1 - (j + 1) = n0 - j by omega]
      · go_wp2_with fail
        go_ret
        refine ⟨A1, ys.length, c1, rfl, ?_, hb⟩
        have h1 := heq.out
        rw [bfsGo_stop (by omega)] at h1
        rw [← h1]
        exact Own.of_row ho
end Go.Proofs.YtbioelmofceaaaaGreat
/- OrbN -/
namespace Go.Proofs.YtbioelmofceaaaaGreat
open Go.RowKit
set_option linter.unusedVariables false
set_option maxRecDepth 100000
/-- v at each of the points -/
def mset (ls pts : List Int) (v : Int) : List Int := pts.foldl (fun l y => l.set y.toNat v) ls
theorem mset_snoc (ls pts : List Int) (y v : Int) : mset ls (pts ++ [y]) v = (mset ls pts v).set y.toNat v := by simp [mset]
theorem mset_length (ls pts : List Int) (v : Int) : (mset ls pts v).length = ls.length := by
  unfold mset
  induction pts generalizing ls with
  | nil => rfl
  | cons y t ih => rw [List.foldl_cons, ih]; simp
theorem mset_get {ls pts : List Int} {v : Int} (hp : ∀ y ∈ pts, 0 ≤ y) {z : Nat} (hz : z < ls.length) : (mset ls pts v)[z]? = if (z : Int) ∈ pts then some v else ls[z]? := by
  unfold mset
  induction pts generalizing ls with
  | nil => simp
  | cons y t ih =>
    rw [List.foldl_cons, ih (fun q hq => hp q (by simp [hq])) (by simpa using hz)]
    have hy := hp y (by simp)
    by_cases h1 : (z : Int) ∈ t
    · simp [h1]
    · by_cases h2 : (z : Int) = y
      · subst h2; simp [hz]
      · rw [if_neg h1, if_neg (by simp [h1, h2]), List.getElem?_set_ne (by omega)]
theorem OutI.orbit {list : List (List Int)} {n i : Nat} {ls : List Int} (hs : SysOf list n) (h : OutI list n i ls) (hi : i < n) (ho : ¬ Old list i i) : OutI list n (i + 1) (mset ls (bfs list n i) (cntR list i : Nat)) ∧ cntR list (i + 1) = cntR list i + 1 := by
  have hm := bfs_met hs (show (0 : Int) ≤ i by omega) (show (i : Int) < n by omega)
  have hp : ∀ y ∈ bfs list n i, 0 ≤ y := fun y hy => (hm.rng y hy).1
  have hl := h.len
  have hmem : ∀ z : Nat, (z : Int) ∈ bfs list n i ↔ Rch list i z := fun z => bfs_mem hs (by omega) (by omega)
  refine ⟨⟨by rw [mset_length]; exact hl, fun z hz hzo => ?_, fun z hz hzo => ?_⟩, by rw [cntR_succ, if_pos (root_iff.2 ho)]⟩
  · rw [mset_get hp (by omega)]
    by_cases hr : Rch list i z
    · rw [if_pos ((hmem z).2 hr), labOf_root hs hi ho hr]
    · rw [if_neg (fun hh => hr ((hmem z).1 hh))]
      exact h.old z hz ((Old.new.1 hzo).resolve_right hr)
  · rw [mset_get hp (by omega), if_neg (fun hh => hzo (Old.new.2 (.inr ((hmem z).1 hh))))]
    exact h.new z hz fun hh => hzo (Old.new.2 (.inl hh))
end Go.Proofs.YtbioelmofceaaaaGreat
/- CycP -/
namespace Go.Proofs.YtbioelmofceaaaaGreat
set_option linter.unusedVariables false
set_option maxRecDepth 100000

/-- one cycle: from x on, until a point is met that has been seen -/
def cycGo (p : List Int) : Nat → List Bool → Int → List Int → List Bool × List Int
  | 0, bs, _, c => (bs, c)
  | f + 1, bs, x, c => if bs.getD x.toNat true = true then (bs, c) else cycGo p f (bs.set x.toNat true) (p.getD x.toNat 0) (c ++ [x])
/-- the points seen and the cycles found from the first i points -/
def cycLoop (p : List Int) (n : Nat) : Nat → List Bool × List (List Int)
  | 0 => (List.replicate n false, [])
  | i + 1 => ((cycGo p (n + 1) (cycLoop p n i).1 i []).1,
      if (cycGo p (n + 1) (cycLoop p n i).1 i []).2 = [] then (cycLoop p n i).2 else (cycLoop p n i).2 ++ [(cycGo p (n + 1) (cycLoop p n i).1 i []).2])
def cycAll (p : List Int) : List (List Int) := (cycLoop p p.length p.length).2

theorem count_set_true {bs : List Bool} {k : Nat} (h : bs[k]? = some false) : (bs.set k true).count false + 1 = bs.count false := by
  induction bs generalizing k with
  | nil => simp at h
  | cons b t ih =>
    cases k with
    | zero => simp at h; subst h; simp
    | succ k =>
      simp at h
      have := ih h
      simp only [List.set_cons_succ, List.count_cons]
      omega
theorem cycGo_stop {p : List Int} {f : Nat} {bs : List Bool} {x : Int} {c : List Int} (h : bs[x.toNat]? = some true) : cycGo p (f + 1) bs x c = (bs, c) := by
  simp [cycGo, List.getD, h]
theorem cycGo_step {p : List Int} {f : Nat} {bs : List Bool} {x y : Int} {c : List Int} (h : bs[x.toNat]? = some false) (hy : p[x.toNat]? = some y) :
    cycGo p (f + 1) bs x c = cycGo p f (bs.set x.toNat true) y (c ++ [x]) := by
  simp [cycGo, List.getD, h, hy]
theorem cycGo_len (p : List Int) : ∀ (f : Nat) (bs : List Bool) (x : Int) (c : List Int), (cycGo p f bs x c).2.length ≤ c.length + f
  | 0, bs, x, c => by simp [cycGo]
  | f + 1, bs, x, c => by
    unfold cycGo
    split
    · simp
    · have := cycGo_len p f (bs.set x.toNat true) (p.getD x.toNat 0) (c ++ [x])
      rw [List.length_append, List.length_singleton] at this
      omega
theorem cycGo_ge (p : List Int) : ∀ (f : Nat) (bs : List Bool) (x : Int) (c : List Int), c.length ≤ (cycGo p f bs x c).2.length
  | 0, bs, x, c => by simp [cycGo]
  | f + 1, bs, x, c => by
    unfold cycGo
    split
    · simp
    · have := cycGo_ge p f (bs.set x.toNat true) (p.getD x.toNat 0) (c ++ [x])
      rw [List.length_append, List.length_singleton] at this
      omega
theorem cycGo_ne {p : List Int} {f : Nat} {bs bq : List Bool} {x y : Int} {ys : List Int} (h : bs[x.toNat]? = some false) (hy : p[x.toNat]? = some y) (e : cycGo p (f + 1) bs x [] = (bq, ys)) : ys ≠ [] := by
  rw [cycGo_step h hy] at e
  have := cycGo_ge p f (bs.set x.toNat true) y ([] ++ [x])
  rw [e] at this
  intro h0
  simp [h0] at this
theorem cycLoop_len (p : List Int) (n : Nat) : ∀ i, ((cycLoop p n i).2.length ≤ i) ∧ ∀ c ∈ (cycLoop p n i).2, 1 ≤ c.length ∧ c.length ≤ n + 1
  | 0 => by simp [cycLoop]
  | i + 1 => by
    obtain ⟨h1, h2⟩ := cycLoop_len p n i
    unfold cycLoop
    dsimp only
    split
    · exact ⟨by omega, h2⟩
    · rename_i hne
      refine ⟨by simp; omega, fun c hc => ?_⟩
      rcases List.mem_append.1 hc with hc | hc
      · exact h2 c hc
      · simp at hc
        subst hc
        have := cycGo_len p (n + 1) (cycLoop p n i).1 i []
        have hp := List.length_pos_iff.2 hne
        simp at this
        omega
theorem cycLoop_succ {p : List Int} {n i : Nat} {bs bq : List Bool} {cs : List (List Int)} {ys : List Int} (h1 : cycLoop p n i = (bs, cs)) (h2 : cycGo p (n + 1) bs i [] = (bq, ys)) :
    cycLoop p n (i + 1) = (bq, if ys = [] then cs else cs ++ [ys]) := by
  simp only [cycLoop, h1, h2]
theorem cycAll_len (p : List Int) : (cycAll p).length ≤ p.length ∧ ∀ c ∈ cycAll p, 1 ≤ c.length ∧ c.length ≤ p.length + 1 := cycLoop_len p p.length p.length
end Go.Proofs.YtbioelmofceaaaaGreat
/- OrdP -/
namespace Go.Proofs.YtbioelmofceaaaaGreat
set_option linter.unusedVariables false
set_option maxRecDepth 100000

/-- the numbers in ascending order -/
def sortL (xs : List Int) : List Int := xs.mergeSort fun a b => decide (a ≤ b)
def Sorted (xs : List Int) : Prop := xs.Pairwise (· ≤ ·)
theorem sortL_perm (xs : List Int) : (sortL xs).Perm xs := List.mergeSort_perm _ _
theorem sortL_sorted (xs : List Int) : Sorted (sortL xs) := by
  have := List.pairwise_mergeSort (le := fun a b : Int => decide (a ≤ b)) (by intro a b c; simp; omega) (by intro a b; simp; omega) xs
  unfold Sorted sortL
  exact this.imp (by intro a b h; simpa using h)
theorem sorted_unique {xs ys : List Int} (hp : xs.Perm ys) (h1 : Sorted xs) (h2 : Sorted ys) : xs = ys :=
  List.Perm.eq_of_pairwise (le := (· ≤ ·)) (by intro a b _ _ h g; omega) h1 h2 hp
theorem sortL_eq {xs ys : List Int} (hp : ys.Perm xs) (h : Sorted ys) : ys = sortL xs := sorted_unique (hp.trans (sortL_perm xs).symm) h (sortL_sorted xs)
theorem sortL_length (xs : List Int) : (sortL xs).length = xs.length := (sortL_perm xs).length_eq
theorem sorted_of_getD {xs : List Int} (h : ∀ a b, a < b → b < xs.length → xs.getD a 0 ≤ xs.getD b 0) : Sorted xs := by
  unfold Sorted
  rw [List.pairwise_iff_getElem]
  intro i j hi hj hij
  have := h i j hij hj
  simpa [List.getD, hi, hj] using this

/-- the insertion's state: the first i + 1 places are in order but for the place k -/
def InsAt (ys : List Int) (i k : Nat) : Prop := ∀ a b, a < b → b ≤ i → b ≠ k → ys.getD a 0 ≤ ys.getD b 0
def SortedTo (ys : List Int) (i : Nat) : Prop := ∀ a b, a < b → b < i → ys.getD a 0 ≤ ys.getD b 0
/-- two neighbours exchanged -/
def swapAt (ys : List Int) (k : Nat) : List Int := (ys.set k (ys.getD (k - 1) 0)).set (k - 1) (ys.getD k 0)
theorem swapAt_length (ys : List Int) (k : Nat) : (swapAt ys k).length = ys.length := by simp [swapAt]
theorem swapAt_perm {ys : List Int} {k : Nat} (hk : 0 < k) (hl : k < ys.length) : (swapAt ys k).Perm ys := by
  have := List.set_set_perm (i := k) (j := k - 1) hl (by omega)
  unfold swapAt
  simpa [List.getD, hl, show k - 1 < ys.length by omega] using this
theorem swapAt_getD {ys : List Int} {k : Nat} (hk : 0 < k) (hl : k < ys.length) (j : Nat) :
    (swapAt ys k).getD j 0 = if j = k then ys.getD (k - 1) 0 else if j = k - 1 then ys.getD k 0 else ys.getD j 0 := by
  unfold swapAt
  simp only [List.getD, List.getElem?_set, List.length_set]
  by_cases h1 : j = k
  · subst h1
    rw [if_neg (by omega), if_pos rfl, if_pos hl, if_pos rfl]; rfl
  · rw [if_neg h1]
    by_cases h2 : j = k - 1
    · subst h2
      rw [if_pos rfl, if_pos (by omega), if_pos rfl]; rfl
    · rw [if_neg (fun e => h2 e.symm), if_neg (fun e => h1 e.symm), if_neg h2]
theorem ins_start {ys : List Int} {i : Nat} (h : SortedTo ys i) : InsAt ys i i := fun a b h1 h2 h3 => h a b h1 (by omega)
theorem ins_zero {ys : List Int} {i : Nat} (h : InsAt ys i 0) : SortedTo ys (i + 1) := fun a b h1 h2 => h a b h1 (by omega) (by omega)
theorem ins_stop {ys : List Int} {i k : Nat} (h : InsAt ys i k) (hk : 0 < k) (hki : k ≤ i) (hle : ys.getD (k - 1) 0 ≤ ys.getD k 0) : SortedTo ys (i + 1) := by
  intro a b h1 h2
  by_cases hb : b = k
  · subst hb
    by_cases ha : a = b - 1
    · subst ha; exact hle
    · exact Int.le_trans (h a (b - 1) (by omega) (by omega) (by omega)) hle
  · exact h a b h1 (by omega) hb
theorem ins_swap {ys : List Int} {i k : Nat} (h : InsAt ys i k) (hk : 0 < k) (hki : k ≤ i) (hi : i < ys.length) (hlt : ys.getD k 0 < ys.getD (k - 1) 0) : InsAt (swapAt ys k) i (k - 1) := by
  intro a b h1 h2 h3
  rw [swapAt_getD hk (by omega), swapAt_getD hk (by omega)]
  by_cases hb : b = k
  · subst hb
    rw [if_neg (by omega), if_pos rfl]
    by_cases ha : a = b - 1
    · rw [if_pos ha]; omega
    · rw [if_neg ha]; exact h a (b - 1) (by omega) (by omega) (by omega)
  · rw [if_neg hb, if_neg h3]
    by_cases ha : a = k
    · rw [if_pos ha]; exact h (k - 1) b (by omega) h2 hb
    · rw [if_neg ha]
      by_cases ha' : a = k - 1
      · rw [if_pos ha']; exact h k b (by omega) h2 hb
      · rw [if_neg ha']; exact h a b h1 h2 hb

/-- the least common multiple of some numbers -/
def lcmL (ls : List Nat) : Nat := ls.foldl Nat.lcm 1
theorem foldl_lcm_dvd (ls : List Nat) : ∀ (a m : Nat), ls.foldl Nat.lcm a ∣ m ↔ a ∣ m ∧ ∀ x ∈ ls, x ∣ m := by
  induction ls with
  | nil => simp
  | cons x t ih =>
    intro a m
    rw [List.foldl_cons, ih]
    constructor
    · rintro ⟨h1, h2⟩
      refine ⟨Nat.dvd_trans (Nat.dvd_lcm_left a x) h1, fun y hy => ?_⟩
      rcases List.mem_cons.1 hy with rfl | hy
      · exact Nat.dvd_trans (Nat.dvd_lcm_right a y) h1
      · exact h2 y hy
    · rintro ⟨h1, h2⟩
      exact ⟨Nat.lcm_dvd h1 (h2 x (by simp)), fun y hy => h2 y (by simp [hy])⟩
theorem lcmL_dvd {ls : List Nat} {m : Nat} : lcmL ls ∣ m ↔ ∀ x ∈ ls, x ∣ m := by
  unfold lcmL; rw [foldl_lcm_dvd]; simp
theorem lcmL_perm {xs ys : List Nat} (h : xs.Perm ys) : lcmL xs = lcmL ys :=
  Nat.dvd_antisymm (lcmL_dvd.2 fun x hx => lcmL_dvd.1 (Nat.dvd_refl (lcmL ys)) x (h.mem_iff.1 hx)) (lcmL_dvd.2 fun x hx => lcmL_dvd.1 (Nat.dvd_refl (lcmL xs)) x (h.mem_iff.2 hx))
theorem lcmL_snoc (xs : List Nat) (x : Nat) : lcmL (xs ++ [x]) = (lcmL xs).lcm x := by simp [lcmL]
theorem lcmL_pos {xs : List Nat} (h : ∀ x ∈ xs, 0 < x) : 0 < lcmL xs := by
  have : ∀ a, 0 < a → 0 < xs.foldl Nat.lcm a := by
    induction xs with
    | nil => simp
    | cons x t ih =>
      intro a ha
      rw [List.foldl_cons]
      exact ih (fun y hy => h y (by simp [hy])) _ (Nat.lcm_pos ha (h x (by simp)))
  exact this 1 (by omega)
theorem lcmL_take_le {xs : List Nat} (h : ∀ x ∈ xs, 0 < x) (k : Nat) : lcmL (xs.take k) ≤ lcmL xs :=
  Nat.le_of_dvd (lcmL_pos h) (lcmL_dvd.2 fun x hx => lcmL_dvd.1 (Nat.dvd_refl _) x (List.mem_of_mem_take hx))
theorem lcm_by_quo (a b : Nat) (ha : 0 < a) : a / a.gcd b * b = a.lcm b := by
  unfold Nat.lcm
  rw [Nat.mul_comm (a / _) b, ← Nat.mul_div_assoc b (Nat.gcd_dvd_left a b), Nat.mul_comm b a]
theorem lcm_by_quo' (a b : Nat) : a * (b / a.gcd b) = a.lcm b := by
  unfold Nat.lcm
  rw [← Nat.mul_div_assoc a (Nat.gcd_dvd_right a b)]

/-- the numbers of points of the cycles -/
def cycLens (p : List Int) : List Nat := (cycAll p).map List.length
def lensL (p : List Int) : List Int := sortL ((cycLens p).map Int.ofNat)
def natsOf (xs : List Int) : List Nat := xs.map Int.toNat
theorem natsOf_perm {xs ys : List Int} (h : xs.Perm ys) : (natsOf xs).Perm (natsOf ys) := h.map _
theorem natsOf_ofNat (xs : List Nat) : natsOf (xs.map Int.ofNat) = xs := by
  unfold natsOf; rw [List.map_map]; simp [Function.comp_def]
theorem lens_lcm (p : List Int) : lcmL (natsOf (lensL p)) = lcmL (cycLens p) := by
  unfold lensL
  rw [lcmL_perm (natsOf_perm (sortL_perm _)), natsOf_ofNat]
theorem lensL_mem {p : List Int} {x : Int} (h : x ∈ lensL p) : 1 ≤ x ∧ x ≤ p.length + 1 := by
  have h := (sortL_perm _).mem_iff.1 h
  simp only [cycLens, List.map_map, List.mem_map, Function.comp_apply] at h
  obtain ⟨c, hc, rfl⟩ := h
  have := (cycAll_len p).2 c hc
  simp
  omega
theorem lensL_length (p : List Int) : (lensL p).length ≤ p.length := by
  unfold lensL
  rw [sortL_length, List.length_map, cycLens, List.length_map]
  exact (cycAll_len p).1
def orderF (p : List Int) : Int × Int := if isPermB p = true then (if lcmL (cycLens p) ≤ 1000000000000000 then ((lcmL (cycLens p) : Int), 0) else (0, 3)) else (0, 1)
def lengthsF (p : List Int) : List Int × Int := if isPermB p = true then (lensL p, 0) else ([], 1)

/-- the identity -/
def idL (n : Nat) : List Int := (List.range n).map Int.ofNat
theorem idL_length (n : Nat) : (idL n).length = n := by simp [idL]
theorem idL_get {n j : Nat} (h : j < n) : (idL n)[j]? = some (j : Int) := by simp [idL, h]
theorem idL_perm {n : Nat} (h : n ≤ 400) : isPermP (idL n) := by
  refine ⟨by rw [idL_length]; exact h, fun x hx => ?_, ?_⟩
  · rw [idL_length]; exact mem_ints.1 hx
  · unfold idL
    rw [List.nodup_iff_pairwise_ne, List.pairwise_map]
    exact (List.nodup_iff_pairwise_ne.1 List.nodup_range).imp (by intro a b h e; exact h (Int.ofNat.inj e))
/-- powers by squaring -/
def powGo : Nat → List Int → List Int → Nat → List Int
  | 0, _, out, _ => out
  | f + 1, p, out, k => if k = 0 then out else powGo f (thenL p p) (if k % 2 = 1 then thenL out p else out) (k / 2)
def powL (p : List Int) (k : Int) : List Int := powGo 40 (if k < 0 then invL p else p) (idL p.length) k.natAbs
theorem powGo_stop {f : Nat} {p out : List Int} : powGo f p out 0 = out := by cases f <;> simp [powGo]
theorem powGo_odd {f k : Nat} {p out : List Int} (h : 0 < k) (ho : k % 2 = 1) : powGo (f + 1) p out k = powGo f (thenL p p) (thenL out p) (k / 2) := by
  simp [powGo, ho, show k ≠ 0 by omega]
theorem powGo_even {f k : Nat} {p out : List Int} (h : 0 < k) (ho : k % 2 = 0) : powGo (f + 1) p out k = powGo f (thenL p p) out (k / 2) := by
  simp [powGo, ho, show k ≠ 0 by omega]
def powF (p : List Int) (k : Int) : List Int × Int := if isPermB p = true then (if -1000000000 ≤ k ∧ k ≤ 1000000000 then (powL p k, 0) else ([], 2)) else ([], 1)
end Go.Proofs.YtbioelmofceaaaaGreat
/- Perm2 -/
namespace Go.Proofs.YtbioelmofceaaaaGreat
open Go.RowKit
set_option linter.unusedVariables false
set_option maxRecDepth 100000
set_option maxHeartbeats 400000 in
theorem isFree_any (A : Option Addr) (n c : Nat) (xs : List Int) (w : World) (lo hi : Nat) (h : RI w lo hi A n xs) (hhi : hi ≤ w.heap.size) :
    Calls Tryz.prog 49 #[.slice A n c] w fun e w' => e = .returned (.bool (isPermB xs && freeB xs)) ∧ Below w.heap.size w w' := by
  have hm := h.max
  have hl := Lib.hid h.len
  by_cases hp : isPermP xs
  · have hpb := Lib.hid (isPermB_iff.2 hp)
    replace hp := Lib.hid hp
    go_enter Tryz.func49, Tryz.ntmps49
    go_wp2_with fail
    ((with_reducible refine (isPerm_any _ _ _ xs _ _ _ h hhi).mono ?_); rintro e w1 ⟨rfl, hb1⟩)
    rw [hpb.out]
    go_wp2_with fail
    have h1 := h.below hb1 hhi
    have hs1 := hb1.size
    go_loopw [10] (fun i wr => ∃ (k : Nat), k ≤ n ∧ i = .int .i64 k ∧ (∀ j, j < k → xs.getD j 0 ≠ (j : Int) ∧ xs.getD (xs.getD j 0).toNat 0 = (j : Int)) ∧ Below w.heap.size w wr) (fun i wr => n - (intOf i).toNat)
    case atStart => exact ⟨0, by omega, rfl, fun j hj => absurd hj (by omega), hb1⟩
    case round =>
      obtain ⟨k, hk, rfl, hall, hb⟩ := hrel
      replace hall := Lib.hid hall
      by_cases hlt : k < n
      · have hr := h.below hb hhi
        clear h1
        obtain ⟨b, o, x, rfl, _, _, hx, hc⟩ := hr.at_ hlt
        have hxr := hp.out.get (k := k) (by have := hl.out; omega)
        rw [getD_some hx, hl.out] at hxr
        obtain ⟨hx0, hx1⟩ := hxr
        obtain ⟨b', o', y, e, _, _, hy, hc'⟩ := hr.at_ (k := x.toNat) (by omega)
        injection e with e; injection e with e1 e2 _; subst e1; subst e2
        replace hx := Lib.hid hx
        replace hy := Lib.hid hy
        by_cases c1 : x = (k : Int)
        · have c1' : (x == (k : Int)) = true := by simpa using c1
          go_wp2_with fail
          go_ret
          exact ⟨ret_bool (by rw [hpb.out, free_no hx.out hy.out (.inl c1)]; rfl), hb⟩
        · have c1' : (x == (k : Int)) = false := by simpa using c1
          by_cases c2 : y = (k : Int)
          · have c2' : (y != (k : Int)) = false := by simpa using c2
            go_wp2_with fail
            go_roundw
            case rel =>
              refine ⟨k + 1, by omega, by go_num, fun j hj => ?_, hb⟩
              by_cases e : j = k
              · subst e; rw [getD_some hx.out, getD_some hy.out]; exact ⟨c1, c2⟩
              · exact hall.out j (by omega)
            case measure => simp [intOf]; omega
          · have c2' : (y != (k : Int)) = true := by simpa using c2
            go_wp2_with fail
            go_ret
            exact ⟨ret_bool (by rw [hpb.out, free_no hx.out hy.out (.inr c2)]; rfl), hb⟩
      · go_wp2_with fail
        go_ret
        have hkn : k = n := by omega
        subst hkn
        exact ⟨ret_bool (by rw [hpb.out, free_end hl.out hall.out]; rfl), hb⟩
  · have hpb := Lib.hid (isPermB_false hp)
    go_enter Tryz.func49, Tryz.ntmps49
    go_wp2_with fail
    ((with_reducible refine (isPerm_any _ _ _ xs _ _ _ h hhi).mono ?_); rintro e w1 ⟨rfl, hb1⟩)
    rw [hpb.out]
    go_wp2_with fail
    go_ret
    exact ⟨ret_bool (by rw [hpb.out]; rfl), hb1⟩
set_option maxHeartbeats 400000 in
theorem inverse_any (A : Option Addr) (n c : Nat) (xs : List Int) (w : World) (lo hi : Nat) (h : RI w lo hi A n xs) (hhi : hi ≤ w.heap.size) (h4 : n ≤ 1048576) (hr : ∀ x ∈ xs, 0 ≤ x ∧ x < n) (hn : xs.Nodup) :
    Calls Tryz.prog 34 #[.slice A n c] w fun e w' => ∃ A', e = .returned (.slice A' n n) ∧ Own w' w.heap.size w'.heap.size 2 A' n n ((invL xs).map (Value.int .i64)) ∧ Below w.heap.size w w' := by
  obtain ⟨i0, hi0, hz0, hz1, hz2⟩ := info_parts infoI
  have hl := Lib.hid h.len
  replace hr := Lib.hid hr
  replace hn := Lib.hid hn
  go_enter Tryz.func34, Tryz.ntmps34
  go_wp2_with (at_make; refine wpList_make_full _ rfl _ _ 35 rfl w.heap.size 2 i0 (.int .i64 0) 1 Tryz.underlying35 hi0 hz0 hz1 _ _ _ _ n rfl rfl rfl rfl ?c1 ?c2 (Nat.le_refl _) ?_)
  case c1 => rw [hz2]; omega
  case c2 => simp only [maxLen]; omega
  intro w1 hown hg
  have hb1 : Below w.heap.size w w1 := below_of_grown hg (Nat.le_refl _) (by simp)
  go_wp2_with fail
  go_loopw [11] (fun i wr => ∃ (k : Nat) (ys : List Int), k ≤ n ∧ i = .int .i64 k ∧ (∀ j x, j < k → xs[j]? = some x → ys[x.toNat]? = some (j : Int)) ∧ wr.ownsRow w.heap.size 2 1 (.slice (some ⟨w.heap.size, 0, none⟩) n n) n (ys.map (Value.int .i64)) ∧ Below w.heap.size w wr) (fun i wr => n - (intOf i).toNat)
  case atStart =>
    refine ⟨0, List.replicate n 0, by omega, rfl, fun j x hj => absurd hj (by omega), ?_, hb1⟩
    simpa [toList_madeCells_one, Value.cells] using hown
  case round =>
    obtain ⟨k, ys, hk, rfl, hys, ho, hb⟩ := hrel
    replace hys := Lib.hid hys
    by_cases hlt : k < n
    · obtain ⟨b, o, x, rfl, hb1, hb2, hx, hc⟩ := (h.below hb hhi).at_ hlt
      obtain ⟨hx0, hx1⟩ := hr.out x (mem_of_get? hx)
      replace hx := Lib.hid hx
      have hyl : ys.length = n := by have := ho.1; simpa using this
      replace hyl := Lib.hid hyl
      have hc3 : wr.cell? ⟨w.heap.size, x.toNat, none⟩ = some (.int .i64 (ys.getD x.toNat 0)) := by
        rw [ho.cellAt x.toNat (by omega)]
        have hyl := hyl.out
        simp [List.getD, hyl, show x.toNat < n from by omega]
      have hfr := ho.frozenAt x.toNat
      go_wp2_with fail
      go_roundw
      case rel =>
        refine ⟨k + 1, ys.set x.toNat k, by omega, by go_num, fun j y hj hy => ?_, ?_, hb.setCell (by simp) _⟩
        · have hyl := hyl.out
          have hx := hx.out
          have hy0 := hr.out y (mem_of_get? hy)
          rw [List.getElem?_set]
          by_cases e : j = k
          · subst e
            rw [hx] at hy
            obtain rfl := Option.some.inj hy
            rw [if_pos rfl, if_pos (by omega)]
          · have hne : x.toNat ≠ y.toNat := by
              intro e'
              have e2 : x = y := by omega
              subst e2
              have := (List.getElem?_inj (by have := (List.getElem?_eq_some_iff.1 hy).1; omega) hn.out).1 (hy.trans hx.symm)
              omega
            rw [if_neg hne]
            exact hys.out j y (by omega) hy
        · rw [List.map_set]; exact (ho.stored x.toNat (.int .i64 k)).1
      case measure => simp [intOf]; omega
    · go_wp2_with fail
      go_ret
      have hkn : k = n := by omega
      subst hkn
      have hyl : ys.length = k := by have := ho.1; simpa using this
      have hxl := hl.out
      have e : ys = invL xs := by
        refine list_ext_upto k (by omega) (by rw [invL_length]; omega) fun j hj => ?_
        have hm := perm_mem hxl hr.out hn.out (j := (j : Int)) (by omega) (by omega)
        have hi := get?_idxOf hm
        have := hys.out (xs.idxOf (j : Int)) (j : Int) (by have := List.idxOf_lt_length_iff.2 hm; omega) hi
        rw [invL_get (by omega)]
        simpa using this
      exact ⟨_, rfl, Own.of_row (e ▸ ho), hb⟩
set_option maxHeartbeats 400000 in
theorem then_any (A : Option Addr) (n c : Nat) (xs : List Int) (A' : Option Addr) (n' c' : Nat) (ys : List Int) (w : World) {lo hi lo' hi' : Nat} (h : RI w lo hi A n xs) (hhi : hi ≤ w.heap.size) (h' : RI w lo' hi' A' n' ys) (hhi' : hi' ≤ w.heap.size)
    (h4 : n ≤ 1048576) (hr : ∀ x ∈ xs, 0 ≤ x ∧ x < n') :
    Calls Tryz.prog 33 #[.slice A n c, .slice A' n' c'] w fun e w' => ∃ A1, e = .returned (.slice A1 n n) ∧ Own w' w.heap.size w'.heap.size 2 A1 n n ((thenL xs ys).map (Value.int .i64)) ∧ Below w.heap.size w w' := by
  obtain ⟨i0, hi0, hz0, hz1, hz2⟩ := info_parts infoI
  have hl := Lib.hid h.len
  replace hr := Lib.hid hr
  have hm' := h'.max
  go_enter Tryz.func33, Tryz.ntmps33
  go_wp2_with (at_make; refine wpList_make_full _ rfl _ _ 35 rfl w.heap.size 2 i0 (.int .i64 0) 1 Tryz.underlying35 hi0 hz0 hz1 _ _ _ _ n rfl rfl rfl rfl ?c1 ?c2 (Nat.le_refl _) ?_)
  case c1 => rw [hz2]; omega
  case c2 => simp only [maxLen]; omega
  intro w1 hown hg
  have hb1 : Below w.heap.size w w1 := below_of_grown hg (Nat.le_refl _) (by simp)
  go_wp2_with fail
  go_loopw [13] (fun i wr => ∃ (k : Nat) (zs : List Int), k ≤ n ∧ i = .int .i64 k ∧ (∀ j, j < k → zs[j]? = (thenL xs ys)[j]?) ∧ wr.ownsRow w.heap.size 2 1 (.slice (some ⟨w.heap.size, 0, none⟩) n n) n (zs.map (Value.int .i64)) ∧ Below w.heap.size w wr) (fun i wr => n - (intOf i).toNat)
  case atStart =>
    refine ⟨0, List.replicate n 0, by omega, rfl, fun j hj => absurd hj (by omega), ?_, hb1⟩
    simpa [toList_madeCells_one, Value.cells] using hown
  case round =>
    obtain ⟨k, zs, hk, rfl, hzs, ho, hb⟩ := hrel
    replace hzs := Lib.hid hzs
    by_cases hlt : k < n
    · obtain ⟨b, o, x, rfl, _, _, hx, hc⟩ := (h.below hb hhi).at_ hlt
      obtain ⟨hx0, hx1⟩ := hr.out x (mem_of_get? hx)
      obtain ⟨b', o', y, rfl, _, _, hy, hcy⟩ := (h'.below hb hhi').at_ (k := x.toNat) (by omega)
      replace hx := Lib.hid hx
      replace hy := Lib.hid hy
      have hzl : zs.length = n := by have := ho.1; simpa using this
      replace hzl := Lib.hid hzl
      have hc3 : wr.cell? ⟨w.heap.size, k, none⟩ = some (.int .i64 (zs.getD k 0)) := by
        rw [ho.cellAt k (by omega)]
        have hzl := hzl.out
        simp [List.getD, hzl, hlt]
      have hfr := ho.frozenAt k
      go_wp2_with fail
      go_roundw
      case rel =>
        refine ⟨k + 1, zs.set k y, by omega, by go_num, fun j hj => ?_, ?_, hb.setCell (by simp) _⟩
        · have hzl := hzl.out
          rw [List.getElem?_set]
          by_cases e : k = j
          · subst e
            rw [if_pos rfl, if_pos (by omega), thenL_get hx.out, getD_some hy.out]
          · rw [if_neg e]
            exact hzs.out j (by omega)
        · rw [List.map_set]; exact (ho.stored k (.int .i64 y)).1
      case measure => simp [intOf]; omega
    · go_wp2_with fail
      go_ret
      have hkn : k = n := by omega
      subst hkn
      have hzl : zs.length = k := by have := ho.1; simpa using this
      have hxl := hl.out
      have e : zs = thenL xs ys := list_ext_upto k (by omega) (by rw [thenL_length]; omega) hzs.out
      exact ⟨_, rfl, Own.of_row (e ▸ ho), hb⟩
set_option maxHeartbeats 400000 in
theorem l01Back_any (A : Option Addr) (n c : Nat) (xs : List Int) (w : World) (lo hi : Nat) (h : RI w lo hi A n xs) (hhi : hi ≤ w.heap.size) (h4 : n ≤ 1048576) (hr : ∀ x ∈ xs, 0 ≤ x ∧ x < n) (hn : xs.Nodup) :
    Calls Tryz.prog 84 #[.slice A n c] w fun e w' => ∃ A', e = .returned (.slice A' n n) ∧ Own w' w.heap.size w'.heap.size 2 A' n n ((invL xs).map (Value.int .i64)) ∧ Below w.heap.size w w' := by
  obtain ⟨i0, hi0, hz0, hz1, hz2⟩ := info_parts infoI
  have hl := Lib.hid h.len
  replace hr := Lib.hid hr
  replace hn := Lib.hid hn
  go_enter Tryz.func84, Tryz.ntmps84
  go_wp2_with (at_make; refine wpList_make_full _ rfl _ _ 35 rfl w.heap.size 2 i0 (.int .i64 0) 1 Tryz.underlying35 hi0 hz0 hz1 _ _ _ _ n rfl rfl rfl rfl ?c1 ?c2 (Nat.le_refl _) ?_)
  case c1 => rw [hz2]; omega
  case c2 => simp only [maxLen]; omega
  intro w1 hown hg
  have hb1 : Below w.heap.size w w1 := below_of_grown hg (Nat.le_refl _) (by simp)
  go_wp2_with fail
  go_loopw [4] (fun i wr => ∃ (k : Nat) (ys : List Int), k ≤ n ∧ i = .int .i64 k ∧ (∀ j x, j < k → xs[j]? = some x → ys[x.toNat]? = some (j : Int)) ∧ wr.ownsRow w.heap.size 2 1 (.slice (some ⟨w.heap.size, 0, none⟩) n n) n (ys.map (Value.int .i64)) ∧ Below w.heap.size w wr) (fun i wr => n - (intOf i).toNat)
  case atStart =>
    refine ⟨0, List.replicate n 0, by omega, rfl, fun j x hj => absurd hj (by omega), ?_, hb1⟩
    simpa [toList_madeCells_one, Value.cells] using hown
  case round =>
    obtain ⟨k, ys, hk, rfl, hys, ho, hb⟩ := hrel
    replace hys := Lib.hid hys
    by_cases hlt : k < n
    · obtain ⟨b, o, x, rfl, hb1, hb2, hx, hc⟩ := (h.below hb hhi).at_ hlt
      obtain ⟨hx0, hx1⟩ := hr.out x (mem_of_get? hx)
      replace hx := Lib.hid hx
      have hyl : ys.length = n := by have := ho.1; simpa using this
      replace hyl := Lib.hid hyl
      have hc3 : wr.cell? ⟨w.heap.size, x.toNat, none⟩ = some (.int .i64 (ys.getD x.toNat 0)) := by
        rw [ho.cellAt x.toNat (by omega)]
        have hyl := hyl.out
        simp [List.getD, hyl, show x.toNat < n from by omega]
      have hfr := ho.frozenAt x.toNat
      go_wp2_with fail
      go_roundw
      case rel =>
        refine ⟨k + 1, ys.set x.toNat k, by omega, by go_num, fun j y hj hy => ?_, ?_, hb.setCell (by simp) _⟩
        · have hyl := hyl.out
          have hx := hx.out
          have hy0 := hr.out y (mem_of_get? hy)
          rw [List.getElem?_set]
          by_cases e : j = k
          · subst e
            rw [hx] at hy
            obtain rfl := Option.some.inj hy
            rw [if_pos rfl, if_pos (by omega)]
          · have hne : x.toNat ≠ y.toNat := by
              intro e'
              have e2 : x = y := by omega
              subst e2
              have := (List.getElem?_inj (by have := (List.getElem?_eq_some_iff.1 hy).1; omega) hn.out).1 (hy.trans hx.symm)
              omega
            rw [if_neg hne]
            exact hys.out j y (by omega) hy
        · rw [List.map_set]; exact (ho.stored x.toNat (.int .i64 k)).1
      case measure => simp [intOf]; omega
    · go_wp2_with fail
      go_ret
      have hkn : k = n := by omega
      subst hkn
      have hyl : ys.length = k := by have := ho.1; simpa using this
      have hxl := hl.out
      have e : ys = invL xs := by
        refine list_ext_upto k (by omega) (by rw [invL_length]; omega) fun j hj => ?_
        have hm := perm_mem hxl hr.out hn.out (j := (j : Int)) (by omega) (by omega)
        have hi := get?_idxOf hm
        have := hys.out (xs.idxOf (j : Int)) (j : Int) (by have := List.idxOf_lt_length_iff.2 hm; omega) hi
        rw [invL_get (by omega)]
        simpa using this
      exact ⟨_, rfl, Own.of_row (e ▸ ho), hb⟩
end Go.Proofs.YtbioelmofceaaaaGreat
/- Cyc -/
namespace Go.Proofs.YtbioelmofceaaaaGreat
open Go.RowKit
set_option linter.unusedVariables false
set_option maxRecDepth 100000
theorem infoS : (Tryz.prog.info? 35).map (fun i => (i.zero, i.size, i.bytes)) = some (some (.slice none 0 0), 1, 24) := by kernel_rfl
end Go.Proofs.YtbioelmofceaaaaGreat
/- Ord -/
namespace Go.Proofs.YtbioelmofceaaaaGreat
open Go.RowKit
set_option linter.unusedVariables false
set_option maxRecDepth 100000
theorem wrap_in {x y : Int} (h : x = y) (h1 : -9223372036854775808 ≤ y) (h2 : y ≤ 9223372036854775807) : IntKind.i64.wrap x = y := by
  subst h; rw [IntKind.wrap_i64]; omega
end Go.Proofs.YtbioelmofceaaaaGreat
/- Sys -/
namespace Go.Proofs.YtbioelmofceaaaaGreat
open Go.RowKit
set_option linter.unusedVariables false
set_option maxRecDepth 100000

def isSysP (n : Int) (list : List (List Int)) : Prop := 0 ≤ n ∧ n ≤ 400 ∧ list.length ≤ 16 ∧ ∀ p ∈ list, isPermP p ∧ (p.length : Int) = n
instance (n : Int) (list : List (List Int)) : Decidable (isSysP n list) := by unfold isSysP; infer_instance
def isSysB (n : Int) (list : List (List Int)) : Bool := decide (isSysP n list)
theorem isSysB_iff {n : Int} {list : List (List Int)} : isSysB n list = true ↔ isSysP n list := by unfold isSysB; simp
theorem isSysB_false {n : Int} {list : List (List Int)} (h : ¬ isSysP n list) : isSysB n list = false := by unfold isSysB; simp [h]
/-- a list is no permutation of n points -/
def badFor (n : Int) (p : List Int) : Bool := !(isPermB p && decide ((p.length : Int) = n))
theorem isSysB_eq {n : Int} {xss : List (List Int)} (h0 : 0 ≤ n) (h4 : n ≤ 400) (hl : xss.length ≤ 16) : isSysB n xss = !(xss.any (badFor n)) := by
  unfold isSysB
  cases hb : xss.any (badFor n) with
  | true =>
    obtain ⟨p, hp, hq⟩ := List.any_eq_true.1 hb
    simp only [Bool.not_true, decide_eq_false_iff_not]
    intro h
    obtain ⟨h1, h2⟩ := h.2.2.2 p hp
    unfold badFor at hq
    rw [isPermB_iff.2 h1, decide_eq_true h2] at hq
    simp at hq
  | false =>
    simp only [Bool.not_false, decide_eq_true_eq]
    refine ⟨h0, h4, hl, fun p hp => ?_⟩
    have hq := List.any_eq_false.1 hb p hp
    unfold badFor at hq
    simp at hq
    exact ⟨isPermB_iff.1 hq.1, hq.2⟩
end Go.Proofs.YtbioelmofceaaaaGreat
/- Word -/
namespace Go.Proofs.YtbioelmofceaaaaGreat
open Go.RowKit
set_option linter.unusedVariables false
set_option maxRecDepth 100000

/-- low to high -/
def inR (lo hi x : Int) : Bool := decide (lo ≤ x) && decide (x ≤ hi)
theorem inR_iff {lo hi x : Int} : inR lo hi x = true ↔ lo ≤ x ∧ x ≤ hi := by simp [inR]
def allIn (lo hi : Int) (xs : List Int) : Bool := xs.all (inR lo hi)
/-- a word applied to a point -/
def runW (list : List (List Int)) (word : List Int) (x : Int) : Int := word.foldl (fun x g => (list.getD g.toNat []).getD x.toNat 0) x
theorem runW_snoc (list : List (List Int)) (word : List Int) (g x : Int) : runW list (word ++ [g]) x = (list.getD g.toNat []).getD (runW list word x).toNat 0 := by simp [runW]
def applyF (n : Int) (list : List (List Int)) (word : List Int) (x : Int) : Int × Int :=
  if isSysB n list = true then (if inR 0 (n - 1) x = true ∧ word.length ≤ 64 ∧ allIn 0 ((list.length : Int) - 1) word = true then (runW list word x, 0) else (0, 2)) else (0, 1)
theorem sizeS_any (A : Option Addr) (n c : Nat) (w : World) (hn : n ≤ 9223372036854775807) :
    Calls Tryz.prog 68 #[.slice A n c] w fun e w' => e = .returned (.int .i64 n) ∧ w = w' := by
  go_enter Tryz.func68, Tryz.ntmps68
  go_wp2
  go_ret
  exact ⟨rfl, rfl⟩
theorem rng_of' {p : List Int} {n : Nat} (h : isPermP p) (hl : p.length = n) : ∀ x ∈ p, 0 ≤ x ∧ x < n := by
  have := h.rng; rw [hl] at this; exact this
end Go.Proofs.YtbioelmofceaaaaGreat
/- OrbO -/
namespace Go.Proofs.YtbioelmofceaaaaGreat
open Go.RowKit
set_option linter.unusedVariables false
set_option maxRecDepth 100000
/-- the first k places, those with x -/
def plc (xs : List Int) (x : Int) (k : Nat) : List Int := ((List.range k).filter fun j => decide (x = xs.getD j 0)).map Int.ofNat
theorem plc_succ (xs : List Int) (x : Int) (k : Nat) : plc xs x (k + 1) = plc xs x k ++ (if x = xs.getD k 0 then [(k : Int)] else []) := by
  unfold plc
  rw [List.range_succ, List.filter_append, List.map_append]
  congr 1
  split <;> simp_all
theorem plc_le (xs : List Int) (x : Int) (k : Nat) : (plc xs x k).length ≤ k := by
  unfold plc
  have := List.length_filter_le (fun j => decide (x = xs.getD j 0)) (List.range k)
  simpa using this
theorem plc_sorted (xs : List Int) (x : Int) (k : Nat) : Sorted (plc xs x k) := by
  unfold Sorted plc
  rw [List.pairwise_map]
  refine (List.Pairwise.filter _ List.pairwise_lt_range).imp ?_
  intro a b h
  have : a < b := h
  show (a : Int) ≤ b
  omega
theorem plc_nodup (xs : List Int) (x : Int) (k : Nat) : (plc xs x k).Nodup := by
  unfold plc
  rw [List.nodup_iff_pairwise_ne, List.pairwise_map]
  refine (List.Pairwise.filter _ List.pairwise_lt_range).imp ?_
  intro a b h
  have : a < b := h
  show (a : Int) ≠ b
  omega
theorem plc_mem {xs : List Int} {x : Int} {k : Nat} {z : Int} : z ∈ plc xs x k ↔ 0 ≤ z ∧ z < k ∧ x = xs.getD z.toNat 0 := by
  unfold plc
  simp only [List.mem_map, List.mem_filter, List.mem_range]
  constructor
  · rintro ⟨j, ⟨h1, h2⟩, rfl⟩
    have h2 := of_decide_eq_true h2
    refine ⟨by simp, by simpa using h1, ?_⟩
    simpa using h2
  · rintro ⟨h1, h2, h3⟩
    exact ⟨z.toNat, ⟨by omega, by simpa using h3⟩, by simp; omega⟩
theorem perm_of_mem {l₁ l₂ : List Int} (h1 : l₁.Nodup) (h2 : l₂.Nodup) (h : ∀ a, a ∈ l₁ ↔ a ∈ l₂) : l₁.Perm l₂ := by
  rw [List.perm_iff_count]
  intro a
  rw [h1.count, h2.count]
  simp only [h a]
theorem cntR_mono (list : List (List Int)) {a b : Nat} (h : a ≤ b) : cntR list a ≤ cntR list b := by
  induction b with
  | zero => have : a = 0 := by omega
            subst this; exact Nat.le_refl _
  | succ b ih =>
    by_cases e : a = b + 1
    · subst e; exact Nat.le_refl _
    · have := ih (by omega)
      rw [cntR_succ]; omega
theorem rootB_rootOf {list : List (List Int)} {n x : Nat} (hs : SysOf list n) (hx : x < n) : rootB list (rootOf list x) = true := by
  obtain ⟨h1, h2⟩ := rootOf_spec list x
  rw [root_iff]
  rintro ⟨j, hj, hr⟩
  exact h2 j hj (hr.trans h1)
theorem rootOf_le (list : List (List Int)) (x : Nat) : rootOf list x ≤ x := by
  obtain ⟨h1, h2⟩ := rootOf_spec list x
  by_cases h : rootOf list x ≤ x
  · exact h
  · exact absurd Rch.refl (h2 x (by omega))
theorem cntR_lt {list : List (List Int)} {a b : Nat} (ha : rootB list a = true) (h : a < b) : cntR list a < cntR list b := by
  have h1 := cntR_mono list (show a + 1 ≤ b by omega)
  rw [cntR_succ, if_pos ha] at h1
  omega
theorem labOf_eq_iff {list : List (List Int)} {n x y : Nat} (hs : SysOf list n) (hx : x < n) (hy : y < n) : labOf list x = labOf list y ↔ Rch list x y := by
  have hrx := (rootOf_spec list x).1
  have hry := (rootOf_spec list y).1
  have hlx := rootOf_le list x
  have hly := rootOf_le list y
  constructor
  · intro h
    unfold labOf at h
    have e : rootOf list x = rootOf list y := by
      rcases Nat.lt_trichotomy (rootOf list x) (rootOf list y) with h3 | h3 | h3
      · have := cntR_lt (rootB_rootOf hs hx) h3; omega
      · exact h3
      · have := cntR_lt (rootB_rootOf hs hy) h3; omega
    rw [e] at hrx
    exact (hrx.symm hs (by omega) (by omega)).trans hry
  · intro h
    unfold labOf
    rw [show rootOf list x = rootOf list y from (rootOf_eq (hrx.trans h) (fun j hj hr => (rootOf_spec list x).2 j hj (hr.trans (h.symm hs (by omega) (by omega))))).symm]
theorem places_eq {list : List (List Int)} {n p : Nat} (hs : SysOf list n) (hp : p < n) : plc (labL list n) (labOf list p) n = sortL (bfs list n p) := by
  have hm := bfs_met hs (show (0 : Int) ≤ p by omega) (show (p : Int) < n by omega)
  refine sortL_eq (perm_of_mem (plc_nodup _ _ _) hm.nd fun a => ?_) (plc_sorted _ _ _)
  rw [plc_mem, bfs_mem hs (by omega) (by omega)]
  constructor
  · rintro ⟨h1, h2, h3⟩
    rw [getD_some (labL_get (show a.toNat < n by omega))] at h3
    have := (labOf_eq_iff hs hp (by omega)).1 h3
    rwa [Int.toNat_of_nonneg h1] at this
  · intro h
    obtain ⟨h1, h2⟩ := h.rng hs (by omega) (by omega)
    refine ⟨h1, h2, ?_⟩
    rw [getD_some (labL_get (show a.toNat < n by omega))]
    exact (labOf_eq_iff hs hp (by omega)).2 (by rwa [Int.toNat_of_nonneg h1])
theorem sysOf {n : Nat} {xss : List (List Int)} (h : isSysB n xss = true) : SysOf xss n ∧ n ≤ 400 := by
  obtain ⟨h1, h2, h3, h4⟩ := isSysB_iff.1 h
  refine ⟨fun p hp => ?_, by omega⟩
  obtain ⟨g1, g2⟩ := h4 p hp
  have hl : p.length = n := by omega
  refine ⟨fun x hx => ?_, g1.nd, hl⟩
  have := g1.rng x hx
  rw [hl] at this
  exact this
noncomputable def orbLF (n : Int) (xss : List (List Int)) : List Int × Int := if isSysB n xss = true then (labL xss n.toNat, 0) else ([], 1)
def orbOF (n : Int) (xss : List (List Int)) (x : Int) : List Int × Int := if isSysB n xss = true then (if inR 0 (n - 1) x = true then (sortL (bfs xss n.toNat x), 0) else ([], 2)) else ([], 1)
end Go.Proofs.YtbioelmofceaaaaGreat
/- ManP -/
namespace Go.Proofs.YtbioelmofceaaaaGreat
set_option linter.unusedVariables false
set_option maxRecDepth 100000
open Classical
/-- the number of flags -/
def flg (xss : List (List Int)) : Nat := (xss.getD 0 []).length
/-- a free involution of as many points as there are flags -/
def mvB (n : Nat) (p : List Int) : Bool := isPermB p && freeB p && decide (p.length = n)
/-- two moves at a flag -/
def comB (a b : List Int) (f : Nat) : Bool := decide (a.getD f 0 ≠ b.getD f 0) && decide (b.getD (a.getD f 0).toNat 0 = a.getD (b.getD f 0).toNat 0)
/-- two moves -/
def parB (n : Nat) (a b : List Int) : Bool := (List.range n).all (comB a b)
structure ManP (xss : List (List Int)) : Prop where
  r1 : 1 ≤ xss.length
  r5 : xss.length ≤ 5
  f2 : 2 ≤ flg xss
  f4 : flg xss ≤ 400
  mv : ∀ p ∈ xss, mvB (flg xss) p = true
  com : ∀ i k a b, i + 2 ≤ k → xss[i]? = some a → xss[k]? = some b → parB (flg xss) a b = true
  con : cntR xss (flg xss) = 1
noncomputable def isManB (xss : List (List Int)) : Bool := decide (ManP xss)
theorem isManB_iff {xss : List (List Int)} : isManB xss = true ↔ ManP xss := by unfold isManB; simp
theorem isManB_false {xss : List (List Int)} (h : ¬ ManP xss) : isManB xss = false := by unfold isManB; simp [h]
theorem mvB_iff {n : Nat} {p : List Int} : mvB n p = true ↔ isPermP p ∧ freeB p = true ∧ p.length = n := by
  unfold mvB
  simp [isPermB_iff, and_assoc]
theorem sysOf_mv {xss : List (List Int)} {n : Nat} (h : ∀ p ∈ xss, mvB n p = true) : SysOf xss n := by
  intro p hp
  obtain ⟨h1, _, h3⟩ := mvB_iff.1 (h p hp)
  refine ⟨fun x hx => ?_, h1.nd, h3⟩
  have := h1.rng x hx
  rw [h3] at this
  exact this
theorem ManP.sys {xss : List (List Int)} (h : ManP xss) : SysOf xss (flg xss) := sysOf_mv h.mv
theorem rootB_zero (list : List (List Int)) : rootB list 0 = true := by rw [root_iff]; rintro ⟨j, hj, _⟩; omega
/-- one orbit, exactly if the orbit of point 0 has all -/
theorem conn_iff {list : List (List Int)} {n : Nat} (hs : SysOf list n) (hn : 1 ≤ n) : cntR list n = 1 ↔ (bfs list n 0).length = n := by
  have hm := bfs_met hs (show (0 : Int) ≤ (0 : Int) by omega) (show (0 : Int) < n by omega)
  have hmem : ∀ z : Int, z ∈ bfs list n 0 ↔ Rch list 0 z := fun z => bfs_mem hs (by omega) (by omega)
  have hz1 : cntR list 1 = 1 := by
    have := cntR_succ list 0
    rw [if_pos (rootB_zero list)] at this
    simpa [cntR] using this
  constructor
  · intro h
    have hall : ∀ x : Nat, x < n → Rch list ((0 : Nat) : Int) x := by
      intro x hx
      have hr := rootB_rootOf hs hx
      have hle := rootOf_le list x
      have h0 : rootOf list x = 0 := by
        by_cases h0 : rootOf list x = 0
        · exact h0
        · have h1 := cntR_mono list (show 1 ≤ rootOf list x by omega)
          have h2 := cntR_mono list (show rootOf list x + 1 ≤ n by omega)
          rw [cntR_succ, if_pos hr] at h2
          omega
      have := (rootOf_spec list x).1
      rwa [h0] at this
    have h1 := nodup_sub_len ((List.range n).map Int.ofNat) (bfs list n 0) (by
      rw [List.nodup_iff_pairwise_ne, List.pairwise_map]
      refine List.pairwise_lt_range.imp ?_
      intro a b h e
      have e : (a : Int) = b := e
      have : a < b := h
      omega) (fun a ha => by
      obtain ⟨g1, g2⟩ := mem_ints.1 ha
      have := hall a.toNat (by omega)
      rw [Int.toNat_of_nonneg g1] at this
      exact (hmem a).2 this)
    have := hm.len
    simp at h1
    omega
  · intro h
    have hall : ∀ x : Nat, x < n → Rch list ((0 : Nat) : Int) x := by
      intro x hx
      refine (hmem x).1 (mem_of_full hm.nd (fun a ha => mem_ints.2 (hm.rng a ha)) (by simp [h]) (mem_ints.2 ⟨by omega, by omega⟩))
    have key : ∀ i : Nat, 1 ≤ i → i ≤ n → cntR list i = 1 := by
      intro i h1 h2
      induction i with
      | zero => omega
      | succ i ih =>
        by_cases e : i = 0
        · subst e; exact hz1
        · rw [cntR_succ, ih (by omega) (by omega), if_neg]
          intro hr
          exact root_iff.1 hr ⟨0, by omega, hall i (by omega)⟩
    exact key n hn (Nat.le_refl _)
theorem all_range_succ {f : Nat → Bool} {k : Nat} (h : (List.range k).all f = true) (hk : f k = true) : (List.range (k + 1)).all f = true := by
  rw [List.range_succ, List.all_append, h]; simp [hk]
/-- what is checked of the pairs before the i-th move, and with the i-th before the k-th -/
def PairsTo (xss : List (List Int)) (i k : Nat) : Prop := ∀ i' k' a b, (i' < i ∨ (i' = i ∧ k' < k)) → i' + 2 ≤ k' → xss[i']? = some a → xss[k']? = some b → parB (flg xss) a b = true
theorem PairsTo.zero (xss : List (List Int)) : PairsTo xss 0 2 := by
  intro i' k' a b h1 h2
  omega
theorem PairsTo.step {xss : List (List Int)} {i k : Nat} {a b : List Int} (h : PairsTo xss i k) (ha : xss[i]? = some a) (hb : xss[k]? = some b) (hp : parB (flg xss) a b = true) : PairsTo xss i (k + 1) := by
  intro i' k' a' b' h1 h2 h3 h4
  by_cases e : i' = i ∧ k' = k
  · obtain ⟨rfl, rfl⟩ := e
    rw [ha] at h3; rw [hb] at h4
    injection h3 with h3; injection h4 with h4
    subst h3; subst h4
    exact hp
  · exact h i' k' a' b' (by omega) h2 h3 h4
theorem PairsTo.next {xss : List (List Int)} {i k : Nat} (h : PairsTo xss i k) (hk : xss.length ≤ k) : PairsTo xss (i + 1) (i + 3) := by
  intro i' k' a' b' h1 h2 h3 h4
  have := (List.getElem?_eq_some_iff.1 h4).1
  exact h i' k' a' b' (by omega) h2 h3 h4
theorem PairsTo.done {xss : List (List Int)} {i k : Nat} (h : PairsTo xss i k) (hi : xss.length ≤ i) : ∀ i k a b, i + 2 ≤ k → xss[i]? = some a → xss[k]? = some b → parB (flg xss) a b = true := by
  intro i' k' a' b' h2 h3 h4
  have := (List.getElem?_eq_some_iff.1 h3).1
  exact h i' k' a' b' (by omega) h2 h3 h4
theorem isManB_all {xss : List (List Int)} (h1 : 1 ≤ xss.length) (h5 : xss.length ≤ 5) (f2 : 2 ≤ flg xss) (f4 : flg xss ≤ 400) (mv : ∀ p ∈ xss, mvB (flg xss) p = true)
    (com : ∀ i k a b, i + 2 ≤ k → xss[i]? = some a → xss[k]? = some b → parB (flg xss) a b = true) : isManB xss = decide (cntR xss (flg xss) = 1) ∧ isManB xss = decide ((bfs xss (flg xss) 0).length = flg xss) := by
  have h := conn_iff (sysOf_mv mv) (show 1 ≤ flg xss by omega)
  have e : isManB xss = decide (cntR xss (flg xss) = 1) := by
    by_cases hc : cntR xss (flg xss) = 1
    · rw [isManB_iff.2 ⟨h1, h5, f2, f4, mv, com, hc⟩, decide_eq_true hc]
    · rw [isManB_false (fun hh => hc hh.con), decide_eq_false hc]
  refine ⟨e, ?_⟩
  rw [e]
  by_cases hc : cntR xss (flg xss) = 1
  · rw [decide_eq_true hc, decide_eq_true (h.1 hc)]
  · rw [decide_eq_false hc, decide_eq_false (fun hh => hc (h.2 hh))]
theorem isManB_mv {xss : List (List Int)} {p : List Int} (hp : p ∈ xss) (h : mvB (flg xss) p = false) : isManB xss = false :=
  isManB_false fun hh => by have := hh.mv p hp; rw [h] at this; cases this
theorem isManB_com {xss : List (List Int)} {i k f : Nat} {a b : List Int} (hik : i + 2 ≤ k) (ha : xss[i]? = some a) (hb : xss[k]? = some b) (hf : f < flg xss) (h : comB a b f = false) : isManB xss = false :=
  isManB_false fun hh => by
    have := List.all_eq_true.1 (hh.com i k a b hik ha hb) f (by simpa using hf)
    rw [h] at this
    cases this
end Go.Proofs.YtbioelmofceaaaaGreat
/- LawS -/
namespace Go.Proofs.YtbioelmofceaaaaGreat
open Go.RowKit
set_option linter.unusedVariables false
set_option maxRecDepth 100000

/-- rows and numbers together -/
def numsIn : List (List Int) → Nat
  | [] => 0
  | r :: t => r.length + numsIn t
theorem numsIn_append (a b : List (List Int)) : numsIn (a ++ b) = numsIn a + numsIn b := by
  induction a with
  | nil => simp [numsIn]
  | cons r t ih => simp [numsIn, ih]; omega
theorem numsIn_take_succ {xss : List (List Int)} {k : Nat} {r : List Int} (h : xss[k]? = some r) : numsIn (xss.take (k + 1)) = numsIn (xss.take k) + r.length := by
  rw [take_succ_of h, numsIn_append]; simp [numsIn]
theorem numsIn_take_le (xss : List (List Int)) (k : Nat) : numsIn (xss.take k) ≤ numsIn xss := by
  have := numsIn_append (xss.take k) (xss.drop k)
  rw [List.take_append_drop] at this
  omega
theorem numsIn_mem_le {xss : List (List Int)} {k : Nat} {r : List Int} (h : xss[k]? = some r) : r.length ≤ numsIn xss := by
  have := numsIn_take_le xss (k + 1)
  rw [numsIn_take_succ h] at this
  omega
/-- what is left of a bound, or -1 -/
def leftOf (left need : Nat) : Int := if need ≤ left then (left : Int) - need else -1

theorem infoSS : (Tryz.prog.info? 35).map (fun i => (i.zero, i.size, i.bytes)) = some (some (.slice none 0 0), 1, 24) := by kernel_rfl
end Go.Proofs.YtbioelmofceaaaaGreat
/- FormP -/
namespace Go.Proofs.YtbioelmofceaaaaGreat
set_option linter.unusedVariables false
set_option maxRecDepth 100000
/-- the move p, the flags numbered as ord has them -/
def ixF (ord p : List Int) : List Int := ord.map fun f => (ord.idxOf (at' p f) : Int)
def formL (xss : List (List Int)) (n : Nat) (x : Int) : List (List Int) := xss.map (ixF (bfs xss n x))
theorem ixF_length (ord p : List Int) : (ixF ord p).length = ord.length := by simp [ixF]
theorem formL_length (xss : List (List Int)) (n : Nat) (x : Int) : (formL xss n x).length = xss.length := by simp [formL]
/-- the numbers of the first k of the flags -/
def NumI (ord : List Int) (n k : Nat) (ns : List Int) : Prop := ns.length = n ∧ ∀ z : Nat, z < n → ns[z]? = some (if (z : Int) ∈ ord.take k then (ord.idxOf (z : Int) : Int) else 0)
theorem NumI.zero (ord : List Int) (n : Nat) : NumI ord n 0 (List.replicate n 0) := ⟨by simp, fun z hz => by simp [hz]⟩
theorem NumI.step {ord : List Int} {n k f : Nat} {ns : List Int} (h : NumI ord n k ns) (hnd : ord.Nodup) (hf : ord[k]? = some (f : Int)) : NumI ord n (k + 1) (ns.set f (k : Int)) := by
  refine ⟨by simp [h.1], fun z hz => ?_⟩
  rw [take_succ_of hf]
  by_cases e : z = f
  · subst e
    rw [if_pos (by simp), idxOf_of_get? hnd hf]
    simp [h.1, hz]
  · rw [List.getElem?_set_ne (by omega), h.2 z hz]
    have : ¬ (z : Int) = (f : Int) := by omega
    simp [this]
theorem NumI.get {ord : List Int} {n z : Nat} {ns : List Int} (h : NumI ord n ord.length ns) (hz : z < n) (hm : (z : Int) ∈ ord) : ns[z]? = some (ord.idxOf (z : Int) : Int) := by
  rw [h.2 z hz, List.take_length, if_pos hm]
theorem numsIn_le {xss : List (List Int)} {n : Nat} (h : ∀ p ∈ xss, p.length ≤ n) : numsIn xss ≤ xss.length * n := by
  induction xss with
  | nil => simp [numsIn]
  | cons p t ih =>
    have h1 := h p (by simp)
    have h2 := ih (fun q hq => h q (by simp [hq]))
    have e : numsIn (p :: t) = p.length + numsIn t := by simp [numsIn]
    rw [e, List.length_cons, Nat.add_mul, Nat.one_mul]
    omega
theorem bfs_closed {list : List (List Int)} {n : Nat} {x y : Int} {p : List Int} (hs : SysOf list n) (h0 : 0 ≤ x) (h1 : x < n) (hy : y ∈ bfs list n x) (hp : p ∈ list) : at' p y ∈ bfs list n x :=
  (bfs_mem hs h0 h1).2 (((bfs_mem hs h0 h1).1 hy).step hp)
theorem formL_nums {xss : List (List Int)} {n : Nat} {x : Int} (hs : SysOf xss n) (h0 : 0 ≤ x) (h1 : x < n) (hn : n ≤ 400) (hl : xss.length ≤ 20) : (formL xss n x).length + numsIn (formL xss n x) ≤ 1048576 := by
  have hlen := (bfs_met hs h0 h1).len
  have := numsIn_le (xss := formL xss n x) (n := 400) (fun p hp => by
    obtain ⟨q, _, rfl⟩ := List.mem_map.1 hp
    rw [ixF_length]; omega)
  rw [formL_length] at *
  omega
end Go.Proofs.YtbioelmofceaaaaGreat
/- DistP -/
namespace Go.Proofs.YtbioelmofceaaaaGreat
set_option linter.unusedVariables false
set_option maxRecDepth 100000
/-- d at z -/
def dat (d : List Int) (z : Int) : Int := d.getD z.toNat 0
/-- what the move p adds at the point y -/
def dMove (y : Int) (s : List Int × List Int) (p : List Int) : List Int × List Int := if dat s.1 (at' p y) < 0 then (s.1.set (at' p y).toNat (dat s.1 y + 1), s.2 ++ [at' p y]) else s
def dStep (list : List (List Int)) (y : Int) (s : List Int × List Int) : List Int × List Int := list.foldl (dMove y) s
def dGo (list : List (List Int)) : Nat → List Int × List Int → Nat → List Int × List Int
  | 0, s, _ => s
  | f + 1, s, i => match s.2[i]? with
    | none => s
    | some y => dGo list f (dStep list y s) (i + 1)
def dstart (n : Nat) (x : Int) : List Int × List Int := ((List.replicate n (-1)).set x.toNat 0, [x])
def dist (list : List (List Int)) (n : Nat) (x : Int) : List Int := (dGo list (n + 1) (dstart n x) 0).1
theorem dStep_snoc (list : List (List Int)) (p : List Int) (y : Int) (s : List Int × List Int) : dStep (list ++ [p]) y s = dMove y (dStep list y s) p := by
  unfold dStep; rw [List.foldl_append]; rfl
theorem dGo_stop {list : List (List Int)} {f i : Nat} {s : List Int × List Int} (h : s.2.length ≤ i) : dGo list f s i = s := by
  cases f with
  | zero => rfl
  | succ f => simp [dGo, List.getElem?_eq_none h]
theorem dGo_step {list : List (List Int)} {f i : Nat} {s : List Int × List Int} {y : Int} (h : s.2[i]? = some y) : dGo list (f + 1) s i = dGo list f (dStep list y s) (i + 1) := by
  simp [dGo, h]
theorem dat_set_eq {d : List Int} {g : Int} {u : Int} {n : Nat} (hl : d.length = n) (h0 : 0 ≤ g) (h1 : g < n) : dat (d.set g.toNat u) g = u := by
  unfold dat; simp [List.getD, show g.toNat < d.length by omega]
theorem dat_set_ne {d : List Int} {g z : Int} {u : Int} (h0 : 0 ≤ g) (h1 : 0 ≤ z) (h : z ≠ g) : dat (d.set g.toNat u) z = dat d z := by
  unfold dat; simp [List.getD, List.getElem?_set_ne (show g.toNat ≠ z.toNat by omega)]
/-- what holds of the distances while the i-th of the points met is gone through -/
structure DMet (list : List (List Int)) (n : Nat) (x : Int) (d out : List Int) (i : Nat) : Prop where
  met : Met list n x out
  dl : d.length = n
  pos : ∀ z : Int, 0 ≤ z → z < n → (0 ≤ dat d z ↔ z ∈ out)
  neg : ∀ z : Int, 0 ≤ z → z < n → z ∉ out → dat d z = -1
  le : ∀ (j : Nat) z, out[j]? = some z → dat d z ≤ j
  mono : ∀ (j k : Nat) y z, j ≤ k → out[j]? = some y → out[k]? = some z → dat d y ≤ dat d z
  top : ∀ y z, out[i]? = some y → z ∈ out → dat d z ≤ dat d y + 1
  lip : ∀ (j : Nat) y p, j < i → out[j]? = some y → p ∈ list → at' p y ∈ out ∧ dat d (at' p y) ≤ dat d y + 1
  par : ∀ z ∈ out, z = x ∨ ∃ y p, p ∈ list ∧ y ∈ out ∧ z = at' p y ∧ dat d z = dat d y + 1
  zero : dat d x = 0
theorem DMet.start {list : List (List Int)} {n : Nat} {x : Int} (h0 : 0 ≤ x) (h1 : x < n) : DMet list n x (dstart n x).1 (dstart n x).2 0 := by
  have hz : dat (dstart n x).1 x = 0 := by unfold dstart; exact dat_set_eq (n := n) (by simp) h0 h1
  have hneg : ∀ z : Int, 0 ≤ z → z < n → z ≠ x → dat (dstart n x).1 z = -1 := by
    intro z g0 g1 hne
    unfold dstart
    rw [dat_set_ne h0 g0 hne]
    unfold dat
    simp [List.getD, show z.toNat < n by omega]
  have h1x : ∀ (j : Nat) (z : Int), (dstart n x).2[j]? = some z → j = 0 ∧ z = x := by
    intro j z h
    have h : ([x] : List Int)[j]? = some z := h
    have := (List.getElem?_eq_some_iff.1 h).1
    simp at this
    subst this
    simp at h
    exact ⟨rfl, h.symm⟩
  refine ⟨Met.one h0 h1, by simp [dstart], ?_, ?_, ?_, ?_, ?_, ?_, ?_, hz⟩
  · intro z g0 g1
    show _ ↔ z ∈ [x]
    by_cases e : z = x
    · subst e; simp [hz]
    · rw [hneg z g0 g1 e]; simp [e]
  · intro z g0 g1 hm
    exact hneg z g0 g1 (fun e => hm (by subst e; show z ∈ [z]; simp))
  · intro j z h
    obtain ⟨rfl, rfl⟩ := h1x j z h
    omega
  · intro j k y z _ hy hz'
    obtain ⟨_, rfl⟩ := h1x j y hy
    obtain ⟨_, rfl⟩ := h1x k z hz'
    exact Int.le_refl _
  · intro y z hy hz'
    obtain ⟨_, rfl⟩ := h1x 0 y hy
    have hz' : z ∈ [y] := hz'
    simp at hz'
    subst hz'
    omega
  · intro j y p hj
    omega
  · intro z hz'
    have hz' : z ∈ [x] := hz'
    simp at hz'
    exact .inl hz'
theorem DMet.datn {list : List (List Int)} {n : Nat} {x : Int} {d out : List Int} {i : Nat} (h : DMet list n x d out i) {z : Int} (hz : z ∈ out) : 0 ≤ dat d z ∧ dat d z < n := by
  have hr := h.met.rng z hz
  obtain ⟨j, hj⟩ := List.mem_iff_getElem?.1 hz
  have := h.le j z hj
  have := (List.getElem?_eq_some_iff.1 hj).1
  have := h.met.len
  exact ⟨(h.pos z hr.1 hr.2).2 hz, by omega⟩
theorem DMet.datr {list : List (List Int)} {n : Nat} {x : Int} {d out : List Int} {i : Nat} (h : DMet list n x d out i) {z : Int} (g0 : 0 ≤ z) (g1 : z < n) : -1 ≤ dat d z ∧ dat d z < n := by
  by_cases hz : z ∈ out
  · have := h.datn hz; omega
  · have := h.neg z g0 g1 hz; omega
theorem DMet.add {list : List (List Int)} {n : Nat} {x y : Int} {p : List Int} {d out : List Int} {i : Nat} (hs : SysOf list n) (h : DMet list n x d out i) (hy : out[i]? = some y) (hp : p ∈ list) (hn : dat d (at' p y) < 0) :
    DMet list n x (d.set (at' p y).toNat (dat d y + 1)) (out ++ [at' p y]) i := by
  have hym := mem_of_get? hy
  have hyr := h.met.rng y hym
  obtain ⟨g0, g1⟩ := at'_rng (hs p hp).1 (hs p hp).2.2 hyr.1 hyr.2
  have hgo : at' p y ∉ out := fun hm => by have := (h.pos _ g0 g1).2 hm; omega
  have hmet := h.met.add hs hym hp hgo
  generalize hg : at' p y = g at *
  have hdy := h.datn hym
  have hil := (List.getElem?_eq_some_iff.1 hy).1
  have hgg : dat (d.set g.toNat (dat d y + 1)) g = dat d y + 1 := dat_set_eq h.dl g0 g1
  have hold : ∀ z ∈ out, dat (d.set g.toNat (dat d y + 1)) z = dat d z := fun z hz => dat_set_ne g0 (h.met.rng z hz).1 (fun e => hgo (e ▸ hz))
  have hne : ∀ z : Int, 0 ≤ z → z ≠ g → dat (d.set g.toNat (dat d y + 1)) z = dat d z := fun z hz e => dat_set_ne g0 hz e
  have hget : ∀ (j : Nat) z, (out ++ [g])[j]? = some z → (out[j]? = some z ∧ j < out.length) ∨ (j = out.length ∧ z = g) := by
    intro j z hj
    by_cases hlt : j < out.length
    · rw [List.getElem?_append_left hlt] at hj; exact .inl ⟨hj, hlt⟩
    · have := (List.getElem?_eq_some_iff.1 hj).1
      simp at this
      have e : j = out.length := by omega
      subst e
      simp at hj
      exact .inr ⟨rfl, hj.symm⟩
  refine ⟨hmet, by simp [h.dl], ?_, ?_, ?_, ?_, ?_, ?_, ?_, ?_⟩
  · intro z k0 k1
    by_cases e : z = g
    · subst e; rw [hgg]; simp; omega
    · rw [hne z k0 e, h.pos z k0 k1]; simp [e]
  · intro z k0 k1 hm
    rw [List.mem_append] at hm
    have e : z ≠ g := fun e => hm (.inr (by simp [e]))
    rw [hne z k0 e]
    exact h.neg z k0 k1 (fun hz => hm (.inl hz))
  · intro j z hj
    rcases hget j z hj with ⟨hj, _⟩ | ⟨rfl, rfl⟩
    · rw [hold z (mem_of_get? hj)]; exact h.le j z hj
    · rw [hgg]; have := h.le i y hy; omega
  · intro j k y' z hjk hj hk
    rcases hget j y' hj with ⟨hj2, hjl⟩ | ⟨rfl, rfl⟩
    · rw [hold y' (mem_of_get? hj2)]
      rcases hget k z hk with ⟨hk2, _⟩ | ⟨rfl, rfl⟩
      · rw [hold z (mem_of_get? hk2)]; exact h.mono j k y' z hjk hj2 hk2
      · rw [hgg]; exact h.top y y' hy (mem_of_get? hj2)
    · rcases hget k z hk with ⟨hk, _⟩ | ⟨rfl, rfl⟩
      · have := (List.getElem?_eq_some_iff.1 hk).1; omega
      · exact Int.le_refl _
  · intro y' z hy' hz
    rw [List.getElem?_append_left hil, hy] at hy'
    obtain rfl := Option.some.inj hy'
    rw [hold y hym]
    rcases List.mem_append.1 hz with hz | hz
    · rw [hold z hz]; exact h.top y z hy hz
    · simp at hz; subst hz; rw [hgg]; exact Int.le_refl _
  · intro j y' q hj hjy hq
    rw [List.getElem?_append_left (by omega)] at hjy
    obtain ⟨k1, k2⟩ := h.lip j y' q hj hjy hq
    rw [hold _ k1, hold _ (mem_of_get? hjy)]
    exact ⟨List.mem_append_left _ k1, k2⟩
  · intro z hz
    rcases List.mem_append.1 hz with hz | hz
    · rcases h.par z hz with e | ⟨y', q, h1, h2, h3, h4⟩
      · exact .inl e
      · exact .inr ⟨y', q, h1, List.mem_append_left _ h2, h3, by rw [hold z hz, hold y' h2]; exact h4⟩
    · simp at hz
      subst hz
      exact .inr ⟨y, p, hp, List.mem_append_left _ hym, hg.symm, by rw [hgg, hold y hym]⟩
  · rw [hold x h.met.start]; exact h.zero
/-- all moves of the i-th point are done -/
theorem DMet.next {list : List (List Int)} {n : Nat} {x y : Int} {d out : List Int} {i : Nat} (h : DMet list n x d out i) (hy : out[i]? = some y) (hall : ∀ p ∈ list, at' p y ∈ out) : DMet list n x d out (i + 1) := by
  refine ⟨h.met, h.dl, h.pos, h.neg, h.le, h.mono, ?_, ?_, h.par, h.zero⟩
  · intro y' z hy' hz
    have := h.top y z hy hz
    have := h.mono i (i + 1) y y' (by omega) hy hy'
    omega
  · intro j y' p hj hjy hp
    by_cases e : j = i
    · subst e
      rw [hy] at hjy
      obtain rfl := Option.some.inj hjy
      exact ⟨hall p hp, h.top y _ hy (hall p hp)⟩
    · exact h.lip j y' p (by omega) hjy hp
theorem dMove_spec {list : List (List Int)} {n : Nat} {x y : Int} {p : List Int} {s : List Int × List Int} {i : Nat} (hs : SysOf list n) (h : DMet list n x s.1 s.2 i) (hy : s.2[i]? = some y) (hp : p ∈ list) :
    DMet list n x (dMove y s p).1 (dMove y s p).2 i ∧ (dMove y s p).2[i]? = some y ∧ at' p y ∈ (dMove y s p).2 ∧ ∀ z ∈ s.2, z ∈ (dMove y s p).2 := by
  have hil := (List.getElem?_eq_some_iff.1 hy).1
  have hyr := h.met.rng y (mem_of_get? hy)
  obtain ⟨g0, g1⟩ := at'_rng (hs p hp).1 (hs p hp).2.2 hyr.1 hyr.2
  unfold dMove
  by_cases hn : dat s.1 (at' p y) < 0
  · rw [if_pos hn]
    exact ⟨h.add hs hy hp hn, by rw [List.getElem?_append_left hil]; exact hy, by simp, fun z hz => List.mem_append_left _ hz⟩
  · rw [if_neg hn]
    exact ⟨h, hy, (h.pos _ g0 g1).1 (by omega), fun z hz => hz⟩
theorem dStep_spec {list : List (List Int)} {n : Nat} {x y : Int} {i : Nat} (hs : SysOf list n) : ∀ (ps : List (List Int)) (s : List Int × List Int), (∀ p ∈ ps, p ∈ list) → DMet list n x s.1 s.2 i → s.2[i]? = some y →
    DMet list n x (dStep ps y s).1 (dStep ps y s).2 i ∧ (dStep ps y s).2[i]? = some y ∧ (∀ p ∈ ps, at' p y ∈ (dStep ps y s).2) ∧ ∀ z ∈ s.2, z ∈ (dStep ps y s).2 := by
  intro ps
  induction ps with
  | nil => intro s _ h hy; exact ⟨h, hy, by simp, fun z hz => hz⟩
  | cons p t ih =>
    intro s hps h hy
    obtain ⟨h1, h2, h3, h4⟩ := dMove_spec hs h hy (hps p (by simp))
    obtain ⟨k1, k2, k3, k4⟩ := ih (dMove y s p) (fun q hq => hps q (by simp [hq])) h1 h2
    refine ⟨k1, k2, fun q hq => ?_, fun z hz => k4 z (h4 z hz)⟩
    rcases List.mem_cons.1 hq with rfl | hq
    · exact k4 _ h3
    · exact k3 q hq
theorem dStep_next {list : List (List Int)} {n : Nat} {x y : Int} {i : Nat} {s : List Int × List Int} (hs : SysOf list n) (h : DMet list n x s.1 s.2 i) (hy : s.2[i]? = some y) : DMet list n x (dStep list y s).1 (dStep list y s).2 (i + 1) := by
  obtain ⟨h1, h2, h3, _⟩ := dStep_spec hs list s (fun _ h => h) h hy
  exact h1.next h2 h3
theorem dGo_spec {list : List (List Int)} {n : Nat} {x : Int} (hs : SysOf list n) : ∀ (f : Nat) (s : List Int × List Int) (i : Nat), DMet list n x s.1 s.2 i → n < f + i →
    ∃ i', (dGo list f s i).2.length ≤ i' ∧ DMet list n x (dGo list f s i).1 (dGo list f s i).2 i' := by
  intro f
  induction f with
  | zero =>
    intro s i h hf
    have := h.met.len
    exact ⟨i, by show s.2.length ≤ i; omega, h⟩
  | succ f ih =>
    intro s i h hf
    cases hx : s.2[i]? with
    | none =>
      have := List.getElem?_eq_none_iff.1 hx
      rw [dGo_stop this]
      exact ⟨i, this, h⟩
    | some y =>
      rw [dGo_step hx]
      exact ih _ _ (dStep_next hs h hx) (by omega)
/-- what holds of the distances of a connected system -/
structure DFin (list : List (List Int)) (n : Nat) (x : Int) (d : List Int) : Prop where
  dl : d.length = n
  rng : ∀ z : Int, 0 ≤ z → z < n → 0 ≤ dat d z ∧ dat d z < n
  lip : ∀ (z : Int) p, 0 ≤ z → z < n → p ∈ list → dat d (at' p z) ≤ dat d z + 1
  par : ∀ z : Int, 0 ≤ z → z < n → z ≠ x → ∃ (y : Int) (p : List Int), p ∈ list ∧ 0 ≤ y ∧ y < n ∧ z = at' p y ∧ dat d z = dat d y + 1
  zero : dat d x = 0
/-- all points are met from each point -/
def Conn (list : List (List Int)) (n : Nat) : Prop := ∀ x z : Int, 0 ≤ x → x < n → 0 ≤ z → z < n → Rch list x z
theorem dGo_closed {list : List (List Int)} {n : Nat} {x : Int} {d out : List Int} {i : Nat} (h : DMet list n x d out i) (hl : out.length ≤ i) {z : Int} (hz : Rch list x z) : z ∈ out := by
  induction hz with
  | refl => exact h.met.start
  | step _ hp ih =>
    obtain ⟨j, hj⟩ := List.mem_iff_getElem?.1 ih
    exact (h.lip j _ _ (by have := (List.getElem?_eq_some_iff.1 hj).1; omega) hj hp).1
theorem dist_fin {list : List (List Int)} {n : Nat} {x : Int} (hs : SysOf list n) (hc : Conn list n) (h0 : 0 ≤ x) (h1 : x < n) : DFin list n x (dist list n x) := by
  obtain ⟨i, hi, h⟩ := dGo_spec hs (n + 1) (dstart n x) 0 (DMet.start h0 h1) (by omega)
  unfold dist
  generalize dGo list (n + 1) (dstart n x) 0 = s at *
  have hall : ∀ z : Int, 0 ≤ z → z < n → z ∈ s.2 := fun z g0 g1 => dGo_closed h hi (hc x z h0 h1 g0 g1)
  refine ⟨h.dl, fun z g0 g1 => h.datn (hall z g0 g1), fun z p g0 g1 hp => ?_, fun z g0 g1 hne => ?_, h.zero⟩
  · obtain ⟨j, hj⟩ := List.mem_iff_getElem?.1 (hall z g0 g1)
    exact (h.lip j z p (by have := (List.getElem?_eq_some_iff.1 hj).1; omega) hj hp).2
  · rcases h.par z (hall z g0 g1) with e | ⟨y, p, h2, h3, h4, h5⟩
    · exact absurd e hne
    · have := h.met.rng y h3
      exact ⟨y, p, h2, this.1, this.2, h4, h5⟩
theorem dist_length {list : List (List Int)} {n : Nat} {x : Int} (hs : SysOf list n) (h0 : 0 ≤ x) (h1 : x < n) : (dist list n x).length = n := by
  obtain ⟨i, hi, h⟩ := dGo_spec hs (n + 1) (dstart n x) 0 (DMet.start h0 h1) (by omega)
  exact h.dl
theorem dist_rng {list : List (List Int)} {n : Nat} {x : Int} (hs : SysOf list n) (h0 : 0 ≤ x) (h1 : x < n) : ∀ u ∈ dist list n x, -1 ≤ u ∧ u < n := by
  obtain ⟨i, hi, h⟩ := dGo_spec hs (n + 1) (dstart n x) 0 (DMet.start h0 h1) (by omega)
  intro u hu
  obtain ⟨j, hj⟩ := List.mem_iff_getElem?.1 hu
  have hlt := (List.getElem?_eq_some_iff.1 hj).1
  have := h.dl
  have e : dat (dist list n x) (j : Int) = u := by unfold dat; rw [Int.toNat_natCast]; exact getD_some hj
  have := h.datr (z := (j : Int)) (by omega) (by unfold dist at hlt; omega)
  unfold dist at e
  rw [e] at this
  exact this
theorem ManP.conn {xss : List (List Int)} (h : ManP xss) : Conn xss (flg xss) := by
  have h1 := h.f2
  have hs := h.sys
  have hlen := (conn_iff hs (by omega)).1 h.con
  have hm := bfs_met hs (show (0 : Int) ≤ 0 by omega) (show (0 : Int) < flg xss by omega)
  have hz : ∀ z : Int, 0 ≤ z → z < flg xss → Rch xss 0 z := by
    intro z g0 g1
    have : z ∈ bfs xss (flg xss) 0 := mem_of_full hm.nd (fun a ha => mem_ints.2 (hm.rng a ha)) (by simp [hlen]) (mem_ints.2 ⟨g0, g1⟩)
    exact hm.rch z this
  intro x z x0 x1 z0 z1
  exact ((hz x x0 x1).symm hs (by omega) (by omega)).trans (hz z z0 z1)
end Go.Proofs.YtbioelmofceaaaaGreat
/- RenP -/
namespace Go.Proofs.YtbioelmofceaaaaGreat
set_option linter.unusedVariables false
set_option maxRecDepth 100000
/-- the move M when the flag i has become the flag p[i] -/
def renL (p M : List Int) : List Int := thenL (thenL (invL p) M) p
theorem renL_length (p M : List Int) : (renL p M).length = p.length := by simp [renL, thenL_length, invL_length]
theorem renL_get {p M : List Int} {z : Nat} (hz : z < p.length) : (renL p M)[z]? = some (at' p (at' M (p.idxOf (z : Int) : Int))) := by
  unfold renL
  rw [thenL_get (thenL_get (invL_get hz))]
  rfl
/-- the first f flags are laid -/
def RenI (p M : List Int) (n f : Nat) (mv : List Int) : Prop := mv.length = n ∧ ∀ z : Nat, z < n → mv[z]? = some (if p.idxOf (z : Int) < f then at' p (at' M (p.idxOf (z : Int) : Int)) else 0)
theorem RenI.zero (p M : List Int) (n : Nat) : RenI p M n 0 (List.replicate n 0) := ⟨by simp, fun z hz => by simp [hz]⟩
theorem RenI.step {p M mv : List Int} {n f g : Nat} (h : RenI p M n f mv) (hnd : p.Nodup) (hmem : ∀ z : Nat, z < n → (z : Int) ∈ p) (hg : p[f]? = some (g : Int)) (hgn : g < n) : RenI p M n (f + 1) (mv.set g (at' p (at' M (f : Int)))) := by
  have hix := idxOf_of_get? hnd hg
  refine ⟨by simp [h.1], fun z hz => ?_⟩
  by_cases e : z = g
  · subst e
    rw [hix, if_pos (by omega)]
    simp [h.1, hz]
  · rw [List.getElem?_set_ne (by omega), h.2 z hz]
    have hne : p.idxOf (z : Int) ≠ f := by
      intro e2
      have h1 := get?_idxOf (hmem z hz)
      rw [e2, hg] at h1
      have := Option.some.inj h1
      omega
    by_cases hlt : p.idxOf (z : Int) < f
    · rw [if_pos hlt, if_pos (by omega)]
    · rw [if_neg hlt, if_neg (by omega)]
theorem RenI.end_ {p M mv : List Int} {n : Nat} (h : RenI p M n n mv) (hl : p.length = n) (hmem : ∀ z : Nat, z < n → (z : Int) ∈ p) : mv = renL p M := by
  refine List.ext_getElem? fun z => ?_
  by_cases hz : z < n
  · rw [h.2 z hz, renL_get (by omega), if_pos]
    have := List.idxOf_lt_length_of_mem (hmem z hz)
    omega
  · rw [List.getElem?_eq_none (by have := h.1; omega), List.getElem?_eq_none (by rw [renL_length]; omega)]
/-- an order of all flags -/
theorem ren_ix {ord M : List Int} {n : Nat} (hp : isPermP ord) (hl : ord.length = n) (hM : M.length = n) (hr : ∀ x ∈ M, 0 ≤ x ∧ x < n) : renL (invL ord) M = ixF ord M := by
  have hip := invL_perm hp
  have hil : (invL ord).length = n := by rw [invL_length]; exact hl
  refine List.ext_getElem? fun z => ?_
  by_cases hz : z < n
  · have hoz := get?_getD (xs := ord) (k := z) 0 (by omega)
    have hor := hp.get (k := z) (by omega)
    generalize ord.getD z 0 = y at *
    obtain ⟨y, rfl⟩ : ∃ q : Nat, y = q := ⟨y.toNat, by omega⟩
    have hinv : (invL ord)[y]? = some (z : Int) := by rw [invL_get (by omega), idxOf_of_get? hp.nd hoz]
    have hix := idxOf_of_get? hip.nd hinv
    rw [renL_get (by omega), hix]
    unfold ixF
    rw [List.getElem?_map, hoz]
    show some _ = some (ord.idxOf (at' M (y : Int)) : Int)
    have hv := hr (at' M (y : Int)) (mem_of_get? (get?_getD 0 (by rw [Int.toNat_natCast]; omega)))
    generalize at' M (y : Int) = v at *
    obtain ⟨v, rfl⟩ : ∃ q : Nat, v = q := ⟨v.toNat, by omega⟩
    unfold at'
    rw [Int.toNat_natCast, getD_some (invL_get (p := ord) (j := v) (by omega))]
  · rw [List.getElem?_eq_none (by rw [renL_length]; omega), List.getElem?_eq_none (by rw [ixF_length]; omega)]
theorem ord_perm {list : List (List Int)} {n : Nat} {x : Int} (hs : SysOf list n) (hc : Conn list n) (hn : n ≤ 400) (h0 : 0 ≤ x) (h1 : x < n) : isPermP (bfs list n x) ∧ (bfs list n x).length = n := by
  have hm := bfs_met hs h0 h1
  have hle := hm.len
  have hge : n ≤ (bfs list n x).length := by
    have := nodup_sub_len ((List.range n).map Int.ofNat) (bfs list n x) (by
      rw [List.nodup_iff_pairwise_ne, List.pairwise_map]
      refine List.pairwise_lt_range.imp ?_
      intro a b h e
      have e : (a : Int) = b := e
      have : a < b := h
      omega) (fun a ha => by obtain ⟨g1, g2⟩ := mem_ints.1 ha; exact (bfs_mem hs h0 h1).2 (hc x a h0 h1 g1 g2))
    simpa using this
  have hl : (bfs list n x).length = n := by omega
  exact ⟨⟨by omega, fun y hy => by rw [hl]; exact hm.rng y hy, hm.nd⟩, hl⟩
theorem perm_nums {p : List Int} {n : Nat} (hp : isPermP p) (hl : p.length = n) : ∀ z : Nat, z < n → (z : Int) ∈ p :=
  fun z hz => perm_mem hl (by have := hp.rng; rwa [hl] at this) hp.nd (by omega) (by omega)
/-- the form is the renumbered maniplex -/
theorem form_ren {xss : List (List Int)} {n : Nat} {x : Int} (hs : SysOf xss n) (hc : Conn xss n) (hn : n ≤ 400) (h0 : 0 ≤ x) (h1 : x < n) : formL xss n x = xss.map (renL (invL (bfs xss n x))) := by
  obtain ⟨h2, h3⟩ := ord_perm hs hc hn h0 h1
  unfold formL
  refine List.map_congr_left fun p hp => ?_
  rw [ren_ix h2 h3 (hs p hp).2.2 (hs p hp).1]
end Go.Proofs.YtbioelmofceaaaaGreat
/- Man -/
namespace Go.Proofs.YtbioelmofceaaaaGreat
open Go.RowKit
set_option linter.unusedVariables false
set_option maxRecDepth 100000
theorem rs_drew {w : World} {lo hi n : Nat} {A : Option Addr} {xss : List (List Int)} (h : RS w lo hi A n xss) : RS w.drew lo hi A n xss := h.keep fun _ _ _ => rfl
theorem below_drew {B : Nat} {w w' : World} (h : Below B w w') : Below B w w'.drew := ⟨h.os, h.tape, h.output, h.size, h.block⟩
theorem flg_of {xss : List (List Int)} {ys : List Int} (h : xss[0]? = some ys) : flg xss = ys.length := by
  unfold flg
  rw [getD_some h]
theorem rank_any (b : Nat) (A : Option Addr) (n c : Nat) (w : World) (hc : w.cell? ⟨b, 0, none⟩ = some (.slice A n c)) (hn : n ≤ 9223372036854775807) :
    Calls Tryz.prog 48 #[.pointer (some ⟨b, 0, none⟩)] w fun e w' => e = .returned (.int .i64 n) ∧ w = w' := by
  go_enter Tryz.func48, Tryz.ntmps48
  go_wp2_with fail
  ((with_reducible refine (sizeS_any _ _ _ _ hn).mono ?_); rintro e w' ⟨rfl, rfl⟩)
  go_wp2_with fail
  go_ret
  exact ⟨rfl, rfl⟩
theorem flags_any (b : Nat) (A : Option Addr) (n c : Nat) (xss : List (List Int)) (w : World) (hc : w.cell? ⟨b, 0, none⟩ = some (.slice A n c)) {lo hi : Nat} (h : RS w lo hi A n xss) (hn : 0 < n) :
    Calls Tryz.prog 32 #[.pointer (some ⟨b, 0, none⟩)] w fun e w' => e = .returned (.int .i64 (flg xss : Nat)) ∧ w = w' := by
  obtain ⟨b0, o0, A0, n0, c0, p0, rfl, _, _, hp0, hc0, hr0⟩ := h.at_ (k := 0) hn
  rw [Nat.add_zero] at hc0
  have hm := h.max
  have hm0 := hr0.max
  have hf : flg xss = n0 := by rw [flg_of hp0]; exact hr0.len
  replace hf := Lib.hid hf
  clear hp0
  go_enter Tryz.func32, Tryz.ntmps32
  go_wp2_with fail
  ((with_reducible refine (sizeI_any _ _ _ _ hm0).mono ?_); rintro e w' ⟨rfl, rfl⟩)
  go_wp2_with fail
  go_ret
  exact ⟨ret_int (by rw [hf.out]), rfl⟩
set_option maxHeartbeats 8000000 in
theorem isMan_any (A : Option Addr) (n c : Nat) (xss : List (List Int)) (w : World) {lo hi : Nat} (h : RS w lo hi A n xss) (hhi : hi ≤ w.heap.size) (hnc : n ≤ c) :
    Calls Tryz.prog 25 #[.agg #[.slice A n c]] w fun e w' => e = .returned (.bool (isManB xss)) ∧ Below w.heap.size w w' := by
  have hm := h.max
  have hl := h.len
  have hR : RS (w.alloc (.cells #[.slice A n c] 26)) lo hi A n xss := h.keep (same_alloc w _ _ _ hhi)
  have hC : (w.alloc (.cells #[.slice A n c] 26)).cell? ⟨w.heap.size, 0, none⟩ = some (.slice A n c) := by simp
  have hB : Below w.heap.size w (w.alloc (.cells #[.slice A n c] 26)) := (Below.refl _ _).alloc (Nat.le_refl _) _
  by_cases hrk : 1 ≤ n ∧ n ≤ 5
  · have hrk' : (decide ((1 : Int) ≤ (n : Int)) && decide ((n : Int) ≤ 5)) = true := by simp; omega
    by_cases hfl : 2 ≤ flg xss ∧ flg xss ≤ 400
    · have hfl' : (decide ((2 : Int) ≤ (flg xss : Nat)) && decide (((flg xss : Nat) : Int) ≤ 400)) = true := by simp; omega
      replace hl := Lib.hid hl
      go_enter Tryz.func25, Tryz.ntmps25
      go_wp2_with fail
      ((with_reducible refine (rank_any _ A n c _ hC hm).mono ?_); rintro e w' ⟨rfl, rfl⟩)
      go_wp2_with fail
      ((with_reducible refine (within_any _ _ _ _).mono ?_); rintro e w' ⟨rfl, rfl⟩)
      rw [hrk']
      go_wp2_with fail
      ((with_reducible refine (flags_any _ A n c xss _ hC hR (by omega)).mono ?_); rintro e w' ⟨rfl, rfl⟩)
      go_wp2_with fail
      ((with_reducible refine (within_any _ _ _ _).mono ?_); rintro e w' ⟨rfl, rfl⟩)
      rw [hfl']
      go_wp2_with fail
      obtain ⟨W1, hW⟩ : ∃ W1 : World, w.alloc (.cells #[.slice A n c] 26) = W1 := ⟨_, rfl⟩
      have hz1 : W1.heap.size = w.heap.size + 1 := by rw [← hW]; simp
      rw [hW] at hR hC hB ⊢
      clear hW h
      go_loopw [23] (fun kv wr => ∃ k : Nat, k ≤ n ∧ kv = .int .i64 k ∧ Hid (∀ p ∈ xss.take k, mvB (flg xss) p = true) ∧ Below W1.heap.size W1 wr) (fun kv _ => n - (intOf kv).toNat)
      case atStart => exact ⟨0, by omega, rfl, Lib.hid (by simp), Below.refl _ _⟩
      case round =>
        obtain ⟨k, hk, rfl, hmv, hb⟩ := hrel
        have hbz := hb.size
        have hCk : wr.cell? ⟨w.heap.size, 0, none⟩ = some (.slice A n c) := (hb.cell (p := ⟨w.heap.size, 0, none⟩) (by simp; omega)).trans hC
        have hRk := hR.below hb (by omega)
        by_cases hlt : k < n
        · obtain ⟨b, o, Ak, nk, ck, ys, rfl, _, _, hys, hcell, hrow⟩ := hRk.at_ hlt
          have hyl := hrow.len
          have hnm := hrow.max
          cases hpf : (isPermB ys && freeB ys) with
          | false =>
            have hF : isManB xss = false := isManB_mv (mem_of_get? hys) (by unfold mvB; rw [hpf]; rfl)
            replace hF := Lib.hid hF
            replace hpf := Lib.hid hpf
            replace hys := Lib.hid hys
            go_wp2_with fail
            ((with_reducible refine (isFree_any _ _ _ ys _ _ _ hrow (by omega)).mono ?_); rintro e w2 ⟨rfl, hb2⟩)
            rw [hpf.out]
            go_wp2_with fail
            go_ret
            exact ⟨ret_bool hF.out.symm, (hB.trans (hb.mono (by omega))).trans (hb2.mono (by omega))⟩
          | true =>
            by_cases hlen : nk = flg xss
            · subst hlen
              have hd : (((flg xss : Nat) : Int) != ((flg xss : Nat) : Int)) = false := by simp
              have hmy : mvB (flg xss) ys = true := by unfold mvB; rw [hpf, hyl]; simp
              have htk := take_succ_of hys
              replace htk := Lib.hid htk
              replace hmy := Lib.hid hmy
              replace hpf := Lib.hid hpf
              replace hys := Lib.hid hys
              go_wp2_with fail
              ((with_reducible refine (isFree_any _ _ _ ys _ _ _ hrow (by omega)).mono ?_); rintro e w2 ⟨rfl, hb2⟩)
              rw [hpf.out]
              have hB2 : Below W1.heap.size W1 w2 := hb.trans (hb2.mono hbz)
              have hC2 : w2.cell? ⟨w.heap.size, 0, none⟩ = some (.slice (some ⟨b, o, none⟩) n c) := (hB2.cell (p := ⟨w.heap.size, 0, none⟩) (by simp; omega)).trans hC
              go_wp2_with fail
              ((with_reducible refine (sizeI_any _ _ _ _ hnm).mono ?_); rintro e w' ⟨rfl, rfl⟩)
              go_wp2_with fail
              ((with_reducible refine (flags_any _ _ n c xss _ hC2 (hR.below hB2 (by omega)) (by omega)).mono ?_); rintro e w' ⟨rfl, rfl⟩)
              go_wp2_with fail
              go_roundw
              case measure => simp [intOf]; omega
              case rel =>
                refine ⟨k + 1, by omega, by go_num, Lib.hid fun p hp => ?_, hB2⟩
                rw [htk.out] at hp
                rcases List.mem_append.1 hp with hp | hp
                · exact hmv.out p hp
                · simp at hp; subst hp; exact hmy.out
            · have hd : ((nk : Int) != ((flg xss : Nat) : Int)) = true := by simp; omega
              have hF : isManB xss = false := isManB_mv (mem_of_get? hys) (by unfold mvB; rw [hpf, hyl, decide_eq_false hlen]; rfl)
              replace hF := Lib.hid hF
              replace hpf := Lib.hid hpf
              replace hys := Lib.hid hys
              go_wp2_with fail
              ((with_reducible refine (isFree_any _ _ _ ys _ _ _ hrow (by omega)).mono ?_); rintro e w2 ⟨rfl, hb2⟩)
              rw [hpf.out]
              have hB2 : Below W1.heap.size W1 w2 := hb.trans (hb2.mono hbz)
              have hC2 : w2.cell? ⟨w.heap.size, 0, none⟩ = some (.slice (some ⟨b, o, none⟩) n c) := (hB2.cell (p := ⟨w.heap.size, 0, none⟩) (by simp; omega)).trans hC
              go_wp2_with fail
              ((with_reducible refine (sizeI_any _ _ _ _ hnm).mono ?_); rintro e w' ⟨rfl, rfl⟩)
              go_wp2_with fail
              ((with_reducible refine (flags_any _ _ n c xss _ hC2 (hR.below hB2 (by omega)) (by omega)).mono ?_); rintro e w' ⟨rfl, rfl⟩)
              go_wp2_with fail
              go_ret
              exact ⟨ret_bool hF.out.symm, hB.trans (hB2.mono (by omega))⟩
        · have hkn : k = n := by omega
          subst hkn
          have hmvA : ∀ p ∈ xss, mvB (flg xss) p = true := by
            have := hmv.out
            rwa [List.take_of_length_le (by have := hl.out; omega)] at this
          have hS := sysOf_mv hmvA
          replace hmvA := Lib.hid hmvA
          clear hmv
          replace hS := Lib.hid hS
          go_wp2_with fail
          clear hCk hRk hbz
          go_loopw [40] (fun iv wq => ∃ i : Nat, i ≤ k ∧ iv = .int .i64 i ∧ Hid (PairsTo xss i (i + 2)) ∧ Below W1.heap.size W1 wq) (fun iv _ => k - (intOf iv).toNat)
          case atStart => exact ⟨0, by omega, rfl, Lib.hid (PairsTo.zero xss), hb⟩
          case round =>
            clear hb
            obtain ⟨i, hi, rfl, hpt, hb⟩ := hrel
            have hbz := hb.size
            have hCk : wr.cell? ⟨w.heap.size, 0, none⟩ = some (.slice A k c) := (hb.cell (p := ⟨w.heap.size, 0, none⟩) (by simp; omega)).trans hC
            have hRk := hR.below hb (by omega)
            by_cases hlt : i < k
            · obtain ⟨b, o, Aa, na, ca, pa, rfl, _, hbb, hpa, hcaW, hra⟩ := hR.at_ hlt
              have hca := (hb.cell (p := ⟨b, o + i, none⟩) (by simp; omega)).trans hcaW
              have hna : na = flg xss := by rw [← hra.len]; exact (hS.out _ (mem_of_get? hpa)).2.2
              subst hna
              have hpaS := (hS.out _ (mem_of_get? hpa)).1
              replace hpaS := Lib.hid hpaS
              by_cases hs2 : i + 2 < k
              · replace hpa := Lib.hid hpa
                go_wp2_with fail
                go_loopw [55] (fun tv wq => ∃ t : Nat, t ≤ k - (i + 2) ∧ tv = .int .i64 t ∧ Hid (PairsTo xss i (i + 2 + t)) ∧ Below W1.heap.size W1 wq) (fun tv _ => (k - (i + 2)) - (intOf tv).toNat)
                case atStart => exact ⟨0, by omega, rfl, hpt, hb⟩
                case round =>
                  clear hb hca hCk hRk hpt hbz
                  obtain ⟨t, ht, rfl, hpt, hb⟩ := hrel
                  have hbz := hb.size
                  by_cases htk : t < k - (i + 2)
                  · obtain ⟨b', o', Ab, nb, cb, pb, hA, _, _, hpb, hcbW, hrb⟩ := hR.at_ (k := i + 2 + t) (by omega)
                    injection hA with hA
                    injection hA with hA1 hA2 _
                    subst hA1; subst hA2
                    have hnb : nb = flg xss := by rw [← hrb.len]; exact (hS.out _ (mem_of_get? hpb)).2.2
                    subst hnb
                    have hpbS := (hS.out _ (mem_of_get? hpb)).1
                    replace hpbS := Lib.hid hpbS
                    have hcb : wr.cell? ⟨b, o + (i + 2) + t, none⟩ = some (.slice Ab (flg xss) cb) := by
                      rw [Nat.add_assoc]
                      exact (hb.cell (p := ⟨b, o + (i + 2 + t), none⟩) (by simp; omega)).trans hcbW
                    have hCk : wr.cell? ⟨w.heap.size, 0, none⟩ = some (.slice (some ⟨b, o, none⟩) k c) := (hb.cell (p := ⟨w.heap.size, 0, none⟩) (by simp; omega)).trans hC
                    have hRk := hR.below hb (by omega)
                    replace hpb := Lib.hid hpb
                    go_wp2_with fail
                    ((with_reducible refine (flags_any _ _ k c xss _ hCk hRk (by omega)).mono ?_); rintro e w' ⟨rfl, rfl⟩)
                    go_wp2_with fail
                    go_loopw [60] (fun fv wq => ∃ f : Nat, f ≤ flg xss ∧ fv = .int .i64 f ∧ Hid ((List.range f).all (comB pa pb) = true) ∧ Below W1.heap.size W1 wq) (fun fv _ => flg xss - (intOf fv).toNat)
                    case atStart => exact ⟨0, by omega, rfl, Lib.hid (by simp), hb⟩
                    case round =>
                      clear hb hcb hCk hRk hbz
                      obtain ⟨f, hf, rfl, hall, hb⟩ := hrel
                      have hbz := hb.size
                      by_cases hfn : f < flg xss
                      · obtain ⟨ba, oa, x, rfl, _, _, hx, hxc⟩ := (hra.below hb (by omega)).at_ hfn
                        obtain ⟨bb, ob, y, rfl, _, _, hy, hyc⟩ := (hrb.below hb (by omega)).at_ hfn
                        obtain ⟨hx0, hx1⟩ := hpaS.out x (mem_of_get? hx)
                        obtain ⟨hy0, hy1⟩ := hpbS.out y (mem_of_get? hy)
                        obtain ⟨x, rfl⟩ : ∃ q : Nat, x = q := ⟨x.toNat, by omega⟩
                        obtain ⟨y, rfl⟩ : ∃ q : Nat, y = q := ⟨y.toNat, by omega⟩
                        obtain ⟨_, _, u, hu1, _, _, hu, huc⟩ := (hrb.below hb (by omega)).at_ (k := x) (by omega)
                        injection hu1 with hu1
                        injection hu1 with hu1 hu2 _
                        subst hu1; subst hu2
                        obtain ⟨_, _, v, hv1, _, _, hv, hvc⟩ := (hra.below hb (by omega)).at_ (k := y) (by omega)
                        injection hv1 with hv1
                        injection hv1 with hv1 hv2 _
                        subst hv1; subst hv2
                        have hcm : comB pa pb f = (decide ((x : Int) ≠ y) && decide (u = v)) := by
                          unfold comB
                          rw [getD_some hx, getD_some hy, Int.toNat_natCast, Int.toNat_natCast, getD_some hu, getD_some hv]
                        have hxN : x < flg xss := by omega
                        have hyN : y < flg xss := by omega
                        replace hx := Lib.hid hx
                        replace hy := Lib.hid hy
                        replace hu := Lib.hid hu
                        replace hv := Lib.hid hv
                        by_cases hxy : (x : Int) = y
                        · have hd1 : ((x : Int) == (y : Int)) = true := by simpa using hxy
                          have hF : isManB xss = false := isManB_com (by omega) hpa.out hpb.out hfn (by rw [hcm]; simp [hxy])
                          replace hF := Lib.hid hF
                          clear hcm hxy
                          go_wp2_with fail
                          go_quiet (fail)
                          go_wp2_with fail
                          go_ret
                          exact ⟨ret_bool hF.out.symm, hB.trans ((below_dn hb _).mono (by omega))⟩
                        · have hd1 : ((x : Int) == (y : Int)) = false := by simpa using hxy
                          by_cases huv : u = v
                          · have hd2 : (u != v) = false := by simpa using huv
                            have hok : comB pa pb f = true := by rw [hcm]; simp [hxy, huv]
                            replace hok := Lib.hid hok
                            clear hcm hxy huv
                            go_wp2_with fail
                            go_quiet (fail)
                            go_wp2_with fail
                            go_roundw
                            case measure => simp [intOf]; omega
                            case rel => exact ⟨f + 1, by omega, by go_num, Lib.hid (all_range_succ hall.out hok.out), below_dn hb _⟩
                          · have hd2 : (u != v) = true := by simpa using huv
                            have hF : isManB xss = false := isManB_com (by omega) hpa.out hpb.out hfn (by rw [hcm]; simp [huv])
                            replace hF := Lib.hid hF
                            clear hcm hxy huv
                            go_wp2_with fail
                            go_quiet (fail)
                            go_wp2_with fail
                            go_ret
                            exact ⟨ret_bool hF.out.symm, hB.trans ((below_dn hb _).mono (by omega))⟩
                      · have hfe : f = flg xss := by omega
                        have hpar : parB (flg xss) pa pb = true := by unfold parB; rw [← hfe]; exact hall.out
                        replace hpar := Lib.hid hpar
                        go_wp2_with fail
                        go_roundw
                        case measure => simp [intOf]; omega
                        case rel => exact ⟨t + 1, by omega, by go_num, Lib.hid (hpt.out.step hpa.out hpb.out hpar.out), hb⟩
                  · have hte : i + 2 + t = k := by omega
                    have hnx := hpt.out.next (by have := hl.out; omega)
                    replace hnx := Lib.hid hnx
                    go_wp2_with fail
                    go_roundw
                    case measure => simp [intOf]; omega
                    case rel => exact ⟨i + 1, by omega, by go_num, hnx, hb⟩
              · have hkc : k = c ∨ k < c := by omega
                replace hpa := Lib.hid hpa
                rcases hkc with hkc | hkc
                all_goals
                  (try subst hkc)
                  go_wp2_with fail
                all_goals
                  go_loopw [55] (fun tv wq => tv = .int .i64 0 ∧ wq = wr) (fun _ _ => 0)
                  case atStart => exact ⟨rfl, rfl⟩
                  case round =>
                    obtain ⟨rfl, rfl⟩ := hrel
                    go_wp2_with fail
                    go_roundw
                    case measure => simp [intOf]; omega
                    case rel => exact ⟨i + 1, by omega, by go_num, Lib.hid (hpt.out.next (by have := hl.out; omega)), hb⟩
            · have hik : i = k := by omega
              subst hik
              have hfin := (isManB_all (by have := hl.out; omega) (by have := hl.out; omega) hfl.1 hfl.2 hmvA.out (hpt.out.done (by have := hl.out; omega))).1
              replace hfin := Lib.hid hfin
              go_wp2_with fail
              have hRd := rs_drew hRk
              have hbd := below_drew hb
              have hi0 : 0 < i := by omega
              have hF1 := flags_any w.heap.size A i c xss wr.drew hCk hRd hi0
              have hF2 := orbitLabels_any (flg xss) A i c xss wr.drew hRd (show _ ≤ wr.heap.size by omega) hfl.2 hS.out
              go_region_with (first
                | (go_at_call 32; refine hF1.mono ?_; rintro e w' ⟨rfl, rfl⟩)
                | (go_at_call 50; refine hF2.mono ?_; rintro e w2 ⟨A2, rfl, ho2, hb2⟩))
              all_goals
                go_wp2_with fail
                go_ret
                refine ⟨ret_bool ?_, hB.trans ((hbd.mono (by omega)).trans (hb2.mono (by simp; omega)))⟩
                rw [hfin.out]
                by_cases hq : cntR xss (flg xss) = 1
                · simp [hq]
                · have : ¬ ((cntR xss (flg xss) : Nat) : Int) = 1 := by omega
                  simp [hq, this]
    · have hfl' : (decide ((2 : Int) ≤ (flg xss : Nat)) && decide (((flg xss : Nat) : Int) ≤ 400)) = false := by simp; omega
      have hF : isManB xss = false := isManB_false fun hh => hfl ⟨hh.f2, hh.f4⟩
      replace hF := Lib.hid hF
      replace hl := Lib.hid hl
      clear hfl
      go_enter Tryz.func25, Tryz.ntmps25
      go_wp2_with fail
      ((with_reducible refine (rank_any _ A n c _ hC hm).mono ?_); rintro e w' ⟨rfl, rfl⟩)
      go_wp2_with fail
      ((with_reducible refine (within_any _ _ _ _).mono ?_); rintro e w' ⟨rfl, rfl⟩)
      rw [hrk']
      go_wp2_with fail
      ((with_reducible refine (flags_any _ A n c xss _ hC hR (by omega)).mono ?_); rintro e w' ⟨rfl, rfl⟩)
      go_wp2_with fail
      ((with_reducible refine (within_any _ _ _ _).mono ?_); rintro e w' ⟨rfl, rfl⟩)
      rw [hfl']
      go_wp2_with fail
      go_ret
      exact ⟨ret_bool hF.out.symm, hB⟩
  · have hrk' : (decide ((1 : Int) ≤ (n : Int)) && decide ((n : Int) ≤ 5)) = false := by simp; omega
    have hF : isManB xss = false := isManB_false fun hh => hrk ⟨by have := hh.r1; omega, by have := hh.r5; omega⟩
    replace hF := Lib.hid hF
    replace hl := Lib.hid hl
    clear hrk
    go_enter Tryz.func25, Tryz.ntmps25
    go_wp2_with fail
    ((with_reducible refine (rank_any _ A n c _ hC hm).mono ?_); rintro e w' ⟨rfl, rfl⟩)
    go_wp2_with fail
    ((with_reducible refine (within_any _ _ _ _).mono ?_); rintro e w' ⟨rfl, rfl⟩)
    rw [hrk']
    go_wp2_with fail
    go_ret
    exact ⟨ret_bool hF.out.symm, hB⟩
end Go.Proofs.YtbioelmofceaaaaGreat
/- Open -/
namespace Go.Proofs.YtbioelmofceaaaaGreat
open Go.ChangeShapes Go.WideShapes Go.ChangeAt Go.RowKit
set_option linter.unusedVariables false
set_option maxRecDepth 100000

/-- a 64-bit integer -/
def I64 (x : Int) : Prop := -9223372036854775808 ≤ x ∧ x ≤ 9223372036854775807

theorem rd_of_cells {w : World} {a : Addr} {len : Nat} {vs : List Value} (hl : vs.length = len) (hm : len ≤ 9223372036854775807) (hc : ∀ i v, vs[i]? = some v → w.cell? (a.add i) = some v) : Rd w 0 w.heap.size (some a) len vs := by
  refine ⟨hl, hm, fun hn => ?_⟩
  have h0 := hc 0 vs[0] (List.getElem?_eq_getElem (by omega))
  have hs := World.cell?_spot h0
  have hb := World.block_lt_of_cell? _ _ h0
  obtain ⟨b, o, s⟩ := a
  have hs' : s = none := by simpa [Addr.add] using hs
  subst hs'
  refine ⟨b, o, rfl, Nat.zero_le _, by simpa [Addr.add_lit] using hb, fun k v hv => ?_⟩
  have := hc k v hv
  simpa [Addr.add_lit] using this

theorem open_RI {H : Type} {enc : TypeId × Value → H} {P : Program} {w : World} {t e : TypeId} {a : Option Addr} {len cap : Nat} {d : DataW H} {p : List MemPlace}
    (ht : P.underlying t = some (.slice e)) (he : P.underlying e = some (.int .i64)) (hc : P.cellsOf e = 1)
    (h : DataW.Trod enc P w 0 (fun _ => true) true t (.slice a len cap) d p) : ∃ xs, RI w 0 w.heap.size a len xs ∧ ∀ x ∈ xs, I64 x := by
  obtain ⟨fuel, hf⟩ := h
  rcases open_ints ht he hc hf with ⟨hcs, _⟩ | ⟨x, l, c, zs, hcs, _, hl, hm, hz, _, hcell, hwz⟩
  · simp [Value.cells] at hcs
    obtain ⟨rfl, rfl, rfl⟩ := hcs
    exact ⟨[], RI.nil, by simp⟩
  · simp [Value.cells] at hcs
    obtain ⟨rfl, rfl, rfl⟩ := hcs
    have hz' : zs.length = cap := by simpa using hz
    simp only [maxLen] at hm
    refine ⟨zs.take len, rd_of_cells (by simp; omega) (by omega) fun i v hv => ?_, fun y hy => bounds_i64 (hwz y (List.mem_of_mem_take hy))⟩
    have hi : i < len := by have := (List.getElem?_eq_some_iff.1 hv).1; simp at this; omega
    rw [hcell i (by omega)]
    simp [hi, List.getD] at hv ⊢
    obtain ⟨y, hy, rfl⟩ := hv
    simp [hy]
end Go.Proofs.YtbioelmofceaaaaGreat
/- OpenS -/
namespace Go.Proofs.YtbioelmofceaaaaGreat
open Go.ChangeShapes Go.WideShapes Go.ChangeAt Go.RowKit Go.Deep
set_option linter.unusedVariables false
set_option maxRecDepth 100000

theorem rows_open {H : Type} {enc : TypeId × Value → H} {P : Program} {w : World} {t e q : TypeId} {a : Option Addr} {len cap fuel : Nat} {x : DataW H × List MemPlace}
    (ht : P.underlying t = some (.slice e)) (he : P.underlying e = some (.slice q)) (hq : P.underlying q = some (.int .i64)) (ce : P.cellsOf e = 1) (cq : P.cellsOf q = 1)
    (hf : DataW.trod enc P w 0 (fun _ => true) true fuel t [.slice a len cap] = some x) : ∃ xss, RS w 0 w.heap.size a len xss ∧ ∀ xs ∈ xss, ∀ x ∈ xs, I64 x := by
  rcases open_int_rows ht he hq ce cq hf with ⟨hcs, _⟩ | ⟨ad, l, c, A, L, C, Z, hcs, _, hl, hm, _, hrow⟩
  · simp at hcs
    obtain ⟨rfl, rfl, rfl⟩ := hcs
    exact ⟨[], RS.nil, by simp⟩
  · simp at hcs
    obtain ⟨rfl, rfl, rfl⟩ := hcs
    simp only [maxLen] at hm
    refine ⟨(List.range len).map fun r => (Z r).take (L r), ⟨(List.range len).map fun r => .slice (A r) (L r) (C r), ?_, ?_⟩, ?_⟩
    · refine rd_of_cells (by simp) (by omega) fun i v hv => ?_
      have hi : i < len := by have := (List.getElem?_eq_some_iff.1 hv).1; simp at this; omega
      simp [hi] at hv
      subst hv
      exact (hrow i (by omega)).1
    · refine ⟨by simp, fun k v xs h1 h2 => ?_⟩
      have hk : k < len := by have := (List.getElem?_eq_some_iff.1 h1).1; simp at this; omega
      simp [hk] at h1 h2
      subst h1; subst h2
      obtain ⟨_, r1, r2, r3, _, r5, r6⟩ := hrow k (by omega)
      simp only [maxLen] at r2
      refine ⟨_, _, _, rfl, ?_⟩
      cases hA : A k with
      | none =>
        have h0 := r5 hA
        have hL : L k = 0 := by omega
        rw [hL, List.take_zero]
        exact RI.nil
      | some a' =>
        obtain ⟨_, hc⟩ := r6 a' hA
        refine rd_of_cells (by simp; omega) (by omega) fun i v hv => ?_
        have hi : i < L k := by have := (List.getElem?_eq_some_iff.1 hv).1; simp at this; omega
        rw [hc i (by omega)]
        simp [hi] at hv
        obtain ⟨y, hy, rfl⟩ := hv
        simp [List.getD, hy]
    · intro xs hxs x hx
      simp only [List.mem_map, List.mem_range] at hxs
      obtain ⟨r, hr, rfl⟩ := hxs
      exact bounds_i64 ((hrow r (by omega)).2.2.2.2.1 x (List.mem_of_mem_take hx))

theorem open_RS {H : Type} {enc : TypeId × Value → H} {P : Program} {w : World} {t e q : TypeId} {a : Option Addr} {len cap : Nat} {d : DataW H} {p : List MemPlace}
    (ht : P.underlying t = some (.slice e)) (he : P.underlying e = some (.slice q)) (hq : P.underlying q = some (.int .i64)) (ce : P.cellsOf e = 1) (cq : P.cellsOf q = 1)
    (h : DataW.Trod enc P w 0 (fun _ => true) true t (.slice a len cap) d p) : ∃ xss, RS w 0 w.heap.size a len xss ∧ ∀ xs ∈ xss, ∀ x ∈ xs, I64 x := by
  obtain ⟨fuel, hf⟩ := h
  exact rows_open ht he hq ce cq (by simpa [Value.cells] using hf)
end Go.Proofs.YtbioelmofceaaaaGreat
/- LawM -/
namespace Go.Proofs.YtbioelmofceaaaaGreat
open Go.RowKit
set_option linter.unusedVariables false
set_option maxRecDepth 100000
theorem leftOf_neg {left k : Nat} (h : ¬ k ≤ left) : leftOf left k = -1 := by unfold leftOf; rw [if_neg h]
theorem leftOf_pos {left k : Nat} (h : k ≤ left) : leftOf left k = ((left - k : Nat) : Int) := by unfold leftOf; rw [if_pos h]; omega
theorem al_new (w : World) (v : Value) (T : TypeId) (k : Nat) (hk : k = w.heap.size) : (w.alloc (.cells #[v] T)).cell? ⟨k, 0, none⟩ = some v := by subst hk; simp
theorem fr_new (w : World) (v : Value) (T : TypeId) (k : Nat) (hk : k = w.heap.size) : (w.alloc (.cells #[v] T)).frozen? ⟨k, 0, none⟩ = false := by subst hk; simp
theorem al_old (w : World) (o : Obj) (k j : Nat) (hk : k < w.heap.size) : (w.alloc o).cell? ⟨k, j, none⟩ = w.cell? ⟨k, j, none⟩ := ((Below.refl w.heap.size w).alloc (Nat.le_refl _) o).cell (p := ⟨k, j, none⟩) hk
theorem fr_old (w : World) (o : Obj) (k j : Nat) (hk : k < w.heap.size) : (w.alloc o).frozen? ⟨k, j, none⟩ = w.frozen? ⟨k, j, none⟩ := ((Below.refl w.heap.size w).alloc (Nat.le_refl _) o).frozen (p := ⟨k, j, none⟩) hk
theorem heap_new (w : World) (o : Obj) (k : Nat) (hk : k = w.heap.size) : (w.alloc o).heap[k]? = some o := by subst hk; exact Array.getElem?_push_size
theorem rs_alloc {w : World} {lo hi n : Nat} {A : Option Addr} {xss : List (List Int)} (h : RS w lo hi A n xss) (hhi : hi ≤ w.heap.size) (o : Obj) : RS (w.alloc o) lo hi A n xss := h.keep (same_alloc w o _ _ hhi)
section
open Go.ChangeShapes Go.WideShapes Go.ChangeAt Go.RowKit Go.Deep
theorem open_RM {H : Type} {enc : TypeId × Value → H} {P : Program} {w : World} {r : Reach} {b0 : Nat} {m t e q : TypeId} {v : Value} {d : DataW H} {p : List MemPlace} {f : Field} (hs : P.underlying m = some (.struct #[f])) (hone : oneCellFields P #[f] = true) (hC : P.cellsOf m = 1) (hft : f.type = t)
    (ht : P.underlying t = some (.slice e)) (he : P.underlying e = some (.slice q)) (hq : P.underlying q = some (.int .i64)) (ce : P.cellsOf e = 1) (cq : P.cellsOf q = 1)
    (hv : Value.okWide P w r b0 m v) (h : DataW.Trod enc P w 0 (fun _ => true) true m v d p) :
    ∃ a len cap xss, v = .agg #[.slice a len cap] ∧ RS w 0 w.heap.size a len xss ∧ ∀ xs ∈ xss, ∀ x ∈ xs, I64 x := by
  obtain ⟨cs, rfl, hsz⟩ := okWide_struct hs hv
  obtain ⟨l⟩ := cs
  match l, hsz.trans hC with
  | [c0], _ =>
    obtain ⟨fuel, hf⟩ := h
    obtain ⟨xs, n, _, hx, _, hlen, hg⟩ := DataW.trod_struct hs hf
    obtain ⟨o0, k0⟩ := hone_of hone 0 f rfl
    match xs, hlen with
    | [y0], _ =>
      have h0 : DataW.trod enc P w 0 (fun _ => true) true n f.type [c0] = some y0 := by simpa [Value.cells, o0, k0] using hg 0 f rfl
      rw [hft] at h0
      rcases open_slice ht h0 with ⟨hcs, _⟩ | ⟨a, len, cap, _, _, _, _, hcs, _⟩
      · simp at hcs; subst hcs
        obtain ⟨xss, g1, g2⟩ := rows_open ht he hq ce cq h0
        exact ⟨_, _, _, xss, rfl, g1, g2⟩
      · simp at hcs; subst hcs
        obtain ⟨xss, g1, g2⟩ := rows_open ht he hq ce cq h0
        exact ⟨_, _, _, xss, rfl, g1, g2⟩
end
end Go.Proofs.YtbioelmofceaaaaGreat
