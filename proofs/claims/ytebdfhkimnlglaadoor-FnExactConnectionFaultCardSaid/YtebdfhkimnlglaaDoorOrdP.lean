/- Plain: sorting, least common multiples, orders and powers of permutations. No program in sight. No condition. -/
import Derived.Test.YtebdfhkimnlglaaDoorCycP
namespace Go.Proofs.YtebdfhkimnlglaaDoor
set_option linter.unusedVariables false
set_option maxRecDepth 100000

/-- the numbers in ascending order -/
def sortL (xs : List Int) : List Int := xs.mergeSort fun a b => decide (a ≤ b)
def Sorted (xs : List Int) : Prop := xs.Pairwise (· ≤ ·)
theorem sortL_perm (xs : List Int) : (sortL xs).Perm xs := List.mergeSort_perm _ _
theorem sortL_sorted (xs : List Int) : Sorted (sortL xs) := by
  have := List.pairwise_mergeSort (le := fun a b : Int => decide (a ≤ b)) (by intro a b c; simp; omega) (by intro a b; simp; omega) xs
  unfold Sorted sortL
  exact this.imp (by intro a b h; simpa using h)
theorem sorted_unique {xs ys : List Int} (hp : xs.Perm ys) (h1 : Sorted xs) (h2 : Sorted ys) : xs = ys :=
  List.Perm.eq_of_pairwise (le := (· ≤ ·)) (by intro a b _ _ h g; omega) h1 h2 hp
theorem sortL_eq {xs ys : List Int} (hp : ys.Perm xs) (h : Sorted ys) : ys = sortL xs := sorted_unique (hp.trans (sortL_perm xs).symm) h (sortL_sorted xs)
theorem sortL_length (xs : List Int) : (sortL xs).length = xs.length := (sortL_perm xs).length_eq
theorem sorted_of_getD {xs : List Int} (h : ∀ a b, a < b → b < xs.length → xs.getD a 0 ≤ xs.getD b 0) : Sorted xs := by
  unfold Sorted
  rw [List.pairwise_iff_getElem]
  intro i j hi hj hij
  have := h i j hij hj
  simpa [List.getD, hi, hj] using this

/-- the insertion's state: the first i + 1 places are in order but for the place k -/
def InsAt (ys : List Int) (i k : Nat) : Prop := ∀ a b, a < b → b ≤ i → b ≠ k → ys.getD a 0 ≤ ys.getD b 0
def SortedTo (ys : List Int) (i : Nat) : Prop := ∀ a b, a < b → b < i → ys.getD a 0 ≤ ys.getD b 0
/-- two neighbours exchanged -/
def swapAt (ys : List Int) (k : Nat) : List Int := (ys.set k (ys.getD (k - 1) 0)).set (k - 1) (ys.getD k 0)
theorem swapAt_length (ys : List Int) (k : Nat) : (swapAt ys k).length = ys.length := by simp [swapAt]
theorem swapAt_perm {ys : List Int} {k : Nat} (hk : 0 < k) (hl : k < ys.length) : (swapAt ys k).Perm ys := by
  have := List.set_set_perm (as := ys) (i := k) (j := k - 1) hl (by omega)
  unfold swapAt
  simpa [List.getD, hl, show k - 1 < ys.length by omega] using this
theorem swapAt_getD {ys : List Int} {k : Nat} (hk : 0 < k) (hl : k < ys.length) (j : Nat) :
    (swapAt ys k).getD j 0 = if j = k then ys.getD (k - 1) 0 else if j = k - 1 then ys.getD k 0 else ys.getD j 0 := by
  unfold swapAt
  simp only [List.getD, List.getElem?_set, List.length_set]
  by_cases h1 : j = k
  · subst h1
    rw [if_neg (by omega), if_pos rfl, if_pos hl, if_pos rfl]; rfl
  · rw [if_neg h1]
    by_cases h2 : j = k - 1
    · subst h2
      rw [if_pos rfl, if_pos (by omega), if_pos rfl]; rfl
    · rw [if_neg (fun e => h2 e.symm), if_neg (fun e => h1 e.symm), if_neg h2]
theorem ins_start {ys : List Int} {i : Nat} (h : SortedTo ys i) : InsAt ys i i := fun a b h1 h2 h3 => h a b h1 (by omega)
theorem ins_zero {ys : List Int} {i : Nat} (h : InsAt ys i 0) : SortedTo ys (i + 1) := fun a b h1 h2 => h a b h1 (by omega) (by omega)
theorem ins_stop {ys : List Int} {i k : Nat} (h : InsAt ys i k) (hk : 0 < k) (hki : k ≤ i) (hle : ys.getD (k - 1) 0 ≤ ys.getD k 0) : SortedTo ys (i + 1) := by
  intro a b h1 h2
  by_cases hb : b = k
  · subst hb
    by_cases ha : a = b - 1
    · subst ha; exact hle
    · exact Int.le_trans (h a (b - 1) (by omega) (by omega) (by omega)) hle
  · exact h a b h1 (by omega) hb
theorem ins_swap {ys : List Int} {i k : Nat} (h : InsAt ys i k) (hk : 0 < k) (hki : k ≤ i) (hi : i < ys.length) (hlt : ys.getD k 0 < ys.getD (k - 1) 0) : InsAt (swapAt ys k) i (k - 1) := by
  intro a b h1 h2 h3
  rw [swapAt_getD hk (by omega), swapAt_getD hk (by omega)]
  by_cases hb : b = k
  · subst hb
    rw [if_neg (by omega), if_pos rfl]
    by_cases ha : a = b - 1
    · rw [if_pos ha]; omega
    · rw [if_neg ha]; exact h a (b - 1) (by omega) (by omega) (by omega)
  · rw [if_neg hb, if_neg h3]
    by_cases ha : a = k
    · rw [if_pos ha]; exact h (k - 1) b (by omega) h2 hb
    · rw [if_neg ha]
      by_cases ha' : a = k - 1
      · rw [if_pos ha']; exact h k b (by omega) h2 hb
      · rw [if_neg ha']; exact h a b h1 h2 hb

/-- the least common multiple of some numbers -/
def lcmL (ls : List Nat) : Nat := ls.foldl Nat.lcm 1
theorem foldl_lcm_dvd (ls : List Nat) : ∀ (a m : Nat), ls.foldl Nat.lcm a ∣ m ↔ a ∣ m ∧ ∀ x ∈ ls, x ∣ m := by
  induction ls with
  | nil => simp
  | cons x t ih =>
    intro a m
    rw [List.foldl_cons, ih]
    constructor
    · rintro ⟨h1, h2⟩
      refine ⟨Nat.dvd_trans (Nat.dvd_lcm_left a x) h1, fun y hy => ?_⟩
      rcases List.mem_cons.1 hy with rfl | hy
      · exact Nat.dvd_trans (Nat.dvd_lcm_right a y) h1
      · exact h2 y hy
    · rintro ⟨h1, h2⟩
      exact ⟨Nat.lcm_dvd h1 (h2 x (by simp)), fun y hy => h2 y (by simp [hy])⟩
theorem lcmL_dvd {ls : List Nat} {m : Nat} : lcmL ls ∣ m ↔ ∀ x ∈ ls, x ∣ m := by
  unfold lcmL; rw [foldl_lcm_dvd]; simp
theorem lcmL_perm {xs ys : List Nat} (h : xs.Perm ys) : lcmL xs = lcmL ys :=
  Nat.dvd_antisymm (lcmL_dvd.2 fun x hx => lcmL_dvd.1 (Nat.dvd_refl (lcmL ys)) x (h.mem_iff.1 hx)) (lcmL_dvd.2 fun x hx => lcmL_dvd.1 (Nat.dvd_refl (lcmL xs)) x (h.mem_iff.2 hx))
theorem lcmL_snoc (xs : List Nat) (x : Nat) : lcmL (xs ++ [x]) = (lcmL xs).lcm x := by simp [lcmL]
theorem lcmL_pos {xs : List Nat} (h : ∀ x ∈ xs, 0 < x) : 0 < lcmL xs := by
  have : ∀ a, 0 < a → 0 < xs.foldl Nat.lcm a := by
    induction xs with
    | nil => simp
    | cons x t ih =>
      intro a ha
      rw [List.foldl_cons]
      exact ih (fun y hy => h y (by simp [hy])) _ (Nat.lcm_pos ha (h x (by simp)))
  exact this 1 (by omega)
theorem lcmL_take_le {xs : List Nat} (h : ∀ x ∈ xs, 0 < x) (k : Nat) : lcmL (xs.take k) ≤ lcmL xs :=
  Nat.le_of_dvd (lcmL_pos h) (lcmL_dvd.2 fun x hx => lcmL_dvd.1 (Nat.dvd_refl _) x (List.mem_of_mem_take hx))
theorem lcm_by_quo (a b : Nat) (ha : 0 < a) : a / a.gcd b * b = a.lcm b := by
  unfold Nat.lcm
  rw [Nat.mul_comm (a / _) b, ← Nat.mul_div_assoc b (Nat.gcd_dvd_left a b), Nat.mul_comm b a]
theorem lcm_by_quo' (a b : Nat) : a * (b / a.gcd b) = a.lcm b := by
  unfold Nat.lcm
  rw [← Nat.mul_div_assoc a (Nat.gcd_dvd_right a b)]

/-- the numbers of points of the cycles -/
def cycLens (p : List Int) : List Nat := (cycAll p).map List.length
def lensL (p : List Int) : List Int := sortL ((cycLens p).map Int.ofNat)
def natsOf (xs : List Int) : List Nat := xs.map Int.toNat
theorem natsOf_perm {xs ys : List Int} (h : xs.Perm ys) : (natsOf xs).Perm (natsOf ys) := h.map _
theorem natsOf_ofNat (xs : List Nat) : natsOf (xs.map Int.ofNat) = xs := by
  unfold natsOf; rw [List.map_map]; simp [Function.comp_def]
theorem lens_lcm (p : List Int) : lcmL (natsOf (lensL p)) = lcmL (cycLens p) := by
  unfold lensL
  rw [lcmL_perm (natsOf_perm (sortL_perm _)), natsOf_ofNat]
theorem lensL_mem {p : List Int} {x : Int} (h : x ∈ lensL p) : 1 ≤ x ∧ x ≤ p.length + 1 := by
  have h := (sortL_perm _).mem_iff.1 h
  simp only [cycLens, List.map_map, List.mem_map, Function.comp_apply] at h
  obtain ⟨c, hc, rfl⟩ := h
  have := (cycAll_len p).2 c hc
  simp
  omega
theorem lensL_length (p : List Int) : (lensL p).length ≤ p.length := by
  unfold lensL
  rw [sortL_length, List.length_map, cycLens, List.length_map]
  exact (cycAll_len p).1
def orderF (p : List Int) : Int × Int := if isPermB p = true then (if lcmL (cycLens p) ≤ 1000000000000000 then ((lcmL (cycLens p) : Int), 0) else (0, 3)) else (0, 1)
def lengthsF (p : List Int) : List Int × Int := if isPermB p = true then (lensL p, 0) else ([], 1)

/-- the identity -/
def idL (n : Nat) : List Int := (List.range n).map Int.ofNat
theorem idL_length (n : Nat) : (idL n).length = n := by simp [idL]
theorem idL_get {n j : Nat} (h : j < n) : (idL n)[j]? = some (j : Int) := by simp [idL, h]
theorem idL_perm {n : Nat} (h : n ≤ 400) : isPermP (idL n) := by
  refine ⟨by rw [idL_length]; exact h, fun x hx => ?_, ?_⟩
  · rw [idL_length]; exact mem_ints.1 hx
  · unfold idL
    rw [List.nodup_iff_pairwise_ne, List.pairwise_map]
    exact (List.nodup_iff_pairwise_ne.1 List.nodup_range).imp (by intro a b h e; exact h (Int.ofNat.inj e))
/-- powers by squaring -/
def powGo : Nat → List Int → List Int → Nat → List Int
  | 0, _, out, _ => out
  | f + 1, p, out, k => if k = 0 then out else powGo f (thenL p p) (if k % 2 = 1 then thenL out p else out) (k / 2)
def powL (p : List Int) (k : Int) : List Int := powGo 40 (if k < 0 then invL p else p) (idL p.length) k.natAbs
theorem powGo_stop {f : Nat} {p out : List Int} : powGo f p out 0 = out := by cases f <;> simp [powGo]
theorem powGo_odd {f k : Nat} {p out : List Int} (h : 0 < k) (ho : k % 2 = 1) : powGo (f + 1) p out k = powGo f (thenL p p) (thenL out p) (k / 2) := by
  simp [powGo, ho, show k ≠ 0 by omega]
theorem powGo_even {f k : Nat} {p out : List Int} (h : 0 < k) (ho : k % 2 = 0) : powGo (f + 1) p out k = powGo f (thenL p p) out (k / 2) := by
  simp [powGo, ho, show k ≠ 0 by omega]
def powF (p : List Int) (k : Int) : List Int × Int := if isPermB p = true then (if -1000000000 ≤ k ∧ k ≤ 1000000000 then (powL p k, 0) else ([], 2)) else ([], 1)
end Go.Proofs.YtebdfhkimnlglaaDoor
