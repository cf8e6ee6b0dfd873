/- FnExactFacePoset: the program's FacePoset and the reference's return the same for all arguments, the arguments stay as they were, and the results are memory of their own. No condition. (Merged: FpP, Bag, Fp, FpS, FpX, LFacePoset.) -/
import Derived.Test.YtbioelmofceaaaaTwP
import Derived.Test.YtbioelmofceaaaaTypP
import Derived.Test.YtbioelmofceaaaaFlgP
import Derived.Test.YtbioelmofceaaaaRow
import Derived.Test.YtbioelmofceaaaaOrbL
import Derived.Test.YtbioelmofceaaaaTw
import Derived.Test.YtbioelmofceaaaaCnt
import Derived.Test.YtbioelmofceaaaaCpt
import Derived.Test.YtbioelmofceaaaaTyp
import Derived.Test.YtbioelmofceaaaaLawP
import Derived.Test.YtbioelmofceaaaaStep
import Derived.Test.YtbioelmofceaaaaFormS
import Derived.Deep.Cut
import Derived.Deep.CutRange
import Derived.Test.YtbioelmofceaaaaFaceS
import Derived.RegionTactic
import Derived.BigRegion
import Derived.Test.YtbioelmofceaaaaMan
import Derived.Test.YtbioelmofceaaaaManS
import Derived.Test.YtbioelmofceaaaaFormP
import Derived.Test.YtbioelmofceaaaaRows
import Derived.Test.YtbioelmofceaaaaOpen
import Derived.Test.YtbioelmofceaaaaLawI
import Derived.Test.YtbioelmofceaaaaOpenS
import Derived.Test.YtbioelmofceaaaaLawS
import Derived.Test.YtbioelmofceaaaaLawM
/- FpP -/
namespace Go.Proofs.Ytbioelmofceaaaa
set_option linter.unusedVariables false
set_option maxRecDepth 100000
open Classical
/-- the element of the rank i that the flag f has -/
noncomputable def aI (xss : List (List Int)) (N i f : Nat) : Int := ((offs xss N i : Nat) : Int) + labI xss i f
theorem allF_snoc (xss : List (List Int)) (N k f : Nat) : allF xss N (k + 1) f = allF xss N k f ++ [aI xss N k f] := allF_succ xss N k f
theorem allF_mem {xss : List (List Int)} {N k f : Nat} {x : Int} : x ∈ allF xss N k f ↔ ∃ i, i < k ∧ aI xss N i f = x := by
  unfold allF aI
  simp only [List.mem_map, List.mem_range]
theorem offs_step (xss : List (List Int)) (N i : Nat) : offs xss N (i + 1) = offs xss N i + cntR (xss.eraseIdx i) N := rfl
theorem offs_mono (xss : List (List Int)) (N : Nat) {i j : Nat} (h : i ≤ j) : offs xss N i ≤ offs xss N j := by
  induction h with
  | refl => exact Nat.le_refl _
  | step _ ih => rw [offs_step]; omega
theorem aI_in {xss : List (List Int)} {N i f : Nat} (hs : SysOf xss N) (hf : f < N) : (offs xss N i : Int) ≤ aI xss N i f ∧ aI xss N i f < (offs xss N (i + 1) : Nat) := by
  have h1 := lab_lt (sysOf_erase hs i) hf
  have h2 := labOf_nonneg (xss.eraseIdx i) f
  rw [offs_step]
  unfold aI labI
  omega
theorem aI_lt {xss : List (List Int)} {N i k f : Nat} (hs : SysOf xss N) (hf : f < N) (hi : i < k) : 0 ≤ aI xss N i f ∧ aI xss N i f < (offs xss N k : Nat) := by
  have h1 := aI_in (i := i) hs hf
  have h2 := offs_mono xss N (show i + 1 ≤ k from hi)
  omega
/-- in the round of the rank i: d is below e -/
def Inc (xss : List (List Int)) (N i e d : Nat) : Prop := ∃ f, f < N ∧ aI xss N i f = (e : Int) ∧ (d : Int) ∈ allF xss N i f
def IncTo (xss : List (List Int)) (N k e d : Nat) : Prop := ∃ i, i < k ∧ Inc xss N i e d
noncomputable def belI (xss : List (List Int)) (N i e D : Nat) : List Int := ((List.range D).filter fun d => decide (Inc xss N i e d)).map Int.ofNat
noncomputable def belTo (xss : List (List Int)) (N S k e : Nat) : List Int := ((List.range S).filter fun d => decide (IncTo xss N k e d)).map Int.ofNat
theorem belI_zero (xss : List (List Int)) (N i e : Nat) : belI xss N i e 0 = [] := rfl
theorem belI_succ (xss : List (List Int)) (N i e D : Nat) : belI xss N i e (D + 1) = belI xss N i e D ++ (if Inc xss N i e D then [(D : Int)] else []) := by
  unfold belI
  rw [List.range_succ, List.filter_append, List.map_append]
  congr 1
  by_cases h : Inc xss N i e D <;> simp [h]
theorem belI_len (xss : List (List Int)) (N i e D : Nat) : (belI xss N i e D).length ≤ D := by
  unfold belI
  rw [List.length_map]
  exact Nat.le_trans (List.length_filter_le _ _) (by simp)
theorem belTo_len (xss : List (List Int)) (N S k e : Nat) : (belTo xss N S k e).length ≤ S := by
  unfold belTo
  rw [List.length_map]
  exact Nat.le_trans (List.length_filter_le _ _) (by simp)
theorem filter_none {p : Nat → Prop} {l : List Nat} (h : ∀ d ∈ l, ¬ p d) : (l.filter fun d => decide (p d)) = [] := List.filter_eq_nil_iff.2 (fun d hd => by simpa using h d hd)
theorem inc_rank {xss : List (List Int)} {N i e d : Nat} (hs : SysOf xss N) (h : Inc xss N i e d) : offs xss N i ≤ e ∧ e < offs xss N (i + 1) := by
  obtain ⟨f, hf, he, _⟩ := h
  have h1 := aI_in (i := i) hs hf
  omega
theorem belTo_zero (xss : List (List Int)) (N S e : Nat) : belTo xss N S 0 e = [] := by
  unfold belTo
  rw [filter_none (fun d _ h => by obtain ⟨i, hi, _⟩ := h; omega)]
  rfl
theorem belTo_one (xss : List (List Int)) (N S e : Nat) : belTo xss N S 1 e = [] := by
  unfold belTo
  rw [filter_none (fun d _ h => by
    obtain ⟨i, hi, f, _, _, hm⟩ := h
    obtain rfl : i = 0 := by omega
    simp [allF] at hm)]
  rfl
theorem belTo_succ {xss : List (List Int)} {N : Nat} (hs : SysOf xss N) (S i e : Nat) : belTo xss N S (i + 1) e = belTo xss N S i e ++ belI xss N i e S := by
  by_cases h : offs xss N i ≤ e
  · have h0 : belTo xss N S i e = [] := by
      unfold belTo
      rw [filter_none (fun d _ g => by
        obtain ⟨j, hj, hI⟩ := g
        have h1 := inc_rank hs hI
        have h2 := offs_mono xss N (show j + 1 ≤ i from hj)
        omega)]
      rfl
    rw [h0, List.nil_append]
    unfold belTo belI
    congr 1
    apply List.filter_congr
    intro d _
    apply decide_eq_decide.2
    constructor
    · rintro ⟨j, hj, hI⟩
      by_cases e1 : j = i
      · subst e1; exact hI
      · have h1 := inc_rank hs hI
        have h2 := offs_mono xss N (show j + 1 ≤ i by omega)
        omega
    · exact fun hI => ⟨i, by omega, hI⟩
  · have h0 : belI xss N i e S = [] := by
      unfold belI
      rw [filter_none (fun d _ g => by have := inc_rank hs g; omega)]
      rfl
    rw [h0, List.append_nil]
    unfold belTo
    congr 1
    apply List.filter_congr
    intro d _
    apply decide_eq_decide.2
    constructor
    · rintro ⟨j, hj, hI⟩
      by_cases e1 : j = i
      · subst e1; have := inc_rank hs hI; omega
      · exact ⟨j, by omega, hI⟩
    · rintro ⟨j, hj, hI⟩
      exact ⟨j, by omega, hI⟩
/-- the reference's rows in the round of the rank i, when the rows below E are done, that of E up to D -/
noncomputable def rowE (xss : List (List Int)) (N S i E D j : Nat) : List Int := if j < E then belTo xss N S (i + 1) j else if j = E then belTo xss N S i j ++ belI xss N i j D else belTo xss N S i j
theorem rowE_here (xss : List (List Int)) (N S i E D : Nat) : rowE xss N S i E D E = belTo xss N S i E ++ belI xss N i E D := by unfold rowE; rw [if_neg (Nat.lt_irrefl _), if_pos rfl]
theorem rowE_start (xss : List (List Int)) (N S i j : Nat) : rowE xss N S i 0 0 j = belTo xss N S i j := by
  unfold rowE
  rw [if_neg (by omega)]
  by_cases h : j = 0
  · rw [if_pos h, belI_zero, List.append_nil]
  · rw [if_neg h]
theorem rowE_next {xss : List (List Int)} {N : Nat} (hs : SysOf xss N) (S i E j : Nat) : rowE xss N S i E S j = rowE xss N S i (E + 1) 0 j := by
  unfold rowE
  by_cases h : j < E
  · rw [if_pos h, if_pos (by omega)]
  · rw [if_neg h]
    by_cases h2 : j = E
    · rw [if_pos h2, if_pos (by omega), belTo_succ hs]
    · rw [if_neg h2, if_neg (by omega)]
      by_cases h3 : j = E + 1
      · rw [if_pos h3, belI_zero, List.append_nil]
      · rw [if_neg h3]
theorem rowE_end (xss : List (List Int)) (N S i D : Nat) {j : Nat} (h : j < S) : rowE xss N S i S D j = belTo xss N S (i + 1) j := by unfold rowE; rw [if_pos h]
theorem rowE_len (xss : List (List Int)) (N S i E D j : Nat) (hD : D ≤ S) : (rowE xss N S i E D j).length ≤ 2 * S := by
  unfold rowE
  have h1 := belTo_len xss N S (i + 1) j
  have h2 := belTo_len xss N S i j
  have h3 := belI_len xss N i j D
  by_cases h : j < E
  · rw [if_pos h]; omega
  · rw [if_neg h]
    by_cases g : j = E
    · rw [if_pos g, List.length_append]; omega
    · rw [if_neg g]; omega
theorem rowE_set {xss : List (List Int)} {N S i E D : Nat} (hE : E < S) (h : Inc xss N i E D) :
    ((List.range S).map (rowE xss N S i E D)).set E (rowE xss N S i E D E ++ [(D : Int)]) = (List.range S).map (rowE xss N S i E (D + 1)) := by
  apply List.ext_getElem?
  intro j
  rw [List.getElem?_set]
  by_cases e : E = j
  · subst e
    rw [if_pos rfl, if_pos (by simpa using hE)]
    simp only [List.getElem?_map, List.getElem?_range hE, Option.map_some]
    rw [rowE_here, rowE_here, belI_succ, if_pos h, List.append_assoc]
  · rw [if_neg e]
    by_cases hj : j < S
    · simp only [List.getElem?_map, List.getElem?_range hj, Option.map_some]
      congr 1
      unfold rowE
      by_cases g : j < E
      · rw [if_pos g, if_pos g]
      · rw [if_neg g, if_neg g, if_neg (fun q => e q.symm), if_neg (fun q => e q.symm)]
    · rw [List.getElem?_eq_none (by simp; omega), List.getElem?_eq_none (by simp; omega)]
theorem rowE_pass {xss : List (List Int)} {N S i E D : Nat} (h : ¬ Inc xss N i E D) : (List.range S).map (rowE xss N S i E D) = (List.range S).map (rowE xss N S i E (D + 1)) := by
  apply List.map_congr_left
  intro j _
  unfold rowE
  by_cases g : j < E
  · rw [if_pos g, if_pos g]
  · rw [if_neg g, if_neg g]
    by_cases g2 : j = E
    · rw [if_pos g2, if_pos g2]; subst g2; rw [belI_succ, if_neg h, List.append_nil]
    · rw [if_neg g2, if_neg g2]
/-- the marks of the round of the rank i when the flags below f are done, f itself up to the rank k -/
def FndP (xss : List (List Int)) (N S i f k j : Nat) : Prop := ∃ (g : Nat) (x : Int), ((g < f ∧ x ∈ allF xss N i g) ∨ (g = f ∧ x ∈ allF xss N k f)) ∧ (j : Int) = aI xss N i g * (S : Int) + x
theorem fnd_start (xss : List (List Int)) (N S i j : Nat) : ¬ FndP xss N S i 0 0 j := by
  rintro ⟨g, x, h | ⟨_, h⟩, _⟩
  · omega
  · simp [allF] at h
theorem fnd_step (xss : List (List Int)) (N S i f k j : Nat) : FndP xss N S i f (k + 1) j ↔ (FndP xss N S i f k j ∨ (j : Int) = aI xss N i f * (S : Int) + aI xss N k f) := by
  constructor
  · rintro ⟨g, x, h | ⟨hg, h⟩, e⟩
    · exact .inl ⟨g, x, .inl h, e⟩
    · subst hg
      rw [allF_snoc, List.mem_append, List.mem_singleton] at h
      rcases h with h | h
      · exact .inl ⟨g, x, .inr ⟨rfl, h⟩, e⟩
      · subst h; exact .inr e
  · rintro (⟨g, x, h | ⟨hg, h⟩, e⟩ | e)
    · exact ⟨g, x, .inl h, e⟩
    · exact ⟨g, x, .inr ⟨hg, by rw [allF_snoc]; exact List.mem_append.2 (.inl h)⟩, e⟩
    · exact ⟨f, _, .inr ⟨rfl, by rw [allF_snoc]; simp⟩, e⟩
theorem fnd_next (xss : List (List Int)) (N S i f j : Nat) : FndP xss N S i f i j ↔ FndP xss N S i (f + 1) 0 j := by
  constructor
  · rintro ⟨g, x, ⟨hg, h⟩ | ⟨hg, h⟩, e⟩
    · exact ⟨g, x, .inl ⟨by omega, h⟩, e⟩
    · subst hg; exact ⟨g, x, .inl ⟨by omega, h⟩, e⟩
  · rintro ⟨g, x, ⟨hg, h⟩ | ⟨hg, h⟩, e⟩
    · by_cases q : g = f
      · subst q; exact ⟨g, x, .inr ⟨rfl, h⟩, e⟩
      · exact ⟨g, x, .inl ⟨by omega, h⟩, e⟩
    · simp [allF] at h
theorem fnd_mark {xss : List (List Int)} {N S i f k M p : Nat} (hp : (p : Int) = aI xss N i f * (S : Int) + aI xss N k f) : (alR (FndP xss N S i f k) M).set p true = alR (FndP xss N S i f (k + 1)) M := by
  refine alR_set (decide_eq_true ((fnd_step ..).2 (.inr hp))).symm (fun j _ hj => ?_)
  rw [fnd_step]
  constructor
  · exact .inl
  · rintro (h | h)
    · exact h
    · omega
theorem fnd_done {xss : List (List Int)} {N S i e d : Nat} (hs : SysOf xss N) (hS : offs xss N i ≤ S) (hd : d < S) : FndP xss N S i N 0 (e * S + d) ↔ Inc xss N i e d := by
  have key : ∀ (a b : Nat) (x y : Nat), x < S → y < S → a * S + x = b * S + y → a = b ∧ x = y := by
    intro a b x y hx hy h
    have hS0 : 0 < S := by omega
    have h1 : (a * S + x) / S = a := by rw [Nat.mul_comm, Nat.mul_add_div hS0, Nat.div_eq_of_lt hx]; omega
    have h2 : (b * S + y) / S = b := by rw [Nat.mul_comm, Nat.mul_add_div hS0, Nat.div_eq_of_lt hy]; omega
    have h3 : a = b := by rw [← h1, ← h2, h]
    subst h3
    exact ⟨rfl, by omega⟩
  constructor
  · rintro ⟨g, x, ⟨hg, h⟩ | ⟨hg, h⟩, he⟩
    · obtain ⟨k, hk, hkx⟩ := allF_mem.1 h
      have h1 := aI_lt (N := N) (f := g) hs hg hk
      have h2 := aI_in (i := i) (f := g) hs hg
      obtain ⟨a, ha⟩ := Int.eq_ofNat_of_zero_le (show 0 ≤ aI xss N i g by omega)
      obtain ⟨y, hy⟩ := Int.eq_ofNat_of_zero_le (show 0 ≤ x by omega)
      rw [ha, hy] at he
      have he2 : e * S + d = a * S + y := by
        have := he
        push_cast at this
        exact_mod_cast this
      obtain ⟨rfl, rfl⟩ := key e a d y hd (by omega) he2
      exact ⟨g, hg, ha, by rw [← hy]; exact h⟩
    · simp [allF] at h
  · rintro ⟨f, hf, ha, hm⟩
    exact ⟨f, _, .inl ⟨hf, hm⟩, by rw [ha]; push_cast; rfl⟩
/-- the program's rows, not yet sorted -/
noncomputable def catI (xss : List (List Int)) (N k f e : Nat) : List Int := (List.range k).flatMap fun i => if aI xss N i f = (e : Int) then allF xss N i f else []
noncomputable def catTo (xss : List (List Int)) (N m f e : Nat) : List Int := (List.range f).flatMap fun g => catI xss N m g e
theorem catI_succ (xss : List (List Int)) (N k f e : Nat) : catI xss N (k + 1) f e = catI xss N k f e ++ (if aI xss N k f = (e : Int) then allF xss N k f else []) := by
  unfold catI
  rw [List.range_succ, List.flatMap_append]
  simp
theorem catTo_succ (xss : List (List Int)) (N m f e : Nat) : catTo xss N m (f + 1) e = catTo xss N m f e ++ catI xss N m f e := by
  unfold catTo
  rw [List.range_succ, List.flatMap_append]
  simp
noncomputable def rowC (xss : List (List Int)) (N m f k e : Nat) : List Int := catTo xss N m f e ++ catI xss N k f e
theorem rowC_zero (xss : List (List Int)) (N m f e : Nat) : rowC xss N m f 0 e = catTo xss N m f e := by unfold rowC catI; simp
theorem rowC_next (xss : List (List Int)) (N m f e : Nat) : rowC xss N m f m e = rowC xss N m (f + 1) 0 e := by rw [rowC_zero, catTo_succ]; rfl
theorem catI_len (xss : List (List Int)) (N f e : Nat) : ∀ k, (catI xss N k f e).length ≤ k * k := by
  intro k
  induction k with
  | zero => simp [catI]
  | succ k ih =>
    rw [catI_succ, List.length_append]
    have h1 : (if aI xss N k f = (e : Int) then allF xss N k f else []).length ≤ k := by
      by_cases h : aI xss N k f = (e : Int)
      · rw [if_pos h, allF_length]; exact Nat.le_refl _
      · rw [if_neg h]; simp
    have h2 : (k + 1) * (k + 1) = k * k + k + k + 1 := by rw [Nat.add_mul, Nat.mul_add]; omega
    omega
theorem catTo_len (xss : List (List Int)) (N m e : Nat) : ∀ f, (catTo xss N m f e).length ≤ f * (m * m) := by
  intro f
  induction f with
  | zero => simp [catTo]
  | succ f ih =>
    rw [catTo_succ, List.length_append, Nat.succ_mul]
    have := catI_len xss N f e m
    omega
theorem rowC_len {xss : List (List Int)} {N m f k e : Nat} (hm : m ≤ 5) (hk : k ≤ 5) (hf : f ≤ 400) : (rowC xss N m f k e).length ≤ 10025 := by
  unfold rowC
  rw [List.length_append]
  have h1 := catTo_len xss N m e f
  have h2 := catI_len xss N f e k
  have h3 : m * m ≤ 5 * 5 := Nat.mul_le_mul hm hm
  have h4 : k * k ≤ 5 * 5 := Nat.mul_le_mul hk hk
  have h5 : f * (m * m) ≤ 400 * 25 := Nat.mul_le_mul hf h3
  omega
theorem rowC_set {xss : List (List Int)} {N m f k S e : Nat} (he : e < S) (h : aI xss N k f = (e : Int)) :
    ((List.range S).map (rowC xss N m f k)).set e (rowC xss N m f k e ++ allF xss N k f) = (List.range S).map (rowC xss N m f (k + 1)) := by
  apply List.ext_getElem?
  intro j
  rw [List.getElem?_set]
  by_cases q : e = j
  · subst q
    rw [if_pos rfl, if_pos (by simpa using he)]
    simp only [List.getElem?_map, List.getElem?_range he, Option.map_some]
    congr 1
    unfold rowC
    rw [catI_succ, if_pos h, List.append_assoc]
  · rw [if_neg q]
    by_cases hj : j < S
    · simp only [List.getElem?_map, List.getElem?_range hj, Option.map_some]
      congr 1
      unfold rowC
      rw [catI_succ, if_neg (by rw [h]; omega), List.append_nil]
    · rw [List.getElem?_eq_none (by simp; omega), List.getElem?_eq_none (by simp; omega)]
theorem catTo_mem {xss : List (List Int)} {N m e : Nat} {x : Int} : ∀ F, x ∈ catTo xss N m F e ↔ ∃ f, f < F ∧ ∃ i, i < m ∧ aI xss N i f = (e : Int) ∧ x ∈ allF xss N i f := by
  intro F
  unfold catTo catI
  simp only [List.mem_flatMap, List.mem_range]
  constructor
  · rintro ⟨f, hf, i, hi, h⟩
    by_cases g : aI xss N i f = (e : Int)
    · rw [if_pos g] at h; exact ⟨f, hf, i, hi, g, h⟩
    · rw [if_neg g] at h; simp at h
  · rintro ⟨f, hf, i, hi, g, h⟩
    exact ⟨f, hf, i, hi, by rw [if_pos g]; exact h⟩
theorem range_lt_pair : ∀ n : Nat, (List.range n).Pairwise (· < ·) := fun n => List.pairwise_lt_range
theorem belTo_pair (xss : List (List Int)) (N S k e : Nat) : (belTo xss N S k e).Pairwise (· < ·) := by
  unfold belTo
  rw [List.pairwise_map]
  exact (List.Pairwise.filter _ (range_lt_pair S)).imp (fun h => Int.ofNat_lt.2 h)
theorem belTo_mem {xss : List (List Int)} {N S k e : Nat} {x : Int} : x ∈ belTo xss N S k e ↔ ∃ d : Nat, d < S ∧ x = (d : Int) ∧ IncTo xss N k e d := by
  unfold belTo
  simp only [List.mem_map, List.mem_filter, List.mem_range, decide_eq_true_eq]
  constructor
  · rintro ⟨d, ⟨h1, h2⟩, rfl⟩
    exact ⟨d, h1, rfl, h2⟩
  · rintro ⟨d, h1, rfl, h2⟩
    exact ⟨d, ⟨h1, h2⟩, rfl⟩
theorem bel_same {xss : List (List Int)} {N m e : Nat} (hs : SysOf xss N) : setL (catTo xss N m N e) = belTo xss N (offs xss N m) m e := by
  refine (setL_unique (belTo_pair _ _ _ _ _) (fun x => ?_)).symm
  rw [belTo_mem, catTo_mem]
  constructor
  · rintro ⟨d, _, rfl, i, hi, f, hf, ha, hm⟩
    exact ⟨f, hf, i, hi, ha, hm⟩
  · rintro ⟨f, hf, i, hi, ha, hm⟩
    obtain ⟨k, hk, hkx⟩ := allF_mem.1 hm
    have h1 := aI_lt (N := N) (f := f) hs hf (show k < m by omega)
    rw [hkx] at h1
    obtain ⟨d, rfl⟩ := Int.eq_ofNat_of_zero_le h1.1
    exact ⟨d, by omega, rfl, i, hi, f, hf, ha, hm⟩
/-- the ranks of all elements of the ranks below k -/
noncomputable def rkL (xss : List (List Int)) (N k : Nat) : List Int := (List.range k).flatMap fun i => List.replicate (cntR (xss.eraseIdx i) N) (i : Int)
theorem rkL_succ (xss : List (List Int)) (N k : Nat) : rkL xss N (k + 1) = rkL xss N k ++ List.replicate (cntR (xss.eraseIdx k) N) (k : Int) := by
  unfold rkL
  rw [List.range_succ, List.flatMap_append]
  simp
theorem rkL_length (xss : List (List Int)) (N : Nat) : ∀ k, (rkL xss N k).length = offs xss N k := by
  intro k
  induction k with
  | zero => rfl
  | succ k ih => rw [rkL_succ, List.length_append, ih, List.length_replicate, offs_step]
noncomputable def bels (xss : List (List Int)) (N : Nat) : List (List Int) := (List.range (offs xss N xss.length)).map (belTo xss N (offs xss N xss.length) xss.length)
/-- what both packages' FacePoset returns -/
noncomputable def fpF (xss : List (List Int)) : (Int × List Int × List (List Int)) × Int :=
  if isManB xss = true then (if 500 < offs xss (flg xss) xss.length then ((0, [], []), 3) else (((xss.length : Nat), rkL xss (flg xss) xss.length, bels xss (flg xss)), 0)) else ((0, [], []), 1)
end Go.Proofs.Ytbioelmofceaaaa
/- Bag -/
namespace Go.Proofs.Ytbioelmofceaaaa
open Go.RowKit
set_option linter.unusedVariables false
set_option maxRecDepth 100000
/-- one row: its element type, the slice, its length, what it holds -/
structure Ent where
  T : TypeId
  v : Value
  n : Nat
  xs : List Value
/-- the rows lie in blocks from lo on, below hi, each in a block of its own -/
structure Bag (w : World) (lo hi : Nat) (L : List Ent) : Prop where
  own : ∀ e ∈ L, w.ownsRow lo e.T 1 e.v e.n e.xs
  lt : ∀ e ∈ L, ∀ z, e.v.ownBlock = some z → z < hi
  ap : L.Pairwise (fun a b => Apart a.v b.v)
section
variable {w w' : World} {lo hi hi' : Nat} {L L' P Q : List Ent} {e e' : Ent}
theorem row_same {T : TypeId} {v : Value} {n : Nat} {xs : List Value} (h : w.ownsRow lo T 1 v n xs) (hl : ∀ z, v.ownBlock = some z → z < hi) (hs : Same lo hi w w') : w'.ownsRow lo T 1 v n xs := by
  refine ⟨h.1, ?_⟩
  rcases h.2 with hn | ⟨g, cap, cur, hv, hb, hg, rest⟩
  · exact .inl hn
  · refine .inr ⟨g, cap, cur, hv, hb, ?_, rest⟩
    rw [hs g hb (hl g (by rw [hv]; rfl))]
    exact hg
theorem row_lower {T : TypeId} {v : Value} {n : Nat} {xs : List Value} {lo' : Nat} (h : w.ownsRow lo T 1 v n xs) (hl : lo' ≤ lo) : w.ownsRow lo' T 1 v n xs := by
  refine ⟨h.1, ?_⟩
  rcases h.2 with hn | ⟨g, cap, cur, hv, hb, hg, rest⟩
  · exact .inl hn
  · exact .inr ⟨g, cap, cur, hv, by omega, hg, rest⟩
theorem Bag.nil : Bag w lo hi [] := ⟨fun e h => absurd h (by simp), fun e h => absurd h (by simp), List.Pairwise.nil⟩
theorem Bag.keep (h : Bag w lo hi L) (hs : Same lo hi w w') : Bag w' lo hi L := ⟨fun e he => row_same (h.own e he) (h.lt e he) hs, h.lt, h.ap⟩
theorem Bag.below {B : Nat} (h : Bag w lo hi L) (hb : Below B w w') (hB : hi ≤ B) : Bag w' lo hi L := h.keep (Same.of_below hb hB)
theorem Bag.more (h : Bag w lo hi L) (h2 : hi ≤ hi') : Bag w lo hi' L := ⟨h.own, fun e he z hz => by have := h.lt e he z hz; omega, h.ap⟩
theorem Bag.perm (h : Bag w lo hi L) (hp : L.Perm L') : Bag w lo hi L' :=
  ⟨fun e he => h.own e (hp.mem_iff.2 he), fun e he => h.lt e (hp.mem_iff.2 he), (hp.pairwise_iff (fun {a b} hab z h1 h2 => hab z h2 h1)).1 h.ap⟩
theorem Bag.sub (h : Bag w lo hi L) (hs : L'.Sublist L) : Bag w lo hi L' := ⟨fun e he => h.own e (hs.mem he), fun e he => h.lt e (hs.mem he), h.ap.sublist hs⟩
theorem Bag.tail (h : Bag w lo hi (e :: L)) : Bag w lo hi L := h.sub (List.sublist_cons_self e L)
theorem Bag.get {j : Nat} (h : Bag w lo hi L) (hj : L[j]? = some e) : w.ownsRow lo e.T 1 e.v e.n e.xs := h.own e (mem_of_get? hj)
theorem Bag.getO {j : Nat} {T : TypeId} {A : Option Addr} {n c : Nat} {xs : List Value} (h : Bag w lo hi L) (hj : L[j]? = some ⟨T, .slice A n c, n, xs⟩) : Own w lo hi T A n c xs :=
  ⟨h.get hj, fun a ha => h.lt _ (mem_of_get? hj) a.block (by simp [Value.ownBlock, ha])⟩
theorem Bag.apart {i j : Nat} {a b : Ent} (h : Bag w lo hi L) (hi' : L[i]? = some a) (hj : L[j]? = some b) (hne : i ≠ j) : Apart a.v b.v := by
  obtain ⟨h1, rfl⟩ := List.getElem?_eq_some_iff.1 hi'
  obtain ⟨h2, rfl⟩ := List.getElem?_eq_some_iff.1 hj
  have hp := List.pairwise_iff_getElem.1 h.ap
  rcases Nat.lt_or_gt_of_ne hne with g | g
  · exact hp i j h1 h2 g
  · intro z z1 z2
    exact hp j i h2 h1 g z z2 z1
/-- a new row -/
theorem Bag.ins (h : Bag w lo hi (P ++ Q)) (hlo : lo ≤ hi) (hh : hi ≤ hi') (ho : w.ownsRow hi e.T 1 e.v e.n e.xs) (hl : ∀ z, e.v.ownBlock = some z → z < hi') : Bag w lo hi' (P ++ e :: Q) := by
  have h0 : Bag w lo hi' (e :: (P ++ Q)) := by
    refine ⟨fun x hx => ?_, fun x hx z hz => ?_, ?_⟩
    · rcases List.mem_cons.1 hx with rfl | hx
      · exact row_lower ho hlo
      · exact h.own x hx
    · rcases List.mem_cons.1 hx with rfl | hx
      · exact hl z hz
      · have := h.lt x hx z hz; omega
    · rw [List.pairwise_cons]
      refine ⟨fun x hx z h1 h2 => ?_, h.ap⟩
      have := (ho.lt z h1).1
      have := h.lt x hx z h2
      omega
  exact h0.perm List.perm_middle.symm
/-- one row has grown, or was written -/
theorem Bag.set {j : Nat} (h : Bag w lo hi L) (hj : L[j]? = some e) (hhi : hi ≤ w.heap.size) (ho : w'.ownsRow lo e'.T 1 e'.v e'.n e'.xs) (hg : w.grownBy w' e.v.ownBlock) (hor : ∀ z, e'.v.ownBlock = some z → e.v.ownBlock = some z ∨ hi ≤ z) : Bag w' lo w'.heap.size (L.set j e') := by
  have hjl : j < L.length := (List.getElem?_eq_some_iff.1 hj).1
  have hsz := hg.size
  have hother : ∀ (k : Nat) (x : Ent), (L.set j e')[k]? = some x → (k = j ∧ x = e') ∨ (k ≠ j ∧ L[k]? = some x) := by
    intro k x hk
    rw [List.getElem?_set] at hk
    by_cases q : j = k
    · rw [if_pos q, if_pos hjl] at hk
      exact .inl ⟨q.symm, (Option.some.inj hk).symm⟩
    · rw [if_neg q] at hk
      exact .inr ⟨fun g => q g.symm, hk⟩
  have hcr : ∀ (k : Nat) (x : Ent), k ≠ j → L[k]? = some x → ∀ z, e'.v.ownBlock = some z → x.v.ownBlock ≠ some z := by
    intro k x hk hx z hz hxz
    rcases hor z hz with g | g
    · exact h.apart hx hj hk z hxz g
    · have := h.lt x (mem_of_get? hx) z hxz; omega
  refine ⟨fun x hx => ?_, fun x hx z hz => ?_, ?_⟩
  · obtain ⟨k, hk⟩ := List.mem_iff_getElem?.1 hx
    rcases hother k x hk with ⟨_, rfl⟩ | ⟨hne, hk2⟩
    · exact ho
    · refine (h.get hk2).kept hg ?_
      cases hq : x.v.ownBlock with
      | none => exact .inl rfl
      | some z => exact .inr fun g => h.apart hk2 hj hne z hq g.symm
  · obtain ⟨k, hk⟩ := List.mem_iff_getElem?.1 hx
    rcases hother k x hk with ⟨_, rfl⟩ | ⟨hne, hk2⟩
    · exact (ho.lt z hz).2
    · have := h.lt x (mem_of_get? hk2) z hz; omega
  · rw [List.pairwise_iff_getElem]
    intro a b ha hb hab
    have h1 := hother a _ (List.getElem?_eq_getElem ha)
    have h2 := hother b _ (List.getElem?_eq_getElem hb)
    rcases h1 with ⟨e1, e2⟩ | ⟨n1, k1⟩
    · rcases h2 with ⟨e3, _⟩ | ⟨n2, k2⟩
      · omega
      · rw [e2]; exact fun z hz => hcr b _ n2 k2 z hz
    · rcases h2 with ⟨_, e4⟩ | ⟨n2, k2⟩
      · rw [e4]; exact fun z hz hz2 => hcr a _ n1 k1 z hz2 hz
      · exact h.apart k1 k2 (by omega)
/-- a store into the row j -/
theorem Bag.store {j k n c g : Nat} {T : TypeId} {xs : List Value} (h : Bag w lo hi L) (hj : L[j]? = some ⟨T, .slice (some ⟨g, 0, none⟩) n c, n, xs⟩) (hhi : hi ≤ w.heap.size) (u : Value) :
    Bag (w.setCell ⟨g, k, none⟩ u) lo hi (L.set j ⟨T, .slice (some ⟨g, 0, none⟩) n c, n, xs.set k u⟩) := by
  have hs := (h.get hj).stored k u
  have h2 := h.set (e' := ⟨T, .slice (some ⟨g, 0, none⟩) n c, n, xs.set k u⟩) hj hhi hs.1 hs.2 (fun z hz => .inl hz)
  refine ⟨h2.own, fun x hx z hz => ?_, h2.ap⟩
  rcases List.mem_or_eq_of_mem_set hx with hx | rfl
  · exact h.lt x hx z hz
  · exact h.lt _ (mem_of_get? hj) z hz
/-- the rows vs with the numbers xss -/
def rowsE (T : TypeId) (vs : List Value) (xss : List (List Int)) : List Ent := List.zipWith (fun v xs => ⟨T, v, xs.length, xs.map (Value.int .i64)⟩) vs xss
variable {T : TypeId} {vs : List Value} {xss : List (List Int)}
theorem rowsE_get {k : Nat} {v : Value} {ys : List Int} (h1 : vs[k]? = some v) (h2 : xss[k]? = some ys) : (rowsE T vs xss)[k]? = some ⟨T, v, ys.length, ys.map (Value.int .i64)⟩ := by
  unfold rowsE
  rw [List.getElem?_zipWith, h1, h2]
theorem rowsE_set {k : Nat} {v' : Value} {ys' : List Int} : rowsE T (vs.set k v') (xss.set k ys') = (rowsE T vs xss).set k ⟨T, v', ys'.length, ys'.map (Value.int .i64)⟩ := by
  unfold rowsE
  apply List.ext_getElem?
  intro i
  rw [List.getElem?_zipWith, List.getElem?_set, List.getElem?_set, List.getElem?_set, List.getElem?_zipWith]
  by_cases e : k = i
  · subst e
    rw [if_pos rfl, if_pos rfl, if_pos rfl]
    by_cases h1 : k < vs.length
    · by_cases h2 : k < xss.length
      · rw [if_pos h1, if_pos h2, if_pos (by simp; omega)]
      · rw [if_pos h1, if_neg h2, if_neg (by simp; omega)]
    · rw [if_neg h1, if_neg (show ¬ k < (List.zipWith (fun (v : Value) (xs : List Int) => (⟨T, v, xs.length, xs.map (Value.int .i64)⟩ : Ent)) vs xss).length by simp; omega)]
  · rw [if_neg e, if_neg e, if_neg e]
theorem rowsE_snoc {v : Value} {ys : List Int} (h : vs.length = xss.length) : rowsE T (vs ++ [v]) (xss ++ [ys]) = rowsE T vs xss ++ [⟨T, v, ys.length, ys.map (Value.int .i64)⟩] := by
  unfold rowsE
  rw [List.zipWith_append h]
  rfl
theorem rowsE_length (h : vs.length = xss.length) : (rowsE T vs xss).length = vs.length := by unfold rowsE; simp [h]
/-- the row k -/
theorem Bag.row {k : Nat} {v : Value} {ys : List Int} (h : Bag w lo hi L) (hm : ∀ e ∈ rowsE T vs xss, e ∈ L) (h1 : vs[k]? = some v) (h2 : xss[k]? = some ys) : ∃ A n c, v = .slice A n c ∧ Own w lo hi T A n c (ys.map (Value.int .i64)) := by
  have hk := rowsE_get (T := T) h1 h2
  have hin := hm _ (mem_of_get? hk)
  have ho := h.own _ hin
  obtain ⟨A, c, hv⟩ := slice_of_own' ho
  have hv' : v = .slice A ys.length c := hv
  subst hv'
  exact ⟨A, ys.length, c, rfl, ho, fun a ha => h.lt _ hin a.block (by simp [Value.ownBlock, ha])⟩
theorem Bag.rs {T2 : TypeId} {A : Option Addr} {n c : Nat} (h : Bag w lo hi L) (hm : ∀ e ∈ rowsE T vs xss, e ∈ L) (ho : (⟨T2, .slice A n c, n, vs⟩ : Ent) ∈ L) (hl : vs.length = xss.length) : RS w lo hi A n xss := by
  have o1 : Own w lo hi T2 A n c vs := ⟨h.own _ ho, fun a ha => h.lt _ ho a.block (by simp [Value.ownBlock, ha])⟩
  refine ⟨vs, o1.rd, hl, fun k v xs h1 h2 => ?_⟩
  obtain ⟨A1, n1, c1, e, o⟩ := h.row hm h1 h2
  exact ⟨A1, n1, c1, e, o.ri⟩
/-- one of the last rows has grown -/
theorem Bag.grow {j : Nat} {v v' : Value} {ys ys' : List Int} (h : Bag w lo hi (P ++ rowsE T vs xss)) (h1 : vs[j]? = some v) (h2 : xss[j]? = some ys) (hhi : hi ≤ w.heap.size) (ho : w'.ownsRow lo T 1 v' ys'.length (ys'.map (Value.int .i64))) (hg : w.grownBy w' v.ownBlock) (hor : ∀ z, v'.ownBlock = some z → v.ownBlock = some z ∨ hi ≤ z) :
    Bag w' lo w'.heap.size (P ++ rowsE T (vs.set j v') (xss.set j ys')) := by
  have hk := rowsE_get (T := T) h1 h2
  have hk2 : (P ++ rowsE T vs xss)[P.length + j]? = some ⟨T, v, ys.length, ys.map (Value.int .i64)⟩ := by
    rw [List.getElem?_append_right (by omega), Nat.add_sub_cancel_left]
    exact hk
  have := h.set (e' := ⟨T, v', ys'.length, ys'.map (Value.int .i64)⟩) hk2 hhi ho hg hor
  rw [rowsE_set]
  rwa [List.set_append_right _ _ (by omega), Nat.add_sub_cancel_left] at this
theorem RowsOwn.bag (h : RowsOwn w lo hi T vs xss) : Bag w lo hi (rowsE T vs xss) := by
  have hget : ∀ (k : Nat) (x : Ent), (rowsE T vs xss)[k]? = some x → ∃ v ys, vs[k]? = some v ∧ xss[k]? = some ys ∧ x = ⟨T, v, ys.length, ys.map (Value.int .i64)⟩ := by
    intro k x hk
    unfold rowsE at hk
    rw [List.getElem?_zipWith] at hk
    cases h1 : vs[k]? with
    | none => rw [h1] at hk; simp at hk
    | some v =>
      cases h2 : xss[k]? with
      | none => rw [h1, h2] at hk; simp at hk
      | some ys => rw [h1, h2] at hk; exact ⟨v, ys, rfl, rfl, (Option.some.inj hk).symm⟩
  refine ⟨fun e he => ?_, fun e he z hz => ?_, ?_⟩
  · obtain ⟨k, hk⟩ := List.mem_iff_getElem?.1 he
    obtain ⟨v, ys, h1, h2, rfl⟩ := hget k e hk
    obtain ⟨A, n, c, rfl, o⟩ := h.2.2 k v ys h1 h2
    have hn : ys.length = n := by have := o.len; simpa using this
    subst hn
    exact o.1
  · obtain ⟨k, hk⟩ := List.mem_iff_getElem?.1 he
    obtain ⟨v, ys, h1, h2, rfl⟩ := hget k e hk
    exact h.block_lt (mem_of_get? h1) hz
  · rw [List.pairwise_iff_getElem]
    intro a b ha hb hab
    obtain ⟨v, ys, h1, h2, e1⟩ := hget a _ (List.getElem?_eq_getElem ha)
    obtain ⟨v', ys', h1', h2', e2⟩ := hget b _ (List.getElem?_eq_getElem hb)
    rw [e1, e2]
    obtain ⟨p1, rfl⟩ := List.getElem?_eq_some_iff.1 h1
    obtain ⟨p2, rfl⟩ := List.getElem?_eq_some_iff.1 h1'
    exact List.pairwise_iff_getElem.1 h.2.1 a b p1 p2 hab
theorem Bag.rowsOwn (h : Bag w lo hi (rowsE T vs xss)) (hl : vs.length = xss.length) : RowsOwn w lo hi T vs xss := by
  refine ⟨hl, ?_, fun k v xs h1 h2 => h.row (fun e he => he) h1 h2⟩
  rw [List.pairwise_iff_getElem]
  intro a b ha hb hab
  have h1 := rowsE_get (T := T) (List.getElem?_eq_getElem ha) (List.getElem?_eq_getElem (show a < xss.length by omega))
  have h2 := rowsE_get (T := T) (List.getElem?_eq_getElem hb) (List.getElem?_eq_getElem (show b < xss.length by omega))
  exact h.apart h1 h2 (by omega)
end
end Go.Proofs.Ytbioelmofceaaaa
/- Fp -/
namespace Go.Proofs.Ytbioelmofceaaaa
open Go.RowKit
set_option linter.unusedVariables false
set_option maxRecDepth 100000
theorem set_self {α : Type} {l : List α} {i : Nat} {v : α} (h : l[i]? = some v) : l.set i v = l := by
  apply List.ext_getElem?
  intro j
  rw [List.getElem?_set]
  by_cases q : i = j
  · subst q
    rw [if_pos rfl, if_pos (List.getElem?_eq_some_iff.1 h).1, h]
  · rw [if_neg q]
theorem rowsE_nils (T : TypeId) (S : Nat) : rowsE T (List.replicate S (.slice none 0 0)) (List.replicate S []) = List.replicate S ⟨T, .slice none 0 0, 0, []⟩ := by
  unfold rowsE
  rw [List.zipWith_replicate]
  simp
theorem Bag.nils {w : World} {lo hi : Nat} {P : List Ent} (h : Bag w lo hi P) (T : TypeId) (S : Nat) : Bag w lo hi (P ++ rowsE T (List.replicate S (.slice none 0 0)) (List.replicate S [])) := by
  rw [rowsE_nils]
  refine ⟨fun e he => ?_, fun e he z hz => ?_, List.pairwise_append.2 ⟨h.ap, List.pairwise_iff_getElem.2 (fun i j hi hj hij => ?_), fun a ha b hb => ?_⟩⟩
  · rcases List.mem_append.1 he with g | g
    · exact h.own e g
    · rw [List.eq_of_mem_replicate g]; exact World.ownsRow_nil w lo T 1
  · rcases List.mem_append.1 he with g | g
    · exact h.lt e g z hz
    · rw [List.eq_of_mem_replicate g] at hz; simp [Value.ownBlock] at hz
  · rw [List.getElem_replicate]
    intro z hz
    simp [Value.ownBlock] at hz
  · rw [List.eq_of_mem_replicate hb]
    intro z _ hz
    simp [Value.ownBlock] at hz
theorem Bag.join {w : World} {lo mid hi : Nat} {P Q : List Ent} (h : Bag w lo mid P) (k : Bag w mid hi Q) (h1 : lo ≤ mid) (h2 : mid ≤ hi) : Bag w lo hi (P ++ Q) := by
  refine ⟨fun e he => ?_, fun e he z hz => ?_, List.pairwise_append.2 ⟨h.ap, k.ap, fun a ha b hb z hz hz2 => ?_⟩⟩
  · rcases List.mem_append.1 he with g | g
    · exact h.own e g
    · exact row_lower (k.own e g) h1
  · rcases List.mem_append.1 he with g | g
    · have := h.lt e g z hz; omega
    · exact k.lt e g z hz
  · have := h.lt a ha z hz
    have := ((k.own b hb).lt z hz2).1
    omega
/-- a slice of rows of the call's own is a bag -/
theorem OwnS.bag {w : World} {lo hi : Nat} {TS T : TypeId} {A : Option Addr} {n c : Nat} {xss : List (List Int)} (h : OwnS w lo hi TS T A n c xss) (hne : TS ≠ T) : ∃ vs, vs.length = xss.length ∧ Bag w lo hi (⟨TS, .slice A n c, n, vs⟩ :: rowsE T vs xss) := by
  obtain ⟨vs, h1, h2⟩ := h
  refine ⟨vs, h2.1, fun e he => ?_, fun e he z hz => ?_, List.pairwise_cons.2 ⟨fun b hb z hz hz2 => ?_, h2.bag.ap⟩⟩
  · rcases List.mem_cons.1 he with rfl | g
    · exact h1.1
    · exact h2.bag.own e g
  · rcases List.mem_cons.1 he with rfl | g
    · rcases A with _ | ad
      · simp [Value.ownBlock] at hz
      · have := h1.2 ad rfl
        simp [Value.ownBlock] at hz
        omega
    · exact h2.bag.lt e g z hz
  · obtain ⟨k, hk⟩ := List.mem_iff_getElem?.1 hb
    have hbT : b.T = T := by
      unfold rowsE at hk
      rw [List.getElem?_zipWith] at hk
      cases q1 : vs[k]? with
      | none => rw [q1] at hk; simp at hk
      | some v =>
        cases q2 : xss[k]? with
        | none => rw [q1, q2] at hk; simp at hk
        | some ys => rw [q1, q2] at hk; rw [← Option.some.inj hk]
    have ho := h2.bag.own b hb
    rcases h1.1.2 with ⟨hv, _⟩ | ⟨g, cap, cur, hv, _, hg, _⟩
    · rw [hv] at hz; simp [Value.ownBlock] at hz
    · rcases ho.2 with ⟨hv', _⟩ | ⟨g', cap', cur', hv', _, hg', _⟩
      · rw [hv'] at hz2; simp [Value.ownBlock] at hz2
      · rw [hv] at hz
        rw [hv'] at hz2
        simp [Value.ownBlock] at hz hz2
        subst hz; subst hz2
        rw [hg] at hg'
        injection hg' with hg'
        injection hg' with _ e2 _
        exact hne (e2.trans hbT)
theorem RowsOwn.raise {w : World} {lo lo' hi : Nat} {T : TypeId} {vs : List Value} {xss : List (List Int)} (h : RowsOwn w lo hi T vs xss) (hb : ∀ v ∈ vs, ∀ z, v.ownBlock = some z → lo' ≤ z) : RowsOwn w lo' hi T vs xss := by
  refine ⟨h.1, h.2.1, fun k v xs h1 h2 => ?_⟩
  obtain ⟨A, n, c, rfl, o⟩ := h.2.2 k v xs h1 h2
  refine ⟨A, n, c, rfl, ⟨o.1.1, ?_⟩, o.2⟩
  rcases o.1.2 with hn | ⟨g, cap, cur, hv, hb', hg, rest⟩
  · exact .inl hn
  · exact .inr ⟨g, cap, cur, hv, hb _ (mem_of_get? h1) g (by rw [hv]; rfl), hg, rest⟩
theorem allF_take (xss : List (List Int)) (N : Nat) {i n f : Nat} (h : i ≤ n) : (allF xss N n f).take i = allF xss N i f := by
  unfold allF
  rw [← List.map_take, List.take_range, Nat.min_eq_left h]
theorem allF_at (xss : List (List Int)) (N : Nat) {i n f : Nat} (h : i < n) : (allF xss N n f)[i]? = some (aI xss N i f) := by
  unfold allF aI
  rw [List.getElem?_map, List.getElem?_range h]
  rfl
/-- the rows, those below e sorted and compact -/
noncomputable def rowD (xss : List (List Int)) (N m e j : Nat) : List Int := if j < e then setL (catTo xss N m N j) else catTo xss N m N j
theorem rowD_zero (xss : List (List Int)) (N m : Nat) : rowD xss N m 0 = catTo xss N m N := by funext j; unfold rowD; rw [if_neg (by omega)]
theorem rowD_here (xss : List (List Int)) (N m e : Nat) : rowD xss N m e e = catTo xss N m N e := by unfold rowD; rw [if_neg (by omega)]
theorem rowD_set {xss : List (List Int)} {N m S e : Nat} (he : e < S) : ((List.range S).map (rowD xss N m e)).set e (setL (catTo xss N m N e)) = (List.range S).map (rowD xss N m (e + 1)) := by
  apply List.ext_getElem?
  intro j
  rw [List.getElem?_set]
  by_cases q : e = j
  · subst q
    rw [if_pos rfl, if_pos (by simpa using he)]
    simp only [List.getElem?_map, List.getElem?_range he, Option.map_some]
    unfold rowD
    rw [if_pos (by omega)]
  · rw [if_neg q]
    by_cases hj : j < S
    · simp only [List.getElem?_map, List.getElem?_range hj, Option.map_some]
      unfold rowD
      by_cases g : j < e
      · rw [if_pos g, if_pos (by omega)]
      · rw [if_neg g, if_neg (by omega)]
    · rw [List.getElem?_eq_none (by simp; omega), List.getElem?_eq_none (by simp; omega)]
theorem rowD_end {xss : List (List Int)} {N : Nat} (hs : SysOf xss N) : (List.range (offs xss N xss.length)).map (rowD xss N xss.length (offs xss N xss.length)) = bels xss N := by
  unfold bels
  apply List.map_congr_left
  intro j hj
  unfold rowD
  rw [if_pos (List.mem_range.1 hj), bel_same hs]
/-- entries of a bag: a poset's cell, numbers, rows -/
def pE (g n : Nat) (v1 v2 : Value) : Ent := ⟨29, .slice (some ⟨g, 0, none⟩) 3 3, 3, [.int .i64 (n : Int), v1, v2]⟩
def iE (A : Option Addr) (n c : Nat) (xs : List Int) : Ent := ⟨2, .slice A n c, n, xs.map (Value.int .i64)⟩
def sE (A : Option Addr) (n c : Nat) (vs : List Value) : Ent := ⟨22, .slice A n c, n, vs⟩
noncomputable def fpG (xss : List (List Int)) (N : Nat) : Int × List Int × List (List Int) × Bool :=
  if 500 < offs xss N xss.length then (0, [], [], false) else (((xss.length : Nat) : Int), rkL xss N xss.length, bels xss N, true)
set_option maxHeartbeats 8000000 in
theorem facePoset_any (A : Option Addr) (n c : Nat) (xss : List (List Int)) (w : World) {lo hi : Nat} (h : RS w lo hi A n xss) (hhi : hi ≤ w.heap.size) (hn1 : 1 ≤ n) (hn5 : n ≤ 5) (N : Nat) (hN : flg xss = N) (h4 : N ≤ 400) (hs : SysOf xss N) :
    Calls Try.prog 38 #[.agg #[.slice A n c]] w fun e w' => ∃ (r1 : Int) (D1 : Option Addr) (k1 e1 : Nat) (ds : List Int) (A1 : Option Addr) (n1 c1 : Nat) (zss : List (List Int)) (ok : Bool) (M : Nat), e = .returned (.tuple #[.agg #[.int .i64 r1, .slice D1 k1 e1, .slice A1 n1 c1], .bool ok]) ∧ Hid ((r1, ds, zss, ok) = fpG xss N) ∧ OwnP w' w.heap.size M w'.heap.size D1 k1 e1 ds A1 n1 c1 zss ∧ Below w.heap.size w w' := by
  obtain ⟨j0, hj0, hy0, hy1, hy2⟩ := info_parts infoI
  obtain ⟨s0, hs0, hu0, hu1, hu2⟩ := info_parts infoS
  have hl := h.len
  have hS5 : ∀ k, k ≤ 5 → offs xss N k ≤ 2000 := fun k hk => by have := offs_le xss N k; have := Nat.mul_le_mul hk h4; omega
  have hR := rs_alloc (rs_alloc h hhi (.cells #[.slice A n c] 38)) (by simp; omega) (.cells #[.int .i64 0, .slice none 0 0, .slice none 0 0] 29)
  have hB : Below w.heap.size w ((w.alloc (.cells #[.slice A n c] 38)).alloc (.cells #[.int .i64 0, .slice none 0 0, .slice none 0 0] 29)) := ((Below.refl _ _).alloc (Nat.le_refl _) _).alloc (by simp) _
  have c0 : ((w.alloc (.cells #[.slice A n c] 38)).alloc (.cells #[.int .i64 0, .slice none 0 0, .slice none 0 0] 29)).cell? ⟨w.heap.size, 0, none⟩ = some (.slice A n c) := (al_old _ _ _ _ (by simp)).trans (al_new _ _ _ _ rfl)
  have p1 : ((w.alloc (.cells #[.slice A n c] 38)).alloc (.cells #[.int .i64 0, .slice none 0 0, .slice none 0 0] 29)).heap[w.heap.size + 1]? = some (.cells #[.int .i64 0, .slice none 0 0, .slice none 0 0] 29 (0, 0)) := heap_new _ _ _ (by simp)
  replace p1 := Lib.hid p1
  have hget : ∀ k, k < n → (cntsL xss N)[k]? = some (cntR (xss.eraseIdx k) N : Int) := fun k hk => cntsL_get (by omega)
  have hul : ∀ k, cntR (xss.eraseIdx k) N ≤ 400 := fun k => Nat.le_trans (cntR_le_n N) h4
  replace hs := Lib.hid hs
  replace hl := Lib.hid hl
  replace hget := Lib.hid hget
  replace hul := Lib.hid hul
  replace hS5 := Lib.hid hS5
  go_enter Try.func38, Try.ntmps38
  go_wp2_with fail
  obtain ⟨W1, hW⟩ : ∃ W1 : World, ((w.alloc (.cells #[.slice A n c] 38)).alloc (.cells #[.int .i64 0, .slice none 0 0, .slice none 0 0] 29)) = W1 := ⟨_, rfl⟩
  have hz1 : W1.heap.size = w.heap.size + 2 := by rw [← hW]; simp
  rw [hW] at hR hB p1 c0 ⊢
  clear hW h
  ((with_reducible refine (rank_any _ A n c _ c0 (by omega)).mono ?_); rintro e w' ⟨rfl, rfl⟩)
  go_wp2_with fail
  have hB2 : Below W1.heap.size W1 (W1.alloc (.cells #[.int .i64 (n : Int), .slice none 0 0, .slice none 0 0] 29)) := (Below.refl _ _).alloc (Nat.le_refl _) _
  have p2 : (W1.alloc (.cells #[.int .i64 (n : Int), .slice none 0 0, .slice none 0 0] 29)).heap[w.heap.size + 2]? = some (.cells #[.int .i64 (n : Int), .slice none 0 0, .slice none 0 0] 29 (0, 0)) := heap_new _ _ _ hz1.symm
  obtain ⟨W2, hW⟩ : ∃ W2 : World, W1.alloc (.cells #[.int .i64 (n : Int), .slice none 0 0, .slice none 0 0] 29) = W2 := ⟨_, rfl⟩
  have hz2 : W2.heap.size = w.heap.size + 3 := by rw [← hW]; simp [hz1]
  rw [hW] at hB2 p2 ⊢
  have hR2 := hR.below hB2 (by omega)
  have c02 := (hB2.cell (p := ⟨w.heap.size, 0, none⟩) (by simp; omega)).trans c0
  have g0 : Bag W2 (w.heap.size + 2) (w.heap.size + 3) [pE (w.heap.size + 2) n (.slice none 0 0) (.slice none 0 0)] := by
    refine Bag.ins (P := []) (Q := []) (hi := w.heap.size + 2) Bag.nil (Nat.le_refl _) (by omega) (blk_own (vs := [.int .i64 (n : Int), .slice none 0 0, .slice none 0 0]) p2 rfl (Nat.le_refl _) (by simp only [maxLen]; omega)) (fun z hz => ?_)
    simp [Value.ownBlock, pE] at hz
    omega
  clear hW p2
  ((with_reducible refine (faceCounts_any _ A n c xss W2 c02 (by omega) hR2 (by omega) (by omega) N hN h4 hs.out).mono ?_); rintro e w3 ⟨A3, c3, rfl, o3, f3⟩)
  have y3 := f3.size
  have g1 : Bag w3 (w.heap.size + 2) w3.heap.size [pE (w.heap.size + 2) n (.slice none 0 0) (.slice none 0 0), iE A3 n c3 (cntsL xss N), iE none 0 0 []] := by
    have h1 := Bag.ins (P := [_]) (Q := []) (e := iE A3 n c3 (cntsL xss N)) ((g0.below f3 (by omega)).more (hi' := W2.heap.size) (by omega)) (by omega) y3 o3.1 (fun z hz => (o3.1.lt z hz).2)
    exact Bag.ins (P := [_, _]) (Q := []) (e := iE none 0 0 []) h1 (by omega) (Nat.le_refl _) (World.ownsRow_nil w3 _ 2 1) (fun z hz => by simp [iE, Value.ownBlock] at hz)
  have B3 : Below (w.heap.size + 2) W1 w3 := below_then (hB2.mono (by omega)) f3 (by omega)
  clear g0 o3 f3 c02 hR2 hB2
  go_wp2_with fail
  go_loopw [16] (fun kv wq => ∃ (k : Nat) (Ar : Option Addr) (cr : Nat), k ≤ n ∧ kv = .int .i64 k ∧ Bag wq (w.heap.size + 2) wq.heap.size [pE (w.heap.size + 2) n (.slice Ar (offs xss N k) cr) (.slice none 0 0), iE A3 n c3 (cntsL xss N), iE Ar (offs xss N k) cr (rkL xss N k)] ∧ Below (w.heap.size + 2) W1 wq ∧ w.heap.size + 3 ≤ wq.heap.size) (fun kv _ => n - (intOf kv).toNat)
  case atStart => exact ⟨0, none, 0, by omega, rfl, g1, B3, by omega⟩
  case round =>
    clear g1 B3
    obtain ⟨k, Ar, cr, hk, rfl, g, hb, hz⟩ := hrel
    by_cases hkn : k < n
    · obtain ⟨u, hu⟩ : ∃ u, cntR (xss.eraseIdx k) N = u := ⟨_, rfl⟩
      have hgk := hget.out k hkn
      have hu4 := hul.out k
      rw [hu] at hgk hu4
      have oc := g.getO (j := 1) rfl
      obtain ⟨b3, q3, x3, rfl, _, _, hx3, hc3⟩ := oc.ri.at_ hkn
      obtain rfl : (u : Int) = x3 := by rw [hgk] at hx3; exact Option.some.inj hx3
      have hok : offs xss N (k + 1) = offs xss N k + u := by rw [offs_step, hu]
      have hrk : rkL xss N (k + 1) = rkL xss N k ++ List.replicate u (k : Int) := by rw [rkL_succ, hu]
      have hr20 := hS5.out k (by omega)
      have x1 : wr.cell? ⟨w.heap.size + 2, 1, none⟩ = some (.slice Ar (offs xss N k) cr) := (g.get (j := 0) rfl).cellAt 1 (by omega)
      have x1a : (wr.alloc (.cells #[.int .i64 (k : Int)] 2)).cell? ⟨w.heap.size + 2, 1, none⟩ = some (.slice Ar (offs xss N k) cr) := (al_old _ _ _ _ (by omega)).trans x1
      obtain ⟨r, hr⟩ : ∃ r, offs xss N k = r := ⟨_, rfl⟩
      rw [hr] at hok hr20 x1 x1a g
      have hl1 : Own (wr.alloc (.cells #[.int .i64 (k : Int)] 2)).drew wr.heap.size (wr.heap.size + 1) 2 (some ⟨wr.heap.size, 0, none⟩) 1 1 ([(k : Int)].map (Value.int .i64)) := own_lit1 wr _ _ (Nat.le_refl _)
      have hrep := repeat_any (some ⟨wr.heap.size, 0, none⟩) 1 u (k : Int) (wr.alloc (.cells #[.int .i64 (k : Int)] 2)).drew hl1.ri (by simp) (by omega)
      have hba : Below wr.heap.size wr (wr.alloc (.cells #[.int .i64 (k : Int)] 2)).drew := below_drew ((Below.refl wr.heap.size wr).alloc (Nat.le_refl _) _)
      have ga := g.below hba (Nat.le_refl _)
      have hbb : Below (w.heap.size + 2) W1 (wr.alloc (.cells #[.int .i64 (k : Int)] 2)).drew := below_then hb hba (by omega)
      have h1c : ∀ z ∈ (List.replicate u (k : Int)).map (Value.int .i64), z.oneCell' = true := by simp [Value.oneCell']
      have hza : (wr.alloc (.cells #[.int .i64 (k : Int)] 2)).drew.heap.size = wr.heap.size + 1 := by simp
      clear hb hl1 oc hx3 hgk hu hba
      replace hok := Lib.hid hok
      replace hrk := Lib.hid hrk
      replace hr := Lib.hid hr
      replace ga := Lib.hid ga
      replace hbb := Lib.hid hbb
      replace h1c := Lib.hid h1c
      replace hrep := Lib.hid hrep
      replace hza := Lib.hid hza
      replace g := Lib.hid g
      go_wp2_with fail
      go_region_law (first
        | (refine step_call rfl 68 #[.slice (some ⟨wr.heap.size, 0, none⟩) 1 1, .int .i64 (u : Int)] (by go_simp) hrep.out ?_
           rintro e5 w5 ⟨A5, rfl, o5, f5⟩
           refine ⟨_, rfl, ?_⟩
           have y5 := f5.size
           rw [hza.out] at y5
           have g5 := (ga.out.below f5 (by rw [hza.out]; omega)).more (show wr.heap.size ≤ w5.heap.size by omega)
           have x5 : w5.cell? ⟨w.heap.size + 2, 1, none⟩ = some (.slice Ar r cr) := (g5.get (j := 0) rfl).cellAt 1 (by omega)
           have hb5 := below_then hbb.out f5 (by rw [hza.out]; omega)
           replace g5 := Lib.hid g5
           replace hb5 := Lib.hid hb5
           replace o5 := Lib.hid o5)
        | (refine step_appendL _ rfl (.tmp 22) (.tmp 26) 22 rfl (w.heap.size + 2) 2 j0 (.int .i64 0) 8 Try.underlying22 hj0 hy0 hy1 hy2 rfl (by decide) Ar r cr _ (by simp [Act.eval]) (g5.out.get (j := 2) rfl) A5 u u _ _ _ (by simp [Act.eval]) o5.out.rd h1c.out (by omega) (by omega) ?_
           intro A6 c6 w6 ho6 hg6 hor6
           have g6 : Bag w6 (w.heap.size + 2) w6.heap.size [pE (w.heap.size + 2) n (.slice Ar r cr) (.slice none 0 0), iE (some ⟨b3, q3, none⟩) n c3 (cntsL xss N), iE A6 (r + u) c6 (rkL xss N (k + 1))] :=
             g5.out.set (j := 2) (e' := iE A6 (r + u) c6 (rkL xss N (k + 1))) rfl (Nat.le_refl _) (by rw [hrk.out]; simpa [iE] using ho6) hg6 (fun z hz => by rcases hor6 with q | q; exact .inl (q.symm.trans hz); (right; have := q.symm.trans hz; simp at this; omega))
           have x6 : w6.cell? ⟨w.heap.size + 2, 1, none⟩ = some (.slice Ar r cr) := (g6.get (j := 0) rfl).cellAt 1 (by omega)
           have z6 : w6.frozen? ⟨w.heap.size + 2, 1, none⟩ = false := (g6.get (j := 0) rfl).frozenAt 1
           have hb6 := hb5.out.grown hg6 (by omega) (fun q hq => ((g5.out.get (j := 2) rfl).lt q hq).1)
           have zz6 := hg6.size
           replace g6 := Lib.hid g6
           replace hb6 := Lib.hid hb6
           clear ho6 hg6 hor6))
      all_goals
        have g7 := g6.out.store (j := 0) (k := 1) rfl (Nat.le_refl _) (.slice A6 (r + u) c6)
        have hb7 := hb6.out.setCell (p := ⟨w.heap.size + 2, 1, none⟩) (by simp) (.slice A6 (r + u) c6)
        have hz7 : (w6.setCell ⟨w.heap.size + 2, 1, none⟩ (.slice A6 (r + u) c6)).heap.size = w6.heap.size := World.size_setCell _ _ _
        have hz8 := hb7.size
        clear x6 z6 x5 x1 x1a
        go_wp2_with fail
        go_roundw
        case measure => simp [intOf]; omega
        case rel => exact ⟨k + 1, A6, c6, by omega, by go_num, by rw [hok.out, hz7]; exact g7, hb7, by omega⟩
    · obtain rfl : k = n := by omega
      obtain ⟨S, hS⟩ : ∃ S, offs xss N k = S := ⟨_, rfl⟩
      have hS2 : S ≤ 2000 := by rw [← hS]; exact hS5.out k hn5
      have hSl : offs xss N xss.length = S := by rw [hl.out]; exact hS
      rw [hS] at g
      have Q0 := (hb.block (w.heap.size + 1) (by omega)).trans p1.out
      have x1 : wr.cell? ⟨w.heap.size + 2, 1, none⟩ = some (.slice Ar S cr) := (g.get (j := 0) rfl).cellAt 1 (by omega)
      have q0 : wr.cell? ⟨w.heap.size + 1, 0, none⟩ = some (.int .i64 0) := by rw [cell_of_row _ _ _ _ _ _ Q0]; rfl
      have q1 : wr.cell? ⟨w.heap.size + 1, 1, none⟩ = some (.slice none 0 0) := by rw [cell_of_row _ _ _ _ _ _ Q0]; rfl
      have q2 : wr.cell? ⟨w.heap.size + 1, 2, none⟩ = some (.slice none 0 0) := by rw [cell_of_row _ _ _ _ _ _ Q0]; rfl
      have z0 : wr.frozen? ⟨w.heap.size + 1, 0, none⟩ = false := frozen_of_row _ _ _ _ _ Q0
      have z1 : wr.frozen? ⟨w.heap.size + 1, 1, none⟩ = false := frozen_of_row _ _ _ _ _ Q0
      have z2 : wr.frozen? ⟨w.heap.size + 1, 2, none⟩ = false := frozen_of_row _ _ _ _ _ Q0
      replace Q0 := Lib.hid Q0
      replace hS := Lib.hid hS
      replace hSl := Lib.hid hSl
      by_cases h5 : 500 < S
      · have hF : fpG xss N = (0, [], [], false) := by unfold fpG; rw [hSl.out, if_pos h5]
        have hgt : decide ((S : Int) > 500) = true := by simp; omega
        replace hF := Lib.hid hF
        go_wp2_with fail
        (try simp only [Exit.inBlock, Exit.then])
        have h1 := heap_setCell_same _ _ 0 _ _ (Value.int .i64 0) Q0.out
        have h2 := heap_setCell_same _ _ 1 _ _ (Value.slice none 0 0) h1
        have h3 := heap_setCell_same _ _ 2 _ _ (Value.slice none 0 0) h2
        refine bodyPost_ret (v := .tuple #[.agg #[.int .i64 0, .slice none 0 0, .slice none 0 0], .bool false]) ?_ rfl ?_
        · exact results_cell_row2 rfl _ _ (w.heap.size + 1) 29 #[.int .i64 0, .slice none 0 0, .slice none 0 0] (0, 0) _ rfl (by simpa using h3) Try.underlying29 rfl (by kernel_rfl) _ rfl
        · exact ⟨_, _, _, _, [], _, _, _, [], false, w.heap.size, rfl, Lib.hid hF.out.symm, ⟨Nat.le_refl _, by simp; omega, Own.nil, [], Own.nil, RowsOwn.nil⟩, (((hB.trans (hb.mono (by omega))).setCell (by simp) _).setCell (by simp) _).setCell (by simp) _⟩
      · have hle : decide ((S : Int) > 500) = false := by simp; omega
        clear q0 q1 q2 z0 z1 z2
        have hrkn : ∀ z, (Value.slice Ar S cr).ownBlock = some z → z < wr.heap.size := fun z hz => g.lt (iE Ar S cr (rkL xss N k)) (by simp) z hz
        go_wp2_with (at_make; refine wpList_make_full _ rfl _ _ 23 rfl wr.heap.size 22 s0 (.slice none 0 0) 1 Try.underlying23 hs0 hu0 hu1 _ _ _ _ S rfl rfl rfl rfl ?c1 ?c2 (Nat.le_refl _) ?_)
        case c1 => rw [hu2]; omega
        case c2 => simp only [maxLen]; omega
        intro w4 hown hg
        obtain ⟨H, hH⟩ : ∃ H, wr.heap.size = H := ⟨_, rfl⟩
        have hown2 : w4.ownsRow wr.heap.size 22 1 (.slice (some ⟨wr.heap.size, 0, none⟩) S S) S (List.replicate S (.slice none 0 0)) := by simpa [toList_madeCells_one, Value.cells] using hown
        have f4 : Below wr.heap.size wr w4 := below_of_grown hg (Nat.le_refl _) (by simp)
        have zH : wr.heap.size < w4.heap.size := (hown2.lt wr.heap.size (by simp [Value.ownBlock])).2
        have g4 : Bag w4 (w.heap.size + 2) w4.heap.size [pE (w.heap.size + 2) k (.slice Ar S cr) (.slice none 0 0), iE Ar S cr (rkL xss N k), sE (some ⟨wr.heap.size, 0, none⟩) S S (List.replicate S (.slice none 0 0))] := by
          have h1 := (g.below f4 (Nat.le_refl _)).sub (L' := [pE (w.heap.size + 2) k (.slice Ar S cr) (.slice none 0 0), iE Ar S cr (rkL xss N k)]) (by simp)
          exact Bag.ins (P := [_, _]) (Q := []) (e := sE (some ⟨wr.heap.size, 0, none⟩) S S (List.replicate S (.slice none 0 0))) h1 (by omega) (by omega) hown2 (fun z hz => (hown2.lt z hz).2)
        have b4 : Below (w.heap.size + 2) W1 w4 := below_then hb f4 (by omega)
        rw [hH] at g4 zH hrkn ⊢
        have hzH : w.heap.size + 3 ≤ H := by omega
        clear hown hown2 hg f4 g hb
        have k2 : w4.cell? ⟨w.heap.size + 2, 2, none⟩ = some (.slice none 0 0) := (g4.get (j := 0) rfl).cellAt 2 (by omega)
        have v2 : w4.frozen? ⟨w.heap.size + 2, 2, none⟩ = false := (g4.get (j := 0) rfl).frozenAt 2
        have g5 := g4.store (j := 0) (k := 2) rfl (Nat.le_refl _) (.slice (some ⟨H, 0, none⟩) S S)
        have b5 := b4.setCell (p := ⟨w.heap.size + 2, 2, none⟩) (by simp) (.slice (some ⟨H, 0, none⟩) S S)
        have y5 : (w4.setCell ⟨w.heap.size + 2, 2, none⟩ (.slice (some ⟨H, 0, none⟩) S S)).heap.size = w4.heap.size := World.size_setCell _ _ _
        clear g4 b4 x1 hH
        replace g5 := Lib.hid g5
        go_wp2_with fail
        obtain ⟨w5, hw5⟩ : ∃ w5 : World, w4.setCell ⟨w.heap.size + 2, 2, none⟩ (.slice (some ⟨H, 0, none⟩) S S) = w5 := ⟨_, rfl⟩
        rw [hw5] at g5 b5 y5 ⊢
        rw [← y5] at g5 zH
        clear hw5 y5 k2 v2
        have g5 : Bag w5 (w.heap.size + 2) w5.heap.size [pE (w.heap.size + 2) k (.slice Ar S cr) (.slice (some ⟨H, 0, none⟩) S S), iE Ar S cr (rkL xss N k), sE (some ⟨H, 0, none⟩) S S (List.replicate S (.slice none 0 0))] := g5.out
        have c05 := (b5.cell (p := ⟨w.heap.size, 0, none⟩) (by first | (simp; done) | (simp; omega))).trans c0
        have hz5 := b5.size
        ((with_reducible refine (allFaces_any w.heap.size A k c xss w5 c05 (by omega) (hR.below b5 (by omega)) (by omega) hn1 hn5 N hN h4 hs.out).mono ?_); rintro e6 w6 ⟨A6, rfl, o6, f6⟩)
        obtain ⟨fvs, hfl, B6⟩ := o6.bag (by decide)
        have y6 := f6.size
        have b6 := below_then b5 f6 (by omega)
        obtain ⟨P0, hP0⟩ : ∃ P0, rowsE 2 fvs ((List.range N).map (allF xss N k)) = P0 := ⟨_, rfl⟩
        have hlen : (List.range S).map (rowC xss N k 0 0) = List.replicate S [] := by
          apply List.ext_getElem?
          intro j
          by_cases hj : j < S
          · simp [hj, rowC_zero, catTo]
          · rw [List.getElem?_eq_none (by simp; omega), List.getElem?_eq_none (by simp; omega)]
        have g6 : Bag w6 (w.heap.size + 2) w6.heap.size ((pE (w.heap.size + 2) k (.slice Ar S cr) (.slice (some ⟨H, 0, none⟩) S S) :: iE Ar S cr (rkL xss N k) :: sE (some ⟨H, 0, none⟩) S S (List.replicate S (.slice none 0 0)) :: sE A6 N N fvs :: P0) ++ rowsE 2 (List.replicate S (.slice none 0 0)) ((List.range S).map (rowC xss N k 0 0))) := by
          rw [hlen, ← hP0]
          exact ((g5.below f6 (Nat.le_refl _)).join B6 (by omega) y6).nils 2 S
        have hap6 : ∀ v ∈ List.replicate S (Value.slice none 0 0), ∀ z, v.ownBlock = some z → H < z := fun v hv z hz => by rw [List.eq_of_mem_replicate hv] at hz; simp [Value.ownBlock] at hz
        have zH6 : H < w6.heap.size := by omega
        have hvl6 : (List.replicate S (Value.slice none 0 0)).length = S := by simp
        generalize List.replicate S (Value.slice none 0 0) = vs0 at g6 hap6 hvl6
        clear g5 o6 f6 B6 c05 hlen b5
        replace hfl := Lib.hid hfl
        replace hP0 := Lib.hid hP0
        replace hap6 := Lib.hid hap6
        replace hrkn := Lib.hid hrkn
        replace hvl6 := Lib.hid hvl6
        go_wp2_with fail
        go_loopw [42] (fun kv wq => ∃ (f : Nat) (vs : List Value), f ≤ N ∧ kv = .int .i64 f ∧ Hid (vs.length = S) ∧ Bag wq (w.heap.size + 2) wq.heap.size ((pE (w.heap.size + 2) k (.slice Ar S cr) (.slice (some ⟨H, 0, none⟩) S S) :: iE Ar S cr (rkL xss N k) :: sE (some ⟨H, 0, none⟩) S S vs :: sE A6 N N fvs :: P0) ++ rowsE 2 vs ((List.range S).map (rowC xss N k f 0))) ∧ Hid (∀ v ∈ vs, ∀ z, v.ownBlock = some z → H < z) ∧ Below (w.heap.size + 2) W1 wq ∧ H < wq.heap.size) (fun kv _ => N - (intOf kv).toNat)
        case atStart => exact ⟨0, vs0, by omega, rfl, hvl6, g6, hap6, b6, zH6⟩
        case round =>
          clear g6 hap6 b6 zH6 hvl6
          obtain ⟨f, vs, hf, rfl, hvl, g, hap, hb, hzz⟩ := hrel
          by_cases hfN : f < N
          · have oF := g.getO (j := 3) rfl
            have hfv : f < fvs.length := by rw [hfl.out]; simpa using hfN
            obtain ⟨bf, of', fv, hA6, _, _, hfv, hcf⟩ := oF.rd.at_ hfN
            subst hA6
            obtain ⟨Af, nf, cf, rfl, ofr⟩ := g.row (T := 2) (vs := fvs) (xss := (List.range N).map (allF xss N k)) (fun e he => by rw [hP0.out] at he; simp [he]) hfv (by simp [hfN] : ((List.range N).map (allF xss N k))[f]? = some (allF xss N k f))
            obtain rfl : k = nf := by rw [← ofr.lenI, allF_length]
            have f0 : (0 : Int) ≤ (f : Int) := by omega
            have f1 : (f : Int) < (N : Int) := by omega
            replace hfv := Lib.hid hfv
            clear oF ofr
            go_wp2_with fail
            go_loopw [48] (fun kv wq => ∃ (i : Nat) (vs2 : List Value), i ≤ k ∧ kv = .int .i64 i ∧ Hid (vs2.length = S) ∧ Bag wq (w.heap.size + 2) wq.heap.size ((pE (w.heap.size + 2) k (.slice Ar S cr) (.slice (some ⟨H, 0, none⟩) S S) :: iE Ar S cr (rkL xss N k) :: sE (some ⟨H, 0, none⟩) S S vs2 :: sE (some ⟨bf, of', none⟩) N N fvs :: P0) ++ rowsE 2 vs2 ((List.range S).map (rowC xss N k f i))) ∧ Hid (∀ v ∈ vs2, ∀ z, v.ownBlock = some z → H < z) ∧ Below (w.heap.size + 2) W1 wq ∧ H < wq.heap.size) (fun kv _ => k - (intOf kv).toNat)
            case atStart => exact ⟨0, vs, by omega, rfl, hvl, g, hap, hb, hzz⟩
            case round =>
              clear g hap hb hzz hvl hcf
              obtain ⟨i, vs2, hi5, rfl, hvl, g, hap, hb, hzz⟩ := hrel
              obtain ⟨Afx, nfx, cfx, eqf, ofr⟩ := g.row (T := 2) (vs := fvs) (xss := (List.range N).map (allF xss N k)) (fun e he => by rw [hP0.out] at he; simp [he]) hfv.out (by simp [hfN] : ((List.range N).map (allF xss N k))[f]? = some (allF xss N k f))
              injection eqf with q1 q2 q3
              subst q1; subst q2; subst q3
              by_cases hik : i < k
              · obtain ⟨ba, oa, xe, hAf, _, _, hxe, hcx⟩ := ofr.ri.at_ hik
                subst hAf
                have hkcf : k ≤ cf := ofr.cap
                have hae := aI_lt (N := N) (f := f) hs.out hfN (show i < k by omega)
                obtain rfl : aI xss N i f = xe := by rw [allF_at xss N hik] at hxe; exact Option.some.inj hxe
                rw [hS.out] at hae
                obtain ⟨en, hen⟩ := Int.eq_ofNat_of_zero_le hae.1
                have henS : en < S := by omega
                rw [hen] at hcx
                have hvl2 : en < vs2.length := by rw [hvl.out]; exact henS
                obtain ⟨ve, hve⟩ : ∃ v, vs2[en]? = some v := ⟨_, List.getElem?_eq_getElem hvl2⟩
                have hye : ((List.range S).map (rowC xss N k f i))[en]? = some (rowC xss N k f i en) := by simp [henS]
                obtain ⟨Ae, ne, ce, rfl, oe⟩ := g.row (T := 2) (vs := vs2) (xss := (List.range S).map (rowC xss N k f i)) (fun e he => List.mem_append.2 (.inr he)) hve hye
                have hnl := rowC_len (xss := xss) (N := N) (m := k) (f := f) (k := i) (e := en) hn5 (by omega) (by omega)
                have hne : ne ≤ 10025 := by rw [← oe.lenI]; exact hnl
                have x2 : wr.cell? ⟨w.heap.size + 2, 2, none⟩ = some (.slice (some ⟨H, 0, none⟩) S S) := (g.get (j := 0) rfl).cellAt 2 (by omega)
                have xh : wr.cell? ⟨H, en, none⟩ = some (.slice Ae ne ce) := by
                  rw [(g.get (j := 2) rfl).cellAt en (by omega)]; exact hve
                have rT : Rd wr (w.heap.size + 2) wr.heap.size (some ⟨ba, oa, none⟩) i ((allF xss N i f).map (Value.int .i64)) := by
                  refine ⟨by simp [allF_length], by have := ofr.rd.2.1; omega, fun h0 => ?_⟩
                  obtain ⟨b1, o1, e1, l1, l2, hc⟩ := ofr.rd.2.2 (by omega)
                  refine ⟨b1, o1, e1, l1, l2, fun j v hv => hc j v ?_⟩
                  rw [← allF_take xss N (show i ≤ k by omega), List.map_take] at hv
                  rw [List.getElem?_take] at hv
                  by_cases hj : j < i
                  · rwa [if_pos hj] at hv
                  · rw [if_neg hj] at hv; cases hv
                have hset := rowC_set (xss := xss) (N := N) (m := k) (f := f) (k := i) (S := S) henS hen
                have e0 : (0 : Int) ≤ (en : Int) := by omega
                have e1 : (en : Int) < (S : Int) := by omega
                have i0 : (0 : Int) ≤ (i : Int) := by omega
                have i1 : (i : Int) < (k : Int) := by omega
                have i2 : (i : Int) ≤ (cf : Int) := by omega
                have h1c : ∀ z ∈ (allF xss N i f).map (Value.int .i64), z.oneCell' = true := by simp [Value.oneCell']
                have hRd : ∀ W' : World, (∀ k, W'.heap[k]? = wr.heap[k]?) → Rd W' (w.heap.size + 2) wr.heap.size (some ⟨ba, oa, none⟩) i ((allF xss N i f).map (Value.int .i64)) := fun W' hW => rT.keep (fun k _ _ => hW k)
                have gdw : Bag wr.drew (w.heap.size + 2) wr.heap.size ((pE (w.heap.size + 2) k (.slice Ar S cr) (.slice (some ⟨H, 0, none⟩) S S) :: iE Ar S cr (rkL xss N k) :: sE (some ⟨H, 0, none⟩) S S vs2 :: sE (some ⟨bf, of', none⟩) N N fvs :: P0) ++ rowsE 2 vs2 ((List.range S).map (rowC xss N k f i))) := g.keep (fun _ _ _ => rfl)
                have hbdw : Below (w.heap.size + 2) W1 wr.drew := below_drew hb
                have hre : wr.drew.ownsRow (w.heap.size + 2) 2 1 (.slice Ae ne ce) ne ((rowC xss N k f i en).map (Value.int .i64)) := (oe.keep (fun _ _ _ => rfl)).1
                have hdz : w.heap.size + 2 ≤ wr.drew.heap.size := by show _ ≤ wr.heap.size; omega
                replace hre := Lib.hid hre
                replace hen := Lib.hid hen
                replace hve := Lib.hid hve
                replace hye := Lib.hid hye
                replace hxe := Lib.hid hxe
                replace hset := Lib.hid hset
                replace g := Lib.hid g
                replace gdw := Lib.hid gdw
                replace hb := Lib.hid hb
                replace hbdw := Lib.hid hbdw
                replace h1c := Lib.hid h1c
                replace ofr := Lib.hid ofr
                replace hRd := Lib.hid hRd
                replace oe := Lib.hid oe
                clear hvl2 rT hnl
                go_wp2_with fail
                go_region_law (
                  refine step_appendL _ rfl (.tmp 60) (.tmp 63) 22 rfl (w.heap.size + 2) 2 j0 (.int .i64 0) 8 Try.underlying22 hj0 hy0 hy1 hy2 rfl (by decide) Ae ne ce _ (by simp [Act.eval]) hre.out (some ⟨ba, oa, none⟩) i cf _ _ _ (by simp [Act.eval]) (hRd.out _ (fun _ => rfl)) h1c.out (by omega) hdz ?_
                  intro A7 c7 w7 ho7 hg7 hor7
                  have g7 : Bag w7 (w.heap.size + 2) w7.heap.size ((pE (w.heap.size + 2) k (.slice Ar S cr) (.slice (some ⟨H, 0, none⟩) S S) :: iE Ar S cr (rkL xss N k) :: sE (some ⟨H, 0, none⟩) S S vs2 :: sE (some ⟨bf, of', none⟩) N N fvs :: P0) ++ rowsE 2 (vs2.set en (.slice A7 (ne + i) c7)) ((List.range S).map (rowC xss N k f (i + 1)))) := by
                    have h1 := gdw.out.grow (j := en) (v' := .slice A7 (ne + i) c7) (ys' := rowC xss N k f i en ++ allF xss N i f) hve.out hye.out (Nat.le_refl _) (by
                      rw [List.length_append, show (rowC xss N k f i en).length = ne from oe.out.lenI, allF_length, List.map_append]
                      exact ho7) hg7 (fun z hz => by
                      rcases hor7 with q | q
                      · exact .inl (q.symm.trans hz)
                      · right
                        have := q.symm.trans hz
                        simp at this
                        omega)
                    rw [hset.out] at h1
                    exact h1
                  have x7 : w7.cell? ⟨H, en, none⟩ = some (.slice Ae ne ce) := by
                    rw [(g7.get (j := 2) rfl).cellAt en (by omega)]; exact hve.out
                  have x27 : w7.cell? ⟨w.heap.size + 2, 2, none⟩ = some (.slice (some ⟨H, 0, none⟩) S S) := (g7.get (j := 0) rfl).cellAt 2 (by omega)
                  have z7 : w7.frozen? ⟨H, en, none⟩ = false := (g7.get (j := 2) rfl).frozenAt en
                  have b7 : Below (w.heap.size + 2) W1 w7 := hbdw.out.grown hg7 (by simp; omega) (fun z hz => (hre.out.lt z hz).1)
                  have zz7 : wr.heap.size ≤ w7.heap.size := hg7.size
                  have hap7 : ∀ v ∈ vs2.set en (.slice A7 (ne + i) c7), ∀ z, v.ownBlock = some z → H < z := fun v hv z hz => by
                    rcases List.mem_or_eq_of_mem_set hv with hv | rfl
                    · exact hap.out v hv z hz
                    · rcases hor7 with q | q
                      · exact hap.out _ (mem_of_get? hve.out) z (q.symm.trans hz)
                      · have := q.symm.trans hz
                        simp at this
                        omega
                  replace g7 := Lib.hid g7
                  replace b7 := Lib.hid b7
                  replace hap7 := Lib.hid hap7
                  clear ho7 hg7 hor7)
                all_goals
                  have g8 := g7.out.store (j := 2) (k := en) rfl (Nat.le_refl _) (.slice A7 (ne + i) c7)
                  have b8 := b7.out.setCell (p := ⟨H, en, none⟩) (by simp; omega) (.slice A7 (ne + i) c7)
                  have y8 : (w7.setCell ⟨H, en, none⟩ (.slice A7 (ne + i) c7)).heap.size = w7.heap.size := World.size_setCell _ _ _
                  have hw1 : IntKind.i64.wrap ((i : Int) + 1) = ((i + 1 : Nat) : Int) := by rw [IntKind.wrap_i64]; omega
                  have hvl8 : (vs2.set en (.slice A7 (ne + i) c7)).length = S := by rw [List.length_set]; exact hvl.out
                  obtain ⟨w8, hw8⟩ : ∃ w8 : World, w7.setCell ⟨H, en, none⟩ (.slice A7 (ne + i) c7) = w8 := ⟨_, rfl⟩
                  rw [hw8] at g8 b8 y8 ⊢
                  rw [← y8] at g8 zz7
                  have hz8 : H < w8.heap.size := by omega
                  replace hvl8 := Lib.hid hvl8
                  clear y8 hw8 x7 x27 z7 x2 xh
                  go_wp2_with fail
                  clear hw1
                  go_roundw
                  case measure => first | (simp [intOf]; done) | (simp [intOf]; omega)
                  case rel => first | exact ⟨i + 1, _, by omega, rfl, hvl8, g8, hap7, b8, hz8⟩ | ((repeat (apply Exists.intro)); exact ⟨⟨i + 1, _, by omega, rfl, hvl8, g8, hap7, b8, hz8⟩, rfl⟩)
              · obtain rfl : i = k := by omega
                have hnx : (List.range S).map (rowC xss N i f i) = (List.range S).map (rowC xss N i (f + 1) 0) := List.map_congr_left (fun j _ => rowC_next xss N i f j)
                rw [hnx] at g
                have hw1 : IntKind.i64.wrap ((f : Int) + 1) = ((f + 1 : Nat) : Int) := by rw [IntKind.wrap_i64]; omega
                clear hnx ofr
                go_wp2_with fail
                clear hw1
                go_roundw
                case measure => first | (simp [intOf]; done) | (simp [intOf]; omega)
                case rel => first | exact ⟨f + 1, vs2, by omega, rfl, hvl, g, hap, hb, hzz⟩ | ((repeat (apply Exists.intro)); exact ⟨⟨f + 1, vs2, by omega, rfl, hvl, g, hap, hb, hzz⟩, rfl⟩)
          · obtain rfl : f = N := by omega
            have hst : (List.range S).map (rowC xss f k f 0) = (List.range S).map (rowD xss f k 0) := List.map_congr_left (fun j _ => by rw [rowC_zero, rowD_zero])
            rw [hst] at g
            have x2 : wr.cell? ⟨w.heap.size + 2, 2, none⟩ = some (.slice (some ⟨H, 0, none⟩) S S) := (g.get (j := 0) rfl).cellAt 2 (by omega)
            clear hst
            go_wp2_with fail
            clear x2
            go_loopw [71] (fun kv wq => ∃ (e : Nat) (vs : List Value), e ≤ S ∧ kv = .int .i64 e ∧ Hid (vs.length = S) ∧ Bag wq (w.heap.size + 2) wq.heap.size ((pE (w.heap.size + 2) k (.slice Ar S cr) (.slice (some ⟨H, 0, none⟩) S S) :: iE Ar S cr (rkL xss f k) :: sE (some ⟨H, 0, none⟩) S S vs :: sE A6 f f fvs :: P0) ++ rowsE 2 vs ((List.range S).map (rowD xss f k e))) ∧ Hid (∀ v ∈ vs, ∀ z, v.ownBlock = some z → H < z) ∧ Below (w.heap.size + 2) W1 wq ∧ H < wq.heap.size) (fun kv _ => S - (intOf kv).toNat)
            case atStart => exact ⟨0, vs, by omega, rfl, hvl, g, hap, hb, hzz⟩
            case round =>
              clear g hap hb hzz hvl
              obtain ⟨e, vs, heS, rfl, hvl, g, hap, hb, hzz⟩ := hrel
              have x2 : wr.cell? ⟨w.heap.size + 2, 2, none⟩ = some (.slice (some ⟨H, 0, none⟩) S S) := (g.get (j := 0) rfl).cellAt 2 (by omega)
              by_cases hlt : e < S
              · obtain ⟨ve, hve⟩ : ∃ v, vs[e]? = some v := ⟨_, List.getElem?_eq_getElem (show e < vs.length by rw [hvl.out]; exact hlt)⟩
                obtain ⟨ys, hys⟩ : ∃ ys, catTo xss f k f e = ys := ⟨_, rfl⟩
                have hye : ((List.range S).map (rowD xss f k e))[e]? = some ys := by simp [hlt, rowD_here, hys]
                obtain ⟨Ae, ne, ce, rfl, oe⟩ := g.row (T := 2) (vs := vs) (xss := (List.range S).map (rowD xss f k e)) (fun e he => List.mem_append.2 (.inr he)) hve hye
                have hnl : ys.length ≤ 10025 := by
                  rw [← hys, ← rowC_zero]
                  exact rowC_len hn5 (by omega) (by omega)
                have hne : ne ≤ 10025 := by rw [← oe.lenI]; exact hnl
                have xh : wr.cell? ⟨H, e, none⟩ = some (.slice Ae ne ce) := by
                  rw [(g.get (j := 2) rfl).cellAt e (by omega)]; exact hve
                have e0 : (0 : Int) ≤ (e : Int) := by omega
                have e1 : (e : Int) < (S : Int) := by omega
                have hset := rowD_set (xss := xss) (N := f) (m := k) (S := S) hlt
                rw [hys] at hset
                have hvs : vs.set e (.slice Ae ne ce) = vs := set_self hve
                have hysl : ys.length = ne := oe.lenI
                have oe1 : wr.ownsRow (w.heap.size + 2) 2 1 (.slice Ae ne ce) ne (ys.map (Value.int .i64)) := oe.1
                have hlo9 : w.heap.size + 2 ≤ wr.heap.size := by omega
                have hne9 : ne ≤ 1048576 := by omega
                replace hset := Lib.hid hset
                replace hvs := Lib.hid hvs
                replace hve := Lib.hid hve
                replace hye := Lib.hid hye
                replace hys := Lib.hid hys
                replace hysl := Lib.hid hysl
                go_wp2_with fail
                ((with_reducible refine (isort_grown Ae ne ce ys wr oe1 hne9 hlo9).mono ?_); rintro e7 w7 ⟨rfl, o7, hg7⟩)
                have g7 : Bag w7 (w.heap.size + 2) w7.heap.size ((pE (w.heap.size + 2) k (.slice Ar S cr) (.slice (some ⟨H, 0, none⟩) S S) :: iE Ar S cr (rkL xss f k) :: sE (some ⟨H, 0, none⟩) S S vs :: sE A6 f f fvs :: P0) ++ rowsE 2 vs (((List.range S).map (rowD xss f k e)).set e (sortL ys))) := by
                  have h1 := g.grow (j := e) (v' := .slice Ae ne ce) (ys' := sortL ys) hve.out hye.out (Nat.le_refl _) (by rw [sortL_length, hysl.out]; exact o7) hg7 (fun z hz => .inl hz)
                  rw [hvs.out] at h1
                  exact h1
                have b7 : Below (w.heap.size + 2) W1 w7 := hb.grown hg7 hlo9 (fun z hz => (oe1.lt z hz).1)
                have zz7 : wr.heap.size ≤ w7.heap.size := hg7.size
                have hz7 : H < w7.heap.size := by omega
                clear g hb hg7 oe oe1 x2 xh
                have gdw : Bag w7.drew (w.heap.size + 2) w7.heap.size ((pE (w.heap.size + 2) k (.slice Ar S cr) (.slice (some ⟨H, 0, none⟩) S S) :: iE Ar S cr (rkL xss f k) :: sE (some ⟨H, 0, none⟩) S S vs :: sE A6 f f fvs :: P0) ++ rowsE 2 vs (((List.range S).map (rowD xss f k e)).set e (sortL ys))) := g7.keep (fun _ _ _ => rfl)
                have b7d : Below (w.heap.size + 2) W1 w7.drew := below_drew b7
                have x2 : w7.cell? ⟨w.heap.size + 2, 2, none⟩ = some (.slice (some ⟨H, 0, none⟩) S S) := (g7.get (j := 0) rfl).cellAt 2 (by omega)
                have xh : w7.cell? ⟨H, e, none⟩ = some (.slice Ae ne ce) := by
                  rw [(g7.get (j := 2) rfl).cellAt e (by omega)]; exact hve.out
                have hdz : w.heap.size + 2 ≤ w7.drew.heap.size := by show _ ≤ w7.heap.size; omega
                have o7d : w7.drew.ownsRow (w.heap.size + 2) 2 1 (.slice Ae ne ce) ne ((sortL ys).map (Value.int .i64)) := o7
                have hcmp := icompact_any Ae ne ce (sortL ys) w7.drew o7d (by omega) hdz (sortL_sorted ys)
                rw [setL_sortL] at hcmp
                have hye7 : (((List.range S).map (rowD xss f k e)).set e (sortL ys))[e]? = some (sortL ys) := by simp [hlt]
                replace hye7 := Lib.hid hye7
                replace gdw := Lib.hid gdw
                replace b7d := Lib.hid b7d
                replace hcmp := Lib.hid hcmp
                replace o7d := Lib.hid o7d
                replace hap := Lib.hid hap.out
                clear g7 b7 o7
                go_wp2_with fail
                go_region_law (
                  refine step_call rfl 71 #[.slice Ae ne ce] (by go_simp) hcmp.out ?_
                  rintro e9 w9 ⟨k9, rfl, hk9, o9, hg9⟩
                  refine ⟨_, rfl, ?_⟩
                  have g9 : Bag w9 (w.heap.size + 2) w9.heap.size ((pE (w.heap.size + 2) k (.slice Ar S cr) (.slice (some ⟨H, 0, none⟩) S S) :: iE Ar S cr (rkL xss f k) :: sE (some ⟨H, 0, none⟩) S S vs :: sE A6 f f fvs :: P0) ++ rowsE 2 (vs.set e (.slice Ae k9 ce)) ((List.range S).map (rowD xss f k (e + 1)))) := by
                    have h1 := gdw.out.grow (j := e) (v' := .slice Ae k9 ce) (ys' := setL ys) hve.out hye7.out (Nat.le_refl _) (by
                      have h2 : ((setL ys).map (Value.int .i64)).length = k9 := by have := o9.1; simpa using this
                      rw [List.length_map] at h2
                      rw [h2]
                      exact o9) hg9 (fun z hz => .inl (by cases Ae with | none => simp [Value.ownBlock] at hz | some q => exact hz))
                    rw [List.set_set, hset.out] at h1
                    exact h1
                  have x27 : w9.cell? ⟨w.heap.size + 2, 2, none⟩ = some (.slice (some ⟨H, 0, none⟩) S S) := (g9.get (j := 0) rfl).cellAt 2 (by omega)
                  have x9 : w9.cell? ⟨H, e, none⟩ = some (.slice Ae ne ce) := by
                    rw [(g9.get (j := 2) rfl).cellAt e (by omega)]; exact hve.out
                  have z9 : w9.frozen? ⟨H, e, none⟩ = false := (g9.get (j := 2) rfl).frozenAt e
                  have b9 : Below (w.heap.size + 2) W1 w9 := b7d.out.grown hg9 (by simp; omega) (fun z hz => (o7d.out.lt z hz).1)
                  have zz9 : w7.heap.size ≤ w9.heap.size := hg9.size
                  have hap9 : ∀ v ∈ vs.set e (.slice Ae k9 ce), ∀ z, v.ownBlock = some z → H < z := fun v hv z hz => by
                    rcases List.mem_or_eq_of_mem_set hv with hv | rfl
                    · exact hap.out v hv z hz
                    · exact hap.out _ (mem_of_get? hve.out) z (by cases Ae with | none => simp [Value.ownBlock] at hz | some q => exact hz)
                  replace g9 := Lib.hid g9
                  replace b9 := Lib.hid b9
                  replace hap9 := Lib.hid hap9
                  clear o9 hg9)
                all_goals
                  have g8 := g9.out.store (j := 2) (k := e) rfl (Nat.le_refl _) (.slice Ae k9 ce)
                  have b8 := b9.out.setCell (p := ⟨H, e, none⟩) (by simp; omega) (.slice Ae k9 ce)
                  have y8 : (w9.setCell ⟨H, e, none⟩ (.slice Ae k9 ce)).heap.size = w9.heap.size := World.size_setCell _ _ _
                  have hw1 : IntKind.i64.wrap ((e : Int) + 1) = ((e + 1 : Nat) : Int) := by rw [IntKind.wrap_i64]; omega
                  have hvl8 : (vs.set e (.slice Ae k9 ce)).length = S := by rw [List.length_set]; exact hvl.out
                  obtain ⟨w8, hw8⟩ : ∃ w8 : World, w9.setCell ⟨H, e, none⟩ (.slice Ae k9 ce) = w8 := ⟨_, rfl⟩
                  rw [hw8] at g8 b8 y8 ⊢
                  rw [← y8] at g8 zz9
                  have hz8 : H < w8.heap.size := by omega
                  replace hvl8 := Lib.hid hvl8
                  clear y8 hw8 x9 x27 z9 x2 xh
                  go_wp2_with fail
                  clear hw1
                  go_roundw
                  case measure => first | (simp [intOf]; done) | (simp [intOf]; omega)
                  case rel => first | exact ⟨e + 1, _, by omega, rfl, hvl8, g8, hap9, b8, hz8⟩ | ((repeat (apply Exists.intro)); exact ⟨⟨e + 1, _, by omega, rfl, hvl8, g8, hap9, b8, hz8⟩, rfl⟩)
              · obtain rfl : e = S := by omega
                have hend : (List.range e).map (rowD xss f k e) = bels xss f := by
                  have h1 := rowD_end (xss := xss) hs.out
                  rw [hSl.out, hl.out] at h1
                  exact h1
                rw [hend] at g
                have hF : fpG xss f = (((k : Nat) : Int), rkL xss f k, bels xss f, true) := by unfold fpG; rw [hSl.out, if_neg (by omega), hl.out]
                have Q0 := (hb.block (w.heap.size + 1) (by omega)).trans p1.out
                have q0 : wr.cell? ⟨w.heap.size + 1, 0, none⟩ = some (.int .i64 0) := by rw [cell_of_row _ _ _ _ _ _ Q0]; rfl
                have q1 : wr.cell? ⟨w.heap.size + 1, 1, none⟩ = some (.slice none 0 0) := by rw [cell_of_row _ _ _ _ _ _ Q0]; rfl
                have q2 : wr.cell? ⟨w.heap.size + 1, 2, none⟩ = some (.slice none 0 0) := by rw [cell_of_row _ _ _ _ _ _ Q0]; rfl
                have z0 : wr.frozen? ⟨w.heap.size + 1, 0, none⟩ = false := frozen_of_row _ _ _ _ _ Q0
                have z1 : wr.frozen? ⟨w.heap.size + 1, 1, none⟩ = false := frozen_of_row _ _ _ _ _ Q0
                have z2 : wr.frozen? ⟨w.heap.size + 1, 2, none⟩ = false := frozen_of_row _ _ _ _ _ Q0
                have x0 : wr.cell? ⟨w.heap.size + 2, 0, none⟩ = some (.int .i64 (k : Int)) := (g.get (j := 0) rfl).cellAt 0 (by omega)
                have x1 : wr.cell? ⟨w.heap.size + 2, 1, none⟩ = some (.slice Ar e cr) := (g.get (j := 0) rfl).cellAt 1 (by omega)
                replace Q0 := Lib.hid Q0
                replace hF := Lib.hid hF
                clear hend
                go_wp2_with fail
                (try simp only [Exit.inBlock, Exit.then])
                have h1 := heap_setCell_same _ _ 0 _ _ (Value.int .i64 (k : Int)) Q0.out
                have h2 := heap_setCell_same _ _ 1 _ _ (Value.slice Ar e cr) h1
                have h3 := heap_setCell_same _ _ 2 _ _ (Value.slice (some ⟨H, 0, none⟩) e e) h2
                refine bodyPost_ret (v := .tuple #[.agg #[.int .i64 (k : Int), .slice Ar e cr, .slice (some ⟨H, 0, none⟩) e e], .bool true]) ?_ rfl ?_
                · exact results_cell_row2 rfl _ _ (w.heap.size + 1) 29 #[.int .i64 (k : Int), .slice Ar e cr, .slice (some ⟨H, 0, none⟩) e e] (0, 0) _ rfl (by simpa using h3) Try.underlying29 rfl (by kernel_rfl) _ rfl
                · have S3 : ∀ (v0 v1 v2 : Value) (hi : Nat), Same (w.heap.size + 2) hi wr (((wr.setCell ⟨w.heap.size + 1, 0, none⟩ v0).setCell ⟨w.heap.size + 1, 1, none⟩ v1).setCell ⟨w.heap.size + 1, 2, none⟩ v2) := fun v0 v1 v2 hi => ((same_set _ _ _ _ _ (.inl (by simp))).trans (same_set _ _ _ _ _ (.inl (by simp)))).trans (same_set _ _ _ _ _ (.inl (by simp)))
                  have oR := g.getO (j := 1) rfl
                  have oR2 : Own wr (w.heap.size + 2) (H + 1) 2 Ar e cr ((rkL xss f k).map (Value.int .i64)) := ⟨oR.1, fun a ha => by have := hrkn.out a.block (by simp [Value.ownBlock, ha]); omega⟩
                  have oH := g.getO (j := 2) rfl
                  have gr : Bag wr (w.heap.size + 2) wr.heap.size (rowsE 2 vs (bels xss f)) := g.sub (List.sublist_append_right _ _)
                  have oV := (gr.rowsOwn (by rw [hvl.out]; unfold bels; rw [List.length_map, List.length_range, hSl.out])).raise (lo' := H + 1) (fun v hv z hz => hap.out v hv z hz)
                  exact ⟨_, _, _, _, _, _, _, _, _, true, H + 1, rfl, Lib.hid hF.out.symm, ⟨by omega, by simp; omega, (oR2.keep (S3 _ _ _ _)).more (by omega) (Nat.le_refl _), vs, (oH.keep (S3 _ _ _ _)).more (by omega) (by simp), (oV.keep ((S3 _ _ _ _).mono (by omega) (Nat.le_refl _))).more (Nat.le_refl _) (by simp)⟩, (((hB.trans (hb.mono (by omega))).setCell (by simp) _).setCell (by simp) _).setCell (by simp) _⟩
end Go.Proofs.Ytbioelmofceaaaa
/- FpS -/
namespace Go.Proofs.Ytbioelmofceaaaa
open Go.RowKit
set_option linter.unusedVariables false
set_option maxRecDepth 100000
theorem rowsE_app {T : TypeId} {vs : List Value} {xss : List (List Int)} {v : Value} {ys : List Int} (h : vs.length = xss.length) : rowsE T (vs ++ [v]) (xss ++ [ys]) = rowsE T vs xss ++ [⟨T, v, ys.length, ys.map (Value.int .i64)⟩] := rowsE_snoc h
theorem hor_of {A : Option Addr} {n c g4 n' c' hi : Nat} (h : A = some ⟨g4, 0, none⟩ ∨ hi ≤ g4) : ∀ z, (Value.slice (some ⟨g4, 0, none⟩) n' c').ownBlock = some z → (Value.slice A n c).ownBlock = some z ∨ hi ≤ z := by
  intro z hz
  simp [Value.ownBlock] at hz
  subst hz
  rcases h with rfl | h
  · exact .inl rfl
  · exact .inr h
theorem range_snoc {α : Type} (f : Nat → α) (i : Nat) : (List.range (i + 1)).map f = (List.range i).map f ++ [f i] := by rw [List.range_succ, List.map_append]; rfl
theorem rep_snoc {α : Type} (m : Nat) (x : α) : List.replicate (m + 1) x = List.replicate m x ++ [x] := List.replicate_succ'
open Classical in
theorem alR_iff {p : Nat → Prop} {N j : Nat} {b : Bool} (h : (alR p N)[j]? = some b) (hj : j < N) : b = true ↔ p j := by
  rw [alR_get hj] at h
  rw [← Option.some.inj h, decide_eq_true_eq]
/-- the row of marks -/
def bE (F M : Nat) (bs : List Bool) : Ent := ⟨4, .slice (some ⟨F, 0, none⟩) M M, M, bs.map Value.bool⟩
theorem Bag.lab {w : World} {lo hi : Nat} {Lst : List Ent} {T T2 : TypeId} {vs : List Value} {labs : List (List Int)} {b6 n c6 i f : Nat} {lab : List Int} {x : Int} (h : Bag w lo hi Lst) (hm : ∀ e ∈ rowsE T vs labs, e ∈ Lst) (hh : (⟨T2, .slice (some ⟨b6, 0, none⟩) n c6, n, vs⟩ : Ent) ∈ Lst)
    (hvl : vs.length = labs.length) (hi : labs[i]? = some lab) (hf : lab[f]? = some x) :
    ∃ bi oi ci, w.cell? ⟨b6, i, none⟩ = some (.slice (some ⟨bi, oi, none⟩) lab.length ci) ∧ w.cell? ⟨bi, oi + f, none⟩ = some (.int .i64 x) := by
  have hil : i < labs.length := (List.getElem?_eq_some_iff.1 hi).1
  have hfl : f < lab.length := (List.getElem?_eq_some_iff.1 hf).1
  obtain ⟨v, hv⟩ : ∃ v, vs[i]? = some v := ⟨_, List.getElem?_eq_getElem (by omega)⟩
  obtain ⟨A, m, c, rfl, o⟩ := h.row hm hv hi
  obtain rfl : m = lab.length := o.lenI.symm
  obtain ⟨bi, oi, y, rfl, _, _, hy, hc⟩ := o.ri.at_ hfl
  obtain rfl : x = y := by rw [hf] at hy; exact Option.some.inj hy
  have ho := h.own _ hh
  have hn : vs.length = n := by have := ho.1; simpa using this
  exact ⟨bi, oi, c, (ho.cellAt i (by omega)).trans hv, hc⟩
theorem aI_prod {a S x : Nat} (h1 : a < S) (h2 : x < S) : a * S + x < S * S := by
  have : a * S + S ≤ S * S := by rw [← Nat.succ_mul]; exact Nat.mul_le_mul_right S h1
  omega
theorem cntR_lab {xss : List (List Int)} {N i : Nat} : ∀ x ∈ labL (xss.eraseIdx i) N, 0 ≤ x := by
  intro x hx
  unfold labL at hx
  obtain ⟨j, _, rfl⟩ := List.mem_map.1 hx
  exact labOf_nonneg _ _
set_option maxHeartbeats 16000000 in
theorem l03Poset_any (A : Option Addr) (n c : Nat) (xss : List (List Int)) (w : World) {lo hi : Nat} (h : RS w lo hi A n xss) (hhi : hi ≤ w.heap.size) (hn1 : 1 ≤ n) (hn5 : n ≤ 5) (N : Nat) (hN : flg xss = N) (hN0 : 0 < N) (h4 : N ≤ 400) (hs : SysOf xss N) :
    Calls Try.prog 36 #[.agg #[.slice A n c]] w fun e w' => ∃ (D1 : Option Addr) (k1 e1 : Nat) (A1 : Option Addr) (n1 c1 : Nat), e = .returned (.agg #[.int .i64 (n : Int), .slice D1 k1 e1, .slice A1 n1 c1]) ∧ ReadP w' w.heap.size w'.heap.size D1 k1 (rkL xss N n) A1 n1 (bels xss N) ∧ Below w.heap.size w w' := by
  obtain ⟨j0, hj0, hy0, hy1, hy2⟩ := info_parts infoI
  obtain ⟨s0, hs0, hu0, hu1, hu2⟩ := info_parts infoS
  obtain ⟨t0, ht0, hv0, hv1, hv2⟩ := info_parts infoB
  have hl := h.len
  have hR := rs_alloc (rs_alloc h hhi (.cells #[.slice A n c] 38)) (by simp; omega) (.cells #[.int .i64 0, .slice none 0 0, .slice none 0 0] 29)
  have c0 : ((w.alloc (.cells #[.slice A n c] 38)).alloc (.cells #[.int .i64 0, .slice none 0 0, .slice none 0 0] 29)).cell? ⟨w.heap.size, 0, none⟩ = some (.slice A n c) := (al_old _ _ _ _ (by simp)).trans (al_new _ _ _ _ rfl)
  have p1 : ((w.alloc (.cells #[.slice A n c] 38)).alloc (.cells #[.int .i64 0, .slice none 0 0, .slice none 0 0] 29)).heap[w.heap.size + 1]? = some (.cells #[.int .i64 0, .slice none 0 0, .slice none 0 0] 29 (0, 0)) := heap_new _ _ _ (by simp)
  have hB : Below w.heap.size w ((w.alloc (.cells #[.slice A n c] 38)).alloc (.cells #[.int .i64 0, .slice none 0 0, .slice none 0 0] 29)) := ((Below.refl _ _).alloc (Nat.le_refl _) _).alloc (by simp) _
  have hS5 : ∀ k, k ≤ 5 → offs xss N k ≤ 2000 := fun k hk => by have := offs_le xss N k; have := Nat.mul_le_mul hk h4; omega
  have hul : ∀ k, cntR (xss.eraseIdx k) N ≤ 400 := fun k => Nat.le_trans (cntR_le_n N) h4
  replace hs := Lib.hid hs
  replace hl := Lib.hid hl
  replace p1 := Lib.hid p1
  replace hS5 := Lib.hid hS5
  replace hul := Lib.hid hul
  go_enter Try.func36, Try.ntmps36
  go_wp2_with fail
  obtain ⟨W2, hW⟩ : ∃ W2 : World, ((w.alloc (.cells #[.slice A n c] 38)).alloc (.cells #[.int .i64 0, .slice none 0 0, .slice none 0 0] 29)) = W2 := ⟨_, rfl⟩
  have hz2 : W2.heap.size = w.heap.size + 2 := by rw [← hW]; simp
  rw [hW] at hR c0 p1 hB ⊢
  clear hW h
  rw [show w.heap.size + 1 + 1 + 1 + 1 = w.heap.size + 4 from rfl, show w.heap.size + 1 + 1 + 1 = w.heap.size + 3 from rfl, show w.heap.size + 1 + 1 = w.heap.size + 2 from rfl]
  have g2 : Bag W2 (w.heap.size + 2) (w.heap.size + 2) [] := Bag.nil
  have o3 := own_lit0 W2 2 (Nat.le_refl W2.heap.size)
  have f3 : Below W2.heap.size W2 (W2.alloc (.cells #[] 2)) := (Below.refl _ _).alloc (Nat.le_refl _) _
  obtain ⟨W3, hW⟩ : ∃ W3 : World, W2.alloc (.cells #[] 2) = W3 := ⟨_, rfl⟩
  have hz3 : W3.heap.size = w.heap.size + 3 := by rw [← hW]; simp [hz2]
  rw [hW] at o3 f3 ⊢
  clear hW
  rw [hz2] at o3
  have o4 := own_lit0 W3 22 (Nat.le_refl W3.heap.size)
  have f4 : Below W3.heap.size W3 (W3.alloc (.cells #[] 22)) := (Below.refl _ _).alloc (Nat.le_refl _) _
  obtain ⟨W4, hW⟩ : ∃ W4 : World, W3.alloc (.cells #[] 22) = W4 := ⟨_, rfl⟩
  have hz4 : W4.heap.size = w.heap.size + 4 := by rw [← hW]; simp [hz3]
  rw [hW] at o4 f4 ⊢
  clear hW
  rw [hz3] at o4
  have p5 : (W4.alloc (.cells #[.int .i64 (n : Int), .slice none 0 0, .slice none 0 0] 29)).heap[w.heap.size + 4]? = some (.cells #[.int .i64 (n : Int), .slice none 0 0, .slice none 0 0] 29 (0, 0)) := heap_new _ _ _ hz4.symm
  have f5 : Below W4.heap.size W4 (W4.alloc (.cells #[.int .i64 (n : Int), .slice none 0 0, .slice none 0 0] 29)) := (Below.refl _ _).alloc (Nat.le_refl _) _
  obtain ⟨W5, hW⟩ : ∃ W5 : World, W4.alloc (.cells #[.int .i64 (n : Int), .slice none 0 0, .slice none 0 0] 29) = W5 := ⟨_, rfl⟩
  have hz5 : W5.heap.size = w.heap.size + 5 := by rw [← hW]; simp [hz4]
  rw [hW] at p5 f5 ⊢
  clear hW
  have g5 : Bag W5 (w.heap.size + 2) W5.heap.size ((pE (w.heap.size + 4) n (.slice none 0 0) (.slice none 0 0) :: iE (some ⟨w.heap.size + 2, 0, none⟩) 0 0 ([]) :: sE (some ⟨w.heap.size + 3, 0, none⟩) 0 0 [] :: iE none 0 0 ([]) :: sE none 0 0 [] :: []) ++ rowsE 2 [] ([]) ++ rowsE 2 [] ([])) := by
    have h1 := Bag.ins (P := []) (Q := []) (e := iE (some ⟨w.heap.size + 2, 0, none⟩) 0 0 []) ((g2.below f3 (by omega))) (Nat.le_refl _) (show w.heap.size + 2 ≤ W3.heap.size by omega) o3.1 (fun z hz => (o3.1.lt z hz).2)
    have h2 := Bag.ins (P := [_]) (Q := []) (e := sE (some ⟨w.heap.size + 3, 0, none⟩) 0 0 []) (h1.below f4 (Nat.le_refl _)) (by omega) (show W3.heap.size ≤ W4.heap.size by omega) (hz3 ▸ o4.1) (fun z hz => (o4.1.lt z hz).2)
    have h3 := Bag.ins (P := []) (Q := [_, _]) (e := pE (w.heap.size + 4) n (.slice none 0 0) (.slice none 0 0)) (h2.below f5 (Nat.le_refl _)) (by omega) (show W4.heap.size ≤ W5.heap.size by omega) (blk_own (vs := [.int .i64 (n : Int), .slice none 0 0, .slice none 0 0]) p5 rfl (by omega) (by simp only [maxLen]; omega)) (fun z hz => by simp [Value.ownBlock, pE] at hz; omega)
    have h4 := Bag.ins (P := [_, _, _]) (Q := []) (e := iE none 0 0 []) h3 (by omega) (Nat.le_refl _) (World.ownsRow_nil W5 _ 2 1) (fun z hz => by simp [iE, Value.ownBlock] at hz)
    exact Bag.ins (P := [_, _, _, _]) (Q := []) (e := sE none 0 0 []) h4 (by omega) (Nat.le_refl _) (World.ownsRow_nil W5 _ 22 1) (fun z hz => by simp [sE, Value.ownBlock] at hz)
  have b5 : Below (w.heap.size + 2) W2 W5 := ((f3.mono (by omega)).trans (f4.mono (by omega))).trans (f5.mono (by omega))
  clear g2 o3 o4 p5 f3 f4 f5
  go_loopw [5, 6, 7] (fun fv lv kv wq => ∃ (i : Nat) (A5 : Option Addr) (c5 : Nat) (A6 : Option Addr) (c6 : Nat) (lvs : List Value) (Ar : Option Addr) (cr : Nat) (Ab : Option Addr) (cb : Nat) (bvs : List Value) (r : Nat), i ≤ n ∧ kv = .int .i64 i ∧ fv = .slice A5 i c5 ∧ lv = .slice A6 i c6 ∧ Hid (r = offs xss N i) ∧ Hid (lvs.length = i) ∧ Hid (bvs.length = r) ∧
      Bag wq (w.heap.size + 2) wq.heap.size ((pE (w.heap.size + 4) n (.slice Ar r cr) (.slice Ab r cb) :: iE A5 i c5 ((List.range i).map fun j => ((offs xss N j : Nat) : Int)) :: sE A6 i c6 lvs :: iE Ar r cr (rkL xss N i) :: sE Ab r cb bvs :: []) ++ rowsE 2 lvs ((List.range i).map fun j => labL (xss.eraseIdx j) N) ++ rowsE 2 bvs (List.replicate r [])) ∧ Below (w.heap.size + 2) W2 wq) (fun _ _ kv _ => n - (intOf kv).toNat)
  case atStart => exact ⟨0, _, 0, _, 0, [], none, 0, none, 0, [], 0, by omega, rfl, rfl, rfl, Lib.hid rfl, Lib.hid rfl, Lib.hid rfl, g5, b5⟩
  case round =>
    clear g5 b5
    obtain ⟨i, A5, c5, A6, c6, lvs, Ar, cr, Ab, cb, bvs, r, hi, rfl, rfl, rfl, hr, hll, hbl, g, hb⟩ := hrel
    have hzz := hb.size
    by_cases hin : i < n
    · have x1 : wr.cell? ⟨w.heap.size + 4, 1, none⟩ = some (.slice Ar r cr) := (g.get (j := 0) rfl).cellAt 1 (by omega)
      have hr2 : r ≤ 2000 := by rw [hr.out]; exact hS5.out i (by omega)
      have hi63 : i < 1099511627776 := by omega
      have hlo63 : w.heap.size + 2 ≤ wr.heap.size := by omega
      have oA5 := g.get (j := 1) rfl
      go_wp2_with (at_builtin; refine wpList_append1 wr rfl (.tmp 28) (.tmp 32) 22 rfl (w.heap.size + 2) 2 j0 (.int .i64 0) 8 Try.underlying22 hj0 hy0 hy1 hy2 rfl (by omega) A5 i c5 _ (.int .i64 (r : Int)) rfl oA5 _ rfl rfl rfl hi63 hlo63 ?_)
      intro g6 c7 w6 ho6 hg6 hlo6 hlt6 hor6
      have hFI : ((List.range i).map fun j => ((offs xss N j : Nat) : Int)) ++ [(r : Int)] = (List.range (i + 1)).map fun j => ((offs xss N j : Nat) : Int) := by rw [range_snoc, hr.out]
      have g7 : Bag w6 (w.heap.size + 2) w6.heap.size ((pE (w.heap.size + 4) n (.slice Ar r cr) (.slice Ab r cb) :: iE (some ⟨g6, 0, none⟩) (i + 1) c7 ((List.range (i + 1)).map fun j => ((offs xss N j : Nat) : Int)) :: sE A6 i c6 lvs :: iE Ar r cr (rkL xss N i) :: sE Ab r cb bvs :: []) ++ rowsE 2 lvs ((List.range i).map fun j => labL (xss.eraseIdx j) N) ++ rowsE 2 bvs (List.replicate r [])) :=
        g.set (j := 1) (e' := iE (some ⟨g6, 0, none⟩) (i + 1) c7 ((List.range (i + 1)).map fun j => ((offs xss N j : Nat) : Int))) rfl (Nat.le_refl _) (by rw [← hFI]; simpa [iE] using ho6) hg6 (hor_of hor6)
      have b7 := hb.grown hg6 (by omega) (fun z hz => (oA5.lt z hz).1)
      have zz6 := hg6.size
      have c07 := (b7.cell (p := ⟨w.heap.size, 0, none⟩) (by first | (simp; done) | (simp; omega))).trans c0
      clear g hb ho6 hg6 hor6 hFI x1 oA5
      obtain ⟨u, hu⟩ : ∃ u, cntR (xss.eraseIdx i) N = u := ⟨_, rfl⟩
      have hu4 := hul.out i
      rw [hu] at hu4
      have hoff : offs xss N (i + 1) = r + u := by rw [offs_step, hu, hr.out]
      have hgl := grt_lab (sysOf_erase hs.out i)
      have hlb := labL_bound (sysOf_erase hs.out i) h4
      rw [hu] at hgl
      have hllN : (labL (xss.eraseIdx i) N).length = N := by unfold labL; simp
      have hrk : rkL xss N (i + 1) = rkL xss N i ++ List.replicate u (i : Int) := by rw [rkL_succ, hu]
      replace hu := Lib.hid hu
      replace hoff := Lib.hid hoff
      replace hgl := Lib.hid hgl
      replace hlb := Lib.hid hlb
      replace hrk := Lib.hid hrk
      replace hllN := Lib.hid hllN
      go_wp2_with fail
      ((with_reducible refine (l02Faces_any A n c i xss _ (hR.below b7 (by omega)) (by omega) hin (by omega) N hN h4 hs.out).mono ?_); rintro e8 w8 ⟨A9, c9, rfl, o9, f9⟩)
      obtain ⟨lab, hlab⟩ : ∃ lab, labL (xss.eraseIdx i) N = lab := ⟨_, rfl⟩
      rw [hlab] at o9 hgl hlb hllN
      have y8 := f9.size
      have b8 := below_then b7 f9 (by omega)
      have hlbs : ((List.range i).map fun j => labL (xss.eraseIdx j) N) ++ [lab] = (List.range (i + 1)).map fun j => labL (xss.eraseIdx j) N := by rw [range_snoc, hlab]
      have g8 : Bag w8 (w.heap.size + 2) w8.heap.size ((pE (w.heap.size + 4) n (.slice Ar r cr) (.slice Ab r cb) :: iE (some ⟨g6, 0, none⟩) (i + 1) c7 ((List.range (i + 1)).map fun j => ((offs xss N j : Nat) : Int)) :: sE A6 i c6 lvs :: iE Ar r cr (rkL xss N i) :: sE Ab r cb bvs :: []) ++ rowsE 2 (lvs ++ [.slice A9 N c9]) ((List.range (i + 1)).map fun j => labL (xss.eraseIdx j) N) ++ rowsE 2 bvs (List.replicate r [])) := by
        have h1 := Bag.ins (e := ⟨2, .slice A9 N c9, lab.length, lab.map (Value.int .i64)⟩) (g7.below f9 (Nat.le_refl _)) (by omega) y8 (by rw [hllN.out]; exact o9.1) (fun z hz => (o9.1.lt z hz).2)
        rw [← hlbs, rowsE_app (by rw [hll.out]; simp)]
        simpa only [List.append_assoc, List.singleton_append, List.cons_append, List.nil_append] using h1
      clear g7 b7 c07 f9
      have oA6 := g8.get (j := 2) rfl
      have hlo8 : w.heap.size + 2 ≤ w8.heap.size := by omega
      replace hlab := Lib.hid hlab
      replace hlbs := Lib.hid hlbs
      go_wp2_with (at_builtin; refine wpList_append1 w8 rfl (.tmp 34) (.tmp 38) 23 rfl (w.heap.size + 2) 22 s0 (.slice none 0 0) 24 Try.underlying23 hs0 hu0 hu1 hu2 rfl (by omega) A6 i c6 _ (.slice A9 N c9) rfl oA6 _ rfl rfl rfl hi63 hlo8 ?_)
      intro g10 c10 w10 ho10 hg10 hlo10 hlt10 hor10
      have g11 : Bag w10 (w.heap.size + 2) w10.heap.size ((pE (w.heap.size + 4) n (.slice Ar r cr) (.slice Ab r cb) :: iE (some ⟨g6, 0, none⟩) (i + 1) c7 ((List.range (i + 1)).map fun j => ((offs xss N j : Nat) : Int)) :: sE (some ⟨g10, 0, none⟩) (i + 1) c10 (lvs ++ [.slice A9 N c9]) :: iE Ar r cr (rkL xss N i) :: sE Ab r cb bvs :: []) ++ rowsE 2 (lvs ++ [.slice A9 N c9]) ((List.range (i + 1)).map fun j => labL (xss.eraseIdx j) N) ++ rowsE 2 bvs (List.replicate r [])) :=
        g8.set (j := 2) (e' := sE (some ⟨g10, 0, none⟩) (i + 1) c10 (lvs ++ [Value.slice A9 N c9])) rfl (Nat.le_refl _) ho10 hg10 (hor_of hor10)
      have b11 := b8.grown hg10 (by omega) (fun z hz => (oA6.lt z hz).1)
      have zz10 := hg10.size
      have hll2 : (lvs ++ [Value.slice A9 N c9]).length = i + 1 := by simp [hll.out]
      have hvi : (lvs ++ [Value.slice A9 N c9])[i]? = some (Value.slice A9 N c9) := by
        rw [List.getElem?_append_right (by rw [hll.out]; exact Nat.le_refl _), hll.out]
        simp
      have hcl : w10.cell? ⟨g10, i, none⟩ = some (.slice A9 N c9) := ((g11.get (j := 2) rfl).cellAt i (by omega)).trans hvi
      obtain ⟨A9', n9', c9', eq9, or9⟩ := g11.row (T := 2) (vs := lvs ++ [Value.slice A9 N c9]) (xss := (List.range (i + 1)).map fun j => labL (xss.eraseIdx j) N) (k := i) (v := Value.slice A9 N c9) (ys := labL (xss.eraseIdx i) N) (fun e he => List.mem_append.2 (.inl (List.mem_append.2 (.inr he)))) hvi (by simp)
      clear hvi
      injection eq9 with q1 q2 q3
      subst q1; subst q2; subst q3
      rw [hlab.out] at or9
      have orR := or9.ri
      generalize lvs ++ [Value.slice A9 N c9] = lvs2 at g11 hll2
      replace hll2 := Lib.hid hll2
      have i0 : (0 : Int) ≤ (i : Int) := by omega
      have i1 : (i : Int) < ((i + 1 : Nat) : Int) := by omega
      have i2 : (i : Int) < (i : Int) + 1 := by omega
      clear g8 b8 oA6 ho10 hg10 hor10 or9 o9
      go_wp2_with fail
      ((with_reducible refine (l02Greatest_any A9 N c9 lab w10 orR hlb.out).mono ?_); rintro e w' ⟨rfl, rfl⟩)
      rw [hgl.out]
      clear hcl orR i1 i2
      go_wp2_with fail
      go_loopw [8] (fun kv wq => ∃ (k : Nat) (Ar : Option Addr) (cr : Nat) (Ab : Option Addr) (cb : Nat) (bvs : List Value) (r2 : Nat), k ≤ u ∧ kv = .int .i64 k ∧ Hid (r2 + k = r + u) ∧ r2 ≤ 2000 ∧ Hid (bvs.length = r2) ∧
          Bag wq (w.heap.size + 2) wq.heap.size ((pE (w.heap.size + 4) n (.slice Ar r2 cr) (.slice Ab r2 cb) :: iE (some ⟨g6, 0, none⟩) (i + 1) c7 ((List.range (i + 1)).map fun j => ((offs xss N j : Nat) : Int)) :: sE (some ⟨g10, 0, none⟩) (i + 1) c10 lvs2 :: iE Ar r2 cr (rkL xss N i ++ List.replicate (u - k) (i : Int)) :: sE Ab r2 cb bvs :: []) ++ rowsE 2 lvs2 ((List.range (i + 1)).map fun j => labL (xss.eraseIdx j) N) ++ rowsE 2 bvs (List.replicate r2 [])) ∧ Below (w.heap.size + 2) W2 wq) (fun kv _ => (intOf kv).toNat)
      case atStart => exact ⟨u, Ar, cr, Ab, cb, bvs, r, Nat.le_refl _, rfl, Lib.hid rfl, hr2, hbl, by rw [Nat.sub_self, List.replicate_zero, List.append_nil]; exact g11, b11⟩
      case round =>
        clear g11 b11 hbl
        obtain ⟨k, Ar, cr, Ab, cb, bvs, r2, hk, rfl, hrk2, hr20, hbl, g, hb⟩ := hrel
        have hzz := hb.size
        by_cases hk0 : 0 < k
        · have hgt : decide ((k : Int) > 0) = true := by simp; omega
          have x1 : wr.cell? ⟨w.heap.size + 4, 1, none⟩ = some (.slice Ar r2 cr) := (g.get (j := 0) rfl).cellAt 1 (by omega)
          have z1 : wr.frozen? ⟨w.heap.size + 4, 1, none⟩ = false := (g.get (j := 0) rfl).frozenAt 1
          have oR := g.get (j := 3) rfl
          have hr63 : r2 < 1099511627776 := by omega
          have hlo12 : w.heap.size + 2 ≤ wr.heap.size := by omega
          have hrepl : (rkL xss N i ++ List.replicate (u - k) (i : Int)) ++ [(i : Int)] = rkL xss N i ++ List.replicate (u - (k - 1)) (i : Int) := by
            rw [List.append_assoc, ← rep_snoc, show u - k + 1 = u - (k - 1) by omega]
          replace hrepl := Lib.hid hrepl
          go_wp2_with (at_builtin; refine wpList_append1 wr rfl (.tmp 50) (.tmp 52) 22 rfl (w.heap.size + 2) 2 j0 (.int .i64 0) 8 Try.underlying22 hj0 hy0 hy1 hy2 rfl (by omega) Ar r2 cr _ (.int .i64 (i : Int)) rfl oR _ rfl rfl rfl hr63 hlo12 ?_)
          intro g12 c12 w12 ho12 hg12 hlo12' hlt12 hor12
          have g13 : Bag w12 (w.heap.size + 2) w12.heap.size ((pE (w.heap.size + 4) n (.slice Ar r2 cr) (.slice Ab r2 cb) :: iE (some ⟨g6, 0, none⟩) (i + 1) c7 ((List.range (i + 1)).map fun j => ((offs xss N j : Nat) : Int)) :: sE (some ⟨g10, 0, none⟩) (i + 1) c10 lvs2 :: iE (some ⟨g12, 0, none⟩) (r2 + 1) c12 (rkL xss N i ++ List.replicate (u - (k - 1)) (i : Int)) :: sE Ab r2 cb bvs :: []) ++ rowsE 2 lvs2 ((List.range (i + 1)).map fun j => labL (xss.eraseIdx j) N) ++ rowsE 2 bvs (List.replicate r2 [])) :=
            g.set (j := 3) (e' := iE (some ⟨g12, 0, none⟩) (r2 + 1) c12 (rkL xss N i ++ List.replicate (u - (k - 1)) (i : Int))) rfl (Nat.le_refl _) (by rw [← hrepl.out]; simpa [iE] using ho12) hg12 (hor_of hor12)
          have b13 := hb.grown hg12 hlo12 (fun z hz => (oR.lt z hz).1)
          have zz12 := hg12.size
          have x1' : w12.cell? ⟨w.heap.size + 4, 1, none⟩ = some (.slice Ar r2 cr) := (g13.get (j := 0) rfl).cellAt 1 (by omega)
          have z1' : w12.frozen? ⟨w.heap.size + 4, 1, none⟩ = false := (g13.get (j := 0) rfl).frozenAt 1
          have x2' : w12.cell? ⟨w.heap.size + 4, 2, none⟩ = some (.slice Ab r2 cb) := (g13.get (j := 0) rfl).cellAt 2 (by omega)
          have hGH := ((g13.get (j := 0) rfl).lt (w.heap.size + 4) rfl).2
          have g14 := g13.store (j := 0) (k := 1) rfl (Nat.le_refl _) (.slice (some ⟨g12, 0, none⟩) (r2 + 1) c12)
          have b14 := b13.setCell (p := ⟨w.heap.size + 4, 1, none⟩) (by simp) (.slice (some ⟨g12, 0, none⟩) (r2 + 1) c12)
          have y14 : (w12.setCell ⟨w.heap.size + 4, 1, none⟩ (.slice (some ⟨g12, 0, none⟩) (r2 + 1) c12)).heap.size = w12.heap.size := World.size_setCell _ _ _
          clear g hb ho12 hg12 hor12 oR x1 z1 g13 b13
          obtain ⟨H, hH⟩ : ∃ H, w12.heap.size = H := ⟨_, rfl⟩
          rw [hH] at g14 y14 hGH
          have oN := own_lit0 (w12.setCell ⟨w.heap.size + 4, 1, none⟩ (.slice (some ⟨g12, 0, none⟩) (r2 + 1) c12)) 2 (Nat.le_refl _)
          rw [y14] at oN
          have fN : Below H (w12.setCell ⟨w.heap.size + 4, 1, none⟩ (.slice (some ⟨g12, 0, none⟩) (r2 + 1) c12)) ((w12.setCell ⟨w.heap.size + 4, 1, none⟩ (.slice (some ⟨g12, 0, none⟩) (r2 + 1) c12)).alloc (.cells #[] 2)) := (Below.refl _ _).alloc (by rw [y14]; exact Nat.le_refl _) _
          have zN : ((w12.setCell ⟨w.heap.size + 4, 1, none⟩ (.slice (some ⟨g12, 0, none⟩) (r2 + 1) c12)).alloc (.cells #[] 2)).heap.size = H + 1 := by simp [hH]
          have g15 : Bag ((w12.setCell ⟨w.heap.size + 4, 1, none⟩ (.slice (some ⟨g12, 0, none⟩) (r2 + 1) c12)).alloc (.cells #[] 2)) (w.heap.size + 2) (H + 1) ((pE (w.heap.size + 4) n (.slice (some ⟨g12, 0, none⟩) (r2 + 1) c12) (.slice Ab r2 cb) :: iE (some ⟨g6, 0, none⟩) (i + 1) c7 ((List.range (i + 1)).map fun j => ((offs xss N j : Nat) : Int)) :: sE (some ⟨g10, 0, none⟩) (i + 1) c10 lvs2 :: iE (some ⟨g12, 0, none⟩) (r2 + 1) c12 (rkL xss N i ++ List.replicate (u - (k - 1)) (i : Int)) :: sE Ab r2 cb bvs :: []) ++ rowsE 2 lvs2 ((List.range (i + 1)).map fun j => labL (xss.eraseIdx j) N) ++ rowsE 2 (bvs ++ [Value.slice (some ⟨H, 0, none⟩) 0 0]) (List.replicate (r2 + 1) [])) := by
            have h1 := Bag.ins (Q := []) (e := ⟨2, Value.slice (some ⟨H, 0, none⟩) 0 0, ([] : List Int).length, ([] : List Int).map (Value.int .i64)⟩) (hi' := H + 1) (by rw [List.append_nil]; exact g14.below fN (Nat.le_refl _)) (by omega) (by omega) oN.1 (fun z hz => by simp [Value.ownBlock] at hz; omega)
            rw [rep_snoc, rowsE_app (by rw [hbl.out]; simp), ← List.append_assoc]
            exact h1
          have b15 : Below (w.heap.size + 2) W2 ((w12.setCell ⟨w.heap.size + 4, 1, none⟩ (.slice (some ⟨g12, 0, none⟩) (r2 + 1) c12)).alloc (.cells #[] 2)) := b14.trans (fN.mono (by omega))
          have x2 : ((w12.setCell ⟨w.heap.size + 4, 1, none⟩ (.slice (some ⟨g12, 0, none⟩) (r2 + 1) c12)).alloc (.cells #[] 2)).cell? ⟨w.heap.size + 4, 2, none⟩ = some (.slice Ab r2 cb) := (g15.get (j := 0) rfl).cellAt 2 (by omega)
          have oA : ((w12.setCell ⟨w.heap.size + 4, 1, none⟩ (.slice (some ⟨g12, 0, none⟩) (r2 + 1) c12)).alloc (.cells #[] 2)).ownsRow (w.heap.size + 2) 22 1 (.slice Ab r2 cb) r2 bvs := (g15.get (j := 4) rfl)
          have hlo15 : w.heap.size + 2 ≤ ((w12.setCell ⟨w.heap.size + 4, 1, none⟩ (.slice (some ⟨g12, 0, none⟩) (r2 + 1) c12)).alloc (.cells #[] 2)).heap.size := by omega
          replace g15 := Lib.hid g15
          replace b15 := Lib.hid b15
          have hw1 : IntKind.i64.wrap ((k : Int) - 1) = ((k - 1 : Nat) : Int) := by rw [IntKind.wrap_i64]; omega
          replace zN := Lib.hid zN
          replace y14 := Lib.hid y14
          clear g14 b14 oN fN x2
          go_wp2_with (at_builtin; refine wpList_append1 ((w12.setCell ⟨w.heap.size + 4, 1, none⟩ (.slice (some ⟨g12, 0, none⟩) (r2 + 1) c12)).alloc (.cells #[] 2)) rfl (.tmp 56) (.tmp 58) 23 rfl (w.heap.size + 2) 22 s0 (.slice none 0 0) 24 Try.underlying23 hs0 hu0 hu1 hu2 rfl (by omega) Ab r2 cb _ (.slice (some ⟨H, 0, none⟩) 0 0) rfl oA _ rfl zN.out.symm rfl hr63 hlo15 ?_)
          intro g16 c16 w16 ho16 hg16 hlo16 hlt16 hor16
          have hbl2 : (bvs ++ [Value.slice (some ⟨H, 0, none⟩) 0 0]).length = r2 + 1 := by simp [hbl.out]
          generalize bvs ++ [Value.slice (some ⟨H, 0, none⟩) 0 0] = bvs2 at ho16 g15 hbl2
          have g17 : Bag w16 (w.heap.size + 2) w16.heap.size ((pE (w.heap.size + 4) n (.slice (some ⟨g12, 0, none⟩) (r2 + 1) c12) (.slice Ab r2 cb) :: iE (some ⟨g6, 0, none⟩) (i + 1) c7 ((List.range (i + 1)).map fun j => ((offs xss N j : Nat) : Int)) :: sE (some ⟨g10, 0, none⟩) (i + 1) c10 lvs2 :: iE (some ⟨g12, 0, none⟩) (r2 + 1) c12 (rkL xss N i ++ List.replicate (u - (k - 1)) (i : Int)) :: sE (some ⟨g16, 0, none⟩) (r2 + 1) c16 bvs2 :: []) ++ rowsE 2 lvs2 ((List.range (i + 1)).map fun j => labL (xss.eraseIdx j) N) ++ rowsE 2 bvs2 (List.replicate (r2 + 1) [])) :=
            g15.out.set (j := 4) (e' := sE (some ⟨g16, 0, none⟩) (r2 + 1) c16 bvs2) rfl (by rw [zN.out]; exact Nat.le_refl _) ho16 hg16 (hor_of hor16)
          have b17 := b15.out.grown hg16 hlo15 (fun z hz => (oA.lt z hz).1)
          have zz16 := hg16.size
          rw [zN.out] at zz16
          have x3 : w16.cell? ⟨w.heap.size + 4, 2, none⟩ = some (.slice Ab r2 cb) := (g17.get (j := 0) rfl).cellAt 2 (by omega)
          have z3 : w16.frozen? ⟨w.heap.size + 4, 2, none⟩ = false := (g17.get (j := 0) rfl).frozenAt 2
          have g18 := g17.store (j := 0) (k := 2) rfl (Nat.le_refl _) (.slice (some ⟨g16, 0, none⟩) (r2 + 1) c16)
          have b18 := b17.setCell (p := ⟨w.heap.size + 4, 2, none⟩) (by simp) (.slice (some ⟨g16, 0, none⟩) (r2 + 1) c16)
          have y18 : (w16.setCell ⟨w.heap.size + 4, 2, none⟩ (.slice (some ⟨g16, 0, none⟩) (r2 + 1) c16)).heap.size = w16.heap.size := World.size_setCell _ _ _
          rw [← y18] at g18
          have hrk3 : r2 + 1 + (k - 1) = r + u := by have := hrk2.out; omega
          have hr21 : r2 + 1 ≤ 2000 := by
            have h1 := hS5.out (i + 1) (by omega)
            rw [hoff.out] at h1
            omega
          replace hrk3 := Lib.hid hrk3
          replace hbl2 := Lib.hid hbl2
          clear g15 b15 g17 b17 ho16 hg16 hor16 oA hlo15 hlo16
          go_wp2_with fail
          clear hw1
          go_roundw
          case measure => first | (simp [intOf]; done) | (simp [intOf]; omega)
          case rel => first | exact ⟨k - 1, _, c12, _, c16, bvs2, r2 + 1, by omega, rfl, hrk3, hr21, hbl2, g18, b18⟩ | ((repeat (apply Exists.intro)); exact ⟨⟨k - 1, _, c12, _, c16, bvs2, r2 + 1, by omega, rfl, hrk3, hr21, hbl2, g18, b18⟩, rfl⟩)
        · obtain rfl : k = 0 := by omega
          obtain rfl : r2 = r + u := by have := hrk2.out; omega
          have hrkE : rkL xss N i ++ List.replicate (u - 0) (i : Int) = rkL xss N (i + 1) := by rw [hrk.out, Nat.sub_zero]
          rw [hrkE] at g
          have hrr : r + u = offs xss N (i + 1) := hoff.out.symm
          have hw1 : IntKind.i64.wrap ((i : Int) + 1) = ((i + 1 : Nat) : Int) := by rw [IntKind.wrap_i64]; omega
          obtain ⟨ru, hru⟩ : ∃ ru, r + u = ru := ⟨_, rfl⟩
          rw [hru] at g hrr hbl
          replace hrr := Lib.hid hrr
          replace hru := Lib.hid hru
          clear hrkE
          go_wp2_with fail
          clear hw1
          go_roundw
          case measure => first | (simp [intOf]; done) | (simp [intOf]; omega)
          case rel => first | exact ⟨i + 1, _, c7, _, c10, lvs2, Ar, cr, Ab, cb, bvs, ru, by omega, rfl, rfl, rfl, hrr, hll2, hbl, g, hb⟩ | ((repeat (apply Exists.intro)); exact ⟨⟨i + 1, _, c7, _, c10, lvs2, Ar, cr, Ab, cb, bvs, ru, by omega, rfl, rfl, rfl, hrr, hll2, hbl, g, hb⟩, rfl⟩)
    · obtain rfl : n = i := by omega
      obtain ⟨S, hS⟩ : ∃ S, offs xss N n = S := ⟨_, rfl⟩
      obtain rfl : S = r := by rw [← hS]; exact hr.out.symm
      have hS2 : S ≤ 2000 := by rw [← hS]; exact hS5.out n hn5
      have hSl : offs xss N xss.length = S := by rw [hl.out]; exact hS
      have hrow1 : List.replicate S ([] : List Int) = (List.range S).map (belTo xss N S 1) := by
        apply List.ext_getElem?
        intro j
        by_cases hj : j < S
        · simp [hj, belTo_one]
        · rw [List.getElem?_eq_none (by simp; omega), List.getElem?_eq_none (by simp; omega)]
      rw [hrow1] at g
      obtain ⟨q5, _, hA5, _, _, _, _, _, _, _⟩ := (g.getO (j := 1) rfl).at_ (show 0 < n by omega)
      obtain ⟨q6, _, hA6, _, _, _, _, _, _, _⟩ := (g.getO (j := 2) rfl).at_ (show 0 < n by omega)
      have hS0 : 0 < S := by
        have h1 := aI_lt (N := N) (f := 0) (i := 0) (k := n) hs.out hN0 (by omega)
        rw [hS] at h1
        omega
      obtain ⟨qb, _, hAb, _, _, _, _, _, _, _⟩ := (g.getO (j := 4) rfl).at_ hS0
      subst hA5; subst hA6; subst hAb
      replace hS := Lib.hid hS
      replace hSl := Lib.hid hSl
      clear hrow1
      have hq5 := (g.get (j := 1) rfl)
      have hlabN : ∀ j f, f < N → (labL (xss.eraseIdx j) N)[f]? = some (labI xss j f) ∧ (labL (xss.eraseIdx j) N).length = N := fun j f hf => ⟨labL_get hf, by unfold labL; simp⟩
      replace hlabN := Lib.hid hlabN
      clear hq5
      go_wp2_with fail
      go_loopw [9] (fun kv wq => ∃ (m : Nat) (bvs : List Value), 1 ≤ m ∧ m ≤ n ∧ kv = .int .i64 m ∧ Hid (bvs.length = S) ∧ Bag wq (w.heap.size + 2) wq.heap.size ((pE (w.heap.size + 4) n (.slice Ar S cr) (.slice (some ⟨qb, 0, none⟩) S cb) :: iE (some ⟨q5, 0, none⟩) n c5 ((List.range n).map fun j => ((offs xss N j : Nat) : Int)) :: sE (some ⟨q6, 0, none⟩) n c6 lvs :: iE Ar S cr (rkL xss N n) :: sE (some ⟨qb, 0, none⟩) S cb bvs :: []) ++ rowsE 2 lvs ((List.range n).map fun j => labL (xss.eraseIdx j) N) ++ rowsE 2 bvs ((List.range S).map (belTo xss N S m))) ∧ Below (w.heap.size + 2) W2 wq) (fun kv _ => n - (intOf kv).toNat)
      case atStart => exact ⟨1, bvs, by omega, hn1, rfl, hbl, g, hb⟩
      case round =>
        clear g hb hbl hr
        obtain ⟨m, bvs, hm1, hmi, rfl, hbl, g, hb⟩ := hrel
        have hzz := hb.size
        by_cases hmn : m < n
        · have x2 : wr.cell? ⟨w.heap.size + 4, 2, none⟩ = some (.slice (some ⟨qb, 0, none⟩) S cb) := (g.get (j := 0) rfl).cellAt 2 (by omega)
          obtain ⟨M, hM⟩ : ∃ M, S * S = M := ⟨_, rfl⟩
          have hM4 : M ≤ 4000000 := by rw [← hM]; exact Nat.mul_le_mul hS2 hS2
          have hmul : (S : Int) * (S : Int) = (M : Int) := by rw [← hM]; push_cast; rfl
          have hmul2 : IntKind.i64.wrap (M : Int) = (M : Int) := by rw [IntKind.wrap_i64]; omega
          replace hM := Lib.hid hM
          go_wp2_with (at_make; refine wpList_make_full _ rfl _ _ 80 rfl wr.heap.size 4 t0 (.bool false) 1 Try.underlying80 ht0 hv0 hv1 _ _ _ _ M rfl rfl rfl rfl ?c1 ?c2 (Nat.le_refl _) ?_)
          case c1 => rw [hv2]; omega
          case c2 => simp only [maxLen]; omega
          intro w3 hown hg
          clear hmul hmul2
          obtain ⟨F, hF⟩ : ∃ F, wr.heap.size = F := ⟨_, rfl⟩
          rw [hF]
          have hown2 : w3.ownsRow wr.heap.size 4 1 (.slice (some ⟨wr.heap.size, 0, none⟩) M M) M ((alR (FndP xss N S m 0 0) M).map Value.bool) := by
            rw [alR_false _ _ (fun j _ => fnd_start xss N S m j)]
            simpa [toList_madeCells_one, Value.cells] using hown
          have f3 : Below wr.heap.size wr w3 := below_of_grown hg (Nat.le_refl _) (by simp)
          have y3 := f3.size
          have b3 := below_then hb f3 (by omega)
          have g3 : Bag w3 (w.heap.size + 2) w3.heap.size ((pE (w.heap.size + 4) n (.slice Ar S cr) (.slice (some ⟨qb, 0, none⟩) S cb) :: iE (some ⟨q5, 0, none⟩) n c5 ((List.range n).map fun j => ((offs xss N j : Nat) : Int)) :: sE (some ⟨q6, 0, none⟩) n c6 lvs :: iE Ar S cr (rkL xss N n) :: sE (some ⟨qb, 0, none⟩) S cb bvs :: bE F M (alR (FndP xss N S m 0 0) M) :: []) ++ rowsE 2 lvs ((List.range n).map fun j => labL (xss.eraseIdx j) N) ++ rowsE 2 bvs ((List.range S).map (belTo xss N S m))) := by
            have h1 := g.below f3 (Nat.le_refl _)
            rw [List.append_assoc] at h1 ⊢
            have h2 := Bag.ins (e := bE F M (alR (FndP xss N S m 0 0) M)) h1 (by omega) y3 (hF ▸ hown2) (fun z hz => (hown2.lt z (hF ▸ hz)).2)
            simpa only [List.cons_append, List.nil_append] using h2
          have x23 := (f3.cell (p := ⟨w.heap.size + 4, 2, none⟩) ((g.get (j := 0) rfl).lt (w.heap.size + 4) rfl).2).trans x2
          clear hown hown2 hg f3 g hb x2
          replace hF := Lib.hid hF.symm
          go_wp2_with fail
          go_loopw [12] (fun kv wq => ∃ f : Nat, f ≤ N ∧ kv = .int .i64 f ∧ Bag wq (w.heap.size + 2) wq.heap.size ((pE (w.heap.size + 4) n (.slice Ar S cr) (.slice (some ⟨qb, 0, none⟩) S cb) :: iE (some ⟨q5, 0, none⟩) n c5 ((List.range n).map fun j => ((offs xss N j : Nat) : Int)) :: sE (some ⟨q6, 0, none⟩) n c6 lvs :: iE Ar S cr (rkL xss N n) :: sE (some ⟨qb, 0, none⟩) S cb bvs :: bE F M (alR (FndP xss N S m f 0) M) :: []) ++ rowsE 2 lvs ((List.range n).map fun j => labL (xss.eraseIdx j) N) ++ rowsE 2 bvs ((List.range S).map (belTo xss N S m))) ∧ Below (w.heap.size + 2) W2 wq) (fun kv _ => N - (intOf kv).toNat)
          case atStart => exact ⟨0, by omega, rfl, g3, b3⟩
          case round =>
            clear g3 b3 x23
            obtain ⟨f, hf, rfl, g, hb⟩ := hrel
            have hzz := hb.size
            have c0f := (hb.cell (p := ⟨w.heap.size, 0, none⟩) (by first | (simp; done) | (simp; omega))).trans c0
            have hfl := hN ▸ l02Flags_any A n c xss wr (hR.below hb (by omega)) (by omega) hn1
            go_wp2_with fail
            ((with_reducible refine hfl.mono ?_); rintro e4 w4 ⟨rfl, f4⟩)
            have y4 := f4.size
            have g4 := (g.below f4 (Nat.le_refl _)).more y4
            have b4 := below_then hb f4 (by omega)
            clear g hb hfl c0f
            by_cases hfN : f < N
            · go_wp2_with fail
              go_loopw [13] (fun kv wq => ∃ k : Nat, k ≤ m ∧ kv = .int .i64 k ∧ Bag wq (w.heap.size + 2) wq.heap.size ((pE (w.heap.size + 4) n (.slice Ar S cr) (.slice (some ⟨qb, 0, none⟩) S cb) :: iE (some ⟨q5, 0, none⟩) n c5 ((List.range n).map fun j => ((offs xss N j : Nat) : Int)) :: sE (some ⟨q6, 0, none⟩) n c6 lvs :: iE Ar S cr (rkL xss N n) :: sE (some ⟨qb, 0, none⟩) S cb bvs :: bE F M (alR (FndP xss N S m f k) M) :: []) ++ rowsE 2 lvs ((List.range n).map fun j => labL (xss.eraseIdx j) N) ++ rowsE 2 bvs ((List.range S).map (belTo xss N S m))) ∧ Below (w.heap.size + 2) W2 wq) (fun kv _ => m - (intOf kv).toNat)
              case atStart => exact ⟨0, by omega, rfl, g4, b4⟩
              case round =>
                clear g4 b4
                obtain ⟨k, hk, rfl, g, hb⟩ := hrel
                have hzz := hb.size
                by_cases hkm : k < m
                · obtain ⟨l1, n1⟩ := hlabN.out m f hfN
                  obtain ⟨l2, n2⟩ := hlabN.out k f hfN
                  obtain ⟨bm, om, cm, x1, x2⟩ := g.lab (T := 2) (T2 := 22) (vs := lvs) (labs := (List.range n).map fun j => labL (xss.eraseIdx j) N) (b6 := q6) (n := n) (c6 := c6) (i := m) (f := f) (fun e he => List.mem_append.2 (.inl (List.mem_append.2 (.inr he)))) (by simp [sE]) (by rw [hll.out]; simp) (by simp [hmn]) l1
                  obtain ⟨bk, ok, ck, x3, x4⟩ := g.lab (T := 2) (T2 := 22) (vs := lvs) (labs := (List.range n).map fun j => labL (xss.eraseIdx j) N) (b6 := q6) (n := n) (c6 := c6) (i := k) (f := f) (fun e he => List.mem_append.2 (.inl (List.mem_append.2 (.inr he)))) (by simp [sE]) (by rw [hll.out]; simp) (by simp [show k < n by omega]) l2
                  rw [n1] at x1
                  rw [n2] at x3
                  have x5 : wr.cell? ⟨q5, m, none⟩ = some (.int .i64 (offs xss N m : Nat)) := ((g.get (j := 1) rfl).cellAt m (by omega)).trans (by simp [iE, hmn])
                  have x6 : wr.cell? ⟨q5, k, none⟩ = some (.int .i64 (offs xss N k : Nat)) := ((g.get (j := 1) rfl).cellAt k (by omega)).trans (by simp [iE, show k < n by omega])
                  have a1 := aI_lt (N := N) (f := f) hs.out hfN (show m < n by omega)
                  have a2 := aI_lt (N := N) (f := f) hs.out hfN (show k < n by omega)
                  rw [hS.out] at a1 a2
                  have r1 : offs xss N m ≤ 2000 := hS5.out m (by omega)
                  have r2 : offs xss N k ≤ 2000 := hS5.out k (by omega)
                  obtain ⟨em, hem⟩ := Int.eq_ofNat_of_zero_le a1.1
                  obtain ⟨ek, hek⟩ := Int.eq_ofNat_of_zero_le a2.1
                  have hemS : em < S := by omega
                  have hekS : ek < S := by omega
                  have hsum1 : ((offs xss N m : Nat) : Int) + labI xss m f = (em : Int) := hem
                  have hsum2 : ((offs xss N k : Nat) : Int) + labI xss k f = (ek : Int) := hek
                  have lb1 := labOf_nonneg (xss.eraseIdx m) f
                  have lb2 := labOf_nonneg (xss.eraseIdx k) f
                  obtain ⟨om1, hom1⟩ : ∃ z, offs xss N m = z := ⟨_, rfl⟩
                  obtain ⟨ok1, hok1⟩ : ∃ z, offs xss N k = z := ⟨_, rfl⟩
                  obtain ⟨v1, hv1'⟩ : ∃ z, labI xss m f = z := ⟨_, rfl⟩
                  obtain ⟨v2, hv2'⟩ : ∃ z, labI xss k f = z := ⟨_, rfl⟩
                  rw [hom1] at x5 hsum1 r1
                  rw [hok1] at x6 hsum2 r2
                  rw [hv1'] at x2 hsum1
                  rw [hv2'] at x4 hsum2
                  obtain ⟨t, ht⟩ : ∃ t, em * S = t := ⟨_, rfl⟩
                  obtain ⟨p, hp⟩ : ∃ p, t + ek = p := ⟨_, rfl⟩
                  have hpM : p < M := by rw [← hM.out, ← hp, ← ht]; exact aI_prod hemS hekS
                  have hmu : (em : Int) * (S : Int) = (t : Int) := by rw [← ht]; push_cast; rfl
                  have hlb2 : 0 ≤ v2 := by rw [← hv2']; exact lb2
                  have w1 : IntKind.i64.wrap ((om1 : Int) + v1) = (em : Int) := by rw [hsum1, IntKind.wrap_i64]; omega
                  have w2 : IntKind.i64.wrap (t : Int) = (t : Int) := by rw [IntKind.wrap_i64]; omega
                  have w3' : IntKind.i64.wrap ((t : Int) + (ok1 : Int)) = ((t + ok1 : Nat) : Int) := by rw [IntKind.wrap_i64]; omega
                  have w4' : IntKind.i64.wrap (((t + ok1 : Nat) : Int) + v2) = (p : Int) := by rw [IntKind.wrap_i64]; omega
                  have w4'' : IntKind.i64.wrap ((t : Int) + (ok1 : Int) + v2) = (p : Int) := by rw [IntKind.wrap_i64]; omega
                  have hmk := fnd_mark (xss := xss) (N := N) (S := S) (i := m) (f := f) (k := k) (M := M) (p := p) (by rw [hem, hek, ← hp, ← ht]; push_cast; rfl)
                  obtain ⟨vp, hvp⟩ : ∃ v, (alR (FndP xss N S m f k) M)[p]? = some v := ⟨_, List.getElem?_eq_getElem (by rw [alR_length]; exact hpM)⟩
                  have xp : wr.cell? ⟨F, p, none⟩ = some (.bool vp) := ((g.get (j := 5) rfl).cellAt p (by show p < M * 1; omega)).trans (by simp [bE, hvp])
                  have zp : wr.frozen? ⟨F, p, none⟩ = false := (g.get (j := 5) rfl).frozenAt p
                  have p0 : (0 : Int) ≤ (p : Int) := by omega
                  have p1' : (p : Int) < (M : Int) := by omega
                  have f0 : (0 : Int) ≤ (f : Int) := by omega
                  have f1 : (f : Int) < (N : Int) := by omega
                  have m0 : (0 : Int) ≤ (m : Int) := by omega
                  have m1 : (m : Int) < (n : Int) := by omega
                  have k0 : (0 : Int) ≤ (k : Int) := by omega
                  have k1 : (k : Int) < (n : Int) := by omega
                  have g7 : Bag (wr.setCell ⟨F, p, none⟩ (.bool true)) (w.heap.size + 2) (wr.setCell ⟨F, p, none⟩ (.bool true)).heap.size ((pE (w.heap.size + 4) n (.slice Ar S cr) (.slice (some ⟨qb, 0, none⟩) S cb) :: iE (some ⟨q5, 0, none⟩) n c5 ((List.range n).map fun j => ((offs xss N j : Nat) : Int)) :: sE (some ⟨q6, 0, none⟩) n c6 lvs :: iE Ar S cr (rkL xss N n) :: sE (some ⟨qb, 0, none⟩) S cb bvs :: bE F M (alR (FndP xss N S m f (k + 1)) M) :: []) ++ rowsE 2 lvs ((List.range n).map fun j => labL (xss.eraseIdx j) N) ++ rowsE 2 bvs ((List.range S).map (belTo xss N S m))) := by
                    have h1 := g.store (j := 5) (k := p) rfl (Nat.le_refl _) (.bool true)
                    have e5 : ((alR (FndP xss N S m f k) M).map Value.bool).set p (.bool true) = (alR (FndP xss N S m f (k + 1)) M).map Value.bool := by rw [← hmk, List.map_set]
                    rw [show (wr.setCell ⟨F, p, none⟩ (.bool true)).heap.size = wr.heap.size from World.size_setCell _ _ _]
                    unfold bE
                    rw [← e5]
                    exact h1
                  have hFlt := ((g.get (j := 5) rfl).lt F rfl).1
                  have b7 := hb.setCell (p := ⟨F, p, none⟩) hFlt (.bool true)
                  clear hmk hvp g hb lb1 lb2 l1 l2 n1 n2 a1 a2
                  replace hem := Lib.hid hem
                  replace hek := Lib.hid hek
                  replace hsum1 := Lib.hid hsum1
                  replace hsum2 := Lib.hid hsum2
                  replace hom1 := Lib.hid hom1
                  replace hok1 := Lib.hid hok1
                  replace hv1' := Lib.hid hv1'
                  replace hv2' := Lib.hid hv2'
                  replace ht := Lib.hid ht
                  replace hp := Lib.hid hp
                  replace g7 := Lib.hid g7
                  replace b7 := Lib.hid b7
                  go_wp2_with fail
                  go_region
                  obtain ⟨w8, hw8⟩ : ∃ w8 : World, (wr.setCell ⟨F, p, none⟩ (.bool true)).drew = w8 := ⟨_, rfl⟩
                  have g8 : Bag w8 (w.heap.size + 2) w8.heap.size ((pE (w.heap.size + 4) n (.slice Ar S cr) (.slice (some ⟨qb, 0, none⟩) S cb) :: iE (some ⟨q5, 0, none⟩) n c5 ((List.range n).map fun j => ((offs xss N j : Nat) : Int)) :: sE (some ⟨q6, 0, none⟩) n c6 lvs :: iE Ar S cr (rkL xss N n) :: sE (some ⟨qb, 0, none⟩) S cb bvs :: bE F M (alR (FndP xss N S m f (k + 1)) M) :: []) ++ rowsE 2 lvs ((List.range n).map fun j => labL (xss.eraseIdx j) N) ++ rowsE 2 bvs ((List.range S).map (belTo xss N S m))) := by rw [← hw8]; exact g7.out.keep (fun _ _ _ => rfl)
                  have b8 : Below (w.heap.size + 2) W2 w8 := by rw [← hw8]; exact below_drew b7.out
                  rw [hw8]
                  have hw1 : IntKind.i64.wrap ((k : Int) + 1) = ((k + 1 : Nat) : Int) := by rw [IntKind.wrap_i64]; omega
                  clear hw8 g7 b7 x1 x2 x3 x4 x5 x6 xp zp w1 w2 w3' w4' w4'' hmu
                  go_wp2_with fail
                  clear hw1
                  go_roundw
                  case measure => first | (simp [intOf]; done) | (simp [intOf]; omega)
                  case rel => first | exact ⟨k + 1, by omega, rfl, g8, b8⟩ | ((repeat (apply Exists.intro)); exact ⟨⟨k + 1, by omega, rfl, g8, b8⟩, rfl⟩)
                · obtain rfl : m = k := by omega
                  have hnx : alR (FndP xss N S m f m) M = alR (FndP xss N S m (f + 1) 0) M := alR_congr (fun j _ => fnd_next xss N S m f j)
                  rw [hnx] at g
                  have hw1 : IntKind.i64.wrap ((f : Int) + 1) = ((f + 1 : Nat) : Int) := by rw [IntKind.wrap_i64]; omega
                  clear hnx
                  go_wp2_with fail
                  clear hw1
                  go_roundw
                  case measure => first | (simp [intOf]; done) | (simp [intOf]; omega)
                  case rel => first | exact ⟨f + 1, by omega, rfl, g, hb⟩ | ((repeat (apply Exists.intro)); exact ⟨⟨f + 1, by omega, rfl, g, hb⟩, rfl⟩)
            · obtain rfl : N = f := by omega
              have hrow : (List.range S).map (belTo xss N S m) = (List.range S).map (rowE xss N S m 0 0) := List.map_congr_left (fun j _ => (rowE_start xss N S m j).symm)
              rw [hrow] at g4
              clear hrow
              go_wp2_with fail
              go_loopw [14] (fun kv wq => ∃ (e : Nat) (bvs : List Value), e ≤ S ∧ kv = .int .i64 e ∧ Hid (bvs.length = S) ∧ Bag wq (w.heap.size + 2) wq.heap.size ((pE (w.heap.size + 4) n (.slice Ar S cr) (.slice (some ⟨qb, 0, none⟩) S cb) :: iE (some ⟨q5, 0, none⟩) n c5 ((List.range n).map fun j => ((offs xss N j : Nat) : Int)) :: sE (some ⟨q6, 0, none⟩) n c6 lvs :: iE Ar S cr (rkL xss N n) :: sE (some ⟨qb, 0, none⟩) S cb bvs :: bE F M (alR (FndP xss N S m N 0) M) :: []) ++ rowsE 2 lvs ((List.range n).map fun j => labL (xss.eraseIdx j) N) ++ rowsE 2 bvs ((List.range S).map (rowE xss N S m e 0))) ∧ Below (w.heap.size + 2) W2 wq) (fun kv _ => S - (intOf kv).toNat)
              case atStart => exact ⟨0, bvs, by omega, rfl, hbl, g4, b4⟩
              case round =>
                clear g4 b4 hbl
                obtain ⟨e, bvs, he, rfl, hbl, g, hb⟩ := hrel
                by_cases heS : e < S
                · go_wp2_with fail
                  go_loopw [15] (fun kv wq => ∃ (d : Nat) (bvs : List Value), d ≤ S ∧ kv = .int .i64 d ∧ Hid (bvs.length = S) ∧ Bag wq (w.heap.size + 2) wq.heap.size ((pE (w.heap.size + 4) n (.slice Ar S cr) (.slice (some ⟨qb, 0, none⟩) S cb) :: iE (some ⟨q5, 0, none⟩) n c5 ((List.range n).map fun j => ((offs xss N j : Nat) : Int)) :: sE (some ⟨q6, 0, none⟩) n c6 lvs :: iE Ar S cr (rkL xss N n) :: sE (some ⟨qb, 0, none⟩) S cb bvs :: bE F M (alR (FndP xss N S m N 0) M) :: []) ++ rowsE 2 lvs ((List.range n).map fun j => labL (xss.eraseIdx j) N) ++ rowsE 2 bvs ((List.range S).map (rowE xss N S m e d))) ∧ Below (w.heap.size + 2) W2 wq) (fun kv _ => S - (intOf kv).toNat)
                  case atStart => exact ⟨0, bvs, by omega, rfl, hbl, g, hb⟩
                  case round =>
                    clear g hb hbl
                    obtain ⟨d, bvs, hd, rfl, hbl, g, hb⟩ := hrel
                    have hzz := hb.size
                    by_cases hdS : d < S
                    · obtain ⟨t, ht⟩ : ∃ t, e * S = t := ⟨_, rfl⟩
                      obtain ⟨p, hp⟩ : ∃ p, t + d = p := ⟨_, rfl⟩
                      have hpM : p < M := by rw [← hM.out, ← hp, ← ht]; exact aI_prod heS hdS
                      have hmu : (e : Int) * (S : Int) = (t : Int) := by rw [← ht]; push_cast; rfl
                      have w2 : IntKind.i64.wrap (t : Int) = (t : Int) := by rw [IntKind.wrap_i64]; omega
                      have w3 : IntKind.i64.wrap ((t : Int) + (d : Int)) = (p : Int) := by rw [IntKind.wrap_i64]; omega
                      obtain ⟨bI, hbI⟩ : ∃ v, (alR (FndP xss N S m N 0) M)[p]? = some v := ⟨_, List.getElem?_eq_getElem (by rw [alR_length]; exact hpM)⟩
                      have xp : wr.cell? ⟨F, p, none⟩ = some (.bool bI) := ((g.get (j := 5) rfl).cellAt p (by show p < M * 1; omega)).trans (by simp [bE, hbI])
                      have hiff := fnd_done (xss := xss) (N := N) (S := S) (i := m) (e := e) (d := d) hs.out (by rw [← hS.out]; exact offs_mono xss N (by omega)) hdS
                      rw [ht, hp] at hiff
                      have p0 : (0 : Int) ≤ (p : Int) := by omega
                      have p1' : (p : Int) < (M : Int) := by omega
                      have hw1 : IntKind.i64.wrap ((d : Int) + 1) = ((d + 1 : Nat) : Int) := by rw [IntKind.wrap_i64]; omega
                      replace ht := Lib.hid ht
                      replace hp := Lib.hid hp
                      cases bI with
                      | false =>
                        have hno : ¬ Inc xss N m e d := fun q => by have := (alR_iff hbI hpM).2 (hiff.2 q); cases this
                        rw [rowE_pass hno] at g
                        clear hno hiff
                        replace hbI := Lib.hid hbI
                        go_wp2_with fail
                        clear hw1
                        go_roundw
                        case measure => first | (simp [intOf]; done) | (simp [intOf]; omega)
                        case rel => first | exact ⟨d + 1, bvs, by omega, rfl, hbl, g, hb⟩ | ((repeat (apply Exists.intro)); exact ⟨⟨d + 1, bvs, by omega, rfl, hbl, g, hb⟩, rfl⟩)
                      | true =>
                        have hyes : Inc xss N m e d := hiff.1 ((alR_iff hbI hpM).1 rfl)
                        have hset := rowE_set (xss := xss) (N := N) (S := S) (i := m) (E := e) (D := d) heS hyes
                        have hye : ((List.range S).map (rowE xss N S m e d))[e]? = some (rowE xss N S m e d e) := by simp [heS]
                        obtain ⟨ve, hve⟩ : ∃ v, bvs[e]? = some v := ⟨_, List.getElem?_eq_getElem (show e < bvs.length by rw [hbl.out]; exact heS)⟩
                        obtain ⟨Ae, ne, ce, rfl, oe⟩ := g.row (T := 2) (vs := bvs) (xss := (List.range S).map (rowE xss N S m e d)) (fun e he => List.mem_append.2 (.inr he)) hve hye
                        have hnl := rowE_len xss N S m e d e (by omega)
                        have hnlen : (rowE xss N S m e d e).length = ne := oe.lenI
                        have hne : ne ≤ 4000 := by omega
                        have x2 : wr.cell? ⟨w.heap.size + 4, 2, none⟩ = some (.slice (some ⟨qb, 0, none⟩) S cb) := (g.get (j := 0) rfl).cellAt 2 (by omega)
                        have xh : wr.cell? ⟨qb, e, none⟩ = some (.slice Ae ne ce) := ((g.get (j := 4) rfl).cellAt e (by show e < S * 1; omega)).trans hve
                        have hG1 := ((g.get (j := 0) rfl).lt (w.heap.size + 4) rfl).2
                        have hG2 := ((g.get (j := 4) rfl).lt qb rfl).2
                        have hG3 := ((g.get (j := 4) rfl).lt qb rfl).1
                        have e0 : (0 : Int) ≤ (e : Int) := by omega
                        have e1 : (e : Int) < (S : Int) := by omega
                        have hl1 : Own (wr.alloc (.cells #[.int .i64 (d : Int)] 2)).drew wr.heap.size (wr.heap.size + 1) 2 (some ⟨wr.heap.size, 0, none⟩) 1 1 ([(d : Int)].map (Value.int .i64)) := own_lit1 wr _ _ (Nat.le_refl _)
                        have hba : Below wr.heap.size wr (wr.alloc (.cells #[.int .i64 (d : Int)] 2)).drew := below_drew ((Below.refl wr.heap.size wr).alloc (Nat.le_refl _) _)
                        have gdw := g.below hba (Nat.le_refl _)
                        have hbdw := below_then hb hba (by omega)
                        have hre : (wr.alloc (.cells #[.int .i64 (d : Int)] 2)).drew.ownsRow (w.heap.size + 2) 2 1 (.slice Ae ne ce) ne ((rowE xss N S m e d e).map (Value.int .i64)) := (oe.below hba (Nat.le_refl _)).1
                        have hdz : w.heap.size + 2 ≤ (wr.alloc (.cells #[.int .i64 (d : Int)] 2)).drew.heap.size := by simp; omega
                        have hdz2 : wr.heap.size ≤ (wr.alloc (.cells #[.int .i64 (d : Int)] 2)).drew.heap.size := by simp
                        have hrd := hl1.rd
                        have h1c : ∀ z ∈ [(d : Int)].map (Value.int .i64), z.oneCell' = true := by simp [Value.oneCell']
                        replace hset := Lib.hid hset
                        replace hye := Lib.hid hye
                        replace hve := Lib.hid hve
                        replace hnlen := Lib.hid hnlen
                        replace hbI := Lib.hid hbI
                        replace gdw := Lib.hid gdw
                        replace hbdw := Lib.hid hbdw
                        replace hre := Lib.hid hre
                        replace hrd := Lib.hid hrd
                        replace h1c := Lib.hid h1c
                        clear hyes hiff g hb oe hl1 hba hnl
                        go_wp2_with fail
                        clear w2 w3 hmu xp
                        go_region_law (
                          refine step_appendL _ rfl (.tmp 138) (.tmp 140) 22 rfl (w.heap.size + 2) 2 j0 (.int .i64 0) 8 Try.underlying22 hj0 hy0 hy1 hy2 rfl (by decide) Ae ne ce _ (by simp [Act.eval]) hre.out (some ⟨wr.heap.size, 0, none⟩) 1 1 _ _ _ (by simp [Act.eval]) hrd.out h1c.out (by omega) hdz ?_
                          intro A7 c7 w7 ho7 hg7 hor7
                          have g7 : Bag w7 (w.heap.size + 2) w7.heap.size ((pE (w.heap.size + 4) n (.slice Ar S cr) (.slice (some ⟨qb, 0, none⟩) S cb) :: iE (some ⟨q5, 0, none⟩) n c5 ((List.range n).map fun j => ((offs xss N j : Nat) : Int)) :: sE (some ⟨q6, 0, none⟩) n c6 lvs :: iE Ar S cr (rkL xss N n) :: sE (some ⟨qb, 0, none⟩) S cb bvs :: bE F M (alR (FndP xss N S m N 0) M) :: []) ++ rowsE 2 lvs ((List.range n).map fun j => labL (xss.eraseIdx j) N) ++ rowsE 2 (bvs.set e (.slice A7 (ne + 1) c7)) ((List.range S).map (rowE xss N S m e (d + 1)))) := by
                            have h1 := gdw.out.grow (j := e) (v' := .slice A7 (ne + 1) c7) (ys' := rowE xss N S m e d e ++ [(d : Int)]) hve.out hye.out hdz2 (by
                              rw [List.length_append, hnlen.out, List.map_append]
                              exact ho7) hg7 (fun z hz => by
                              rcases hor7 with q | q
                              · exact .inl (q.symm.trans hz)
                              · right
                                have := q.symm.trans hz
                                simp at this
                                omega)
                            rw [hset.out] at h1
                            exact h1
                          have x7 : w7.cell? ⟨qb, e, none⟩ = some (.slice Ae ne ce) := ((g7.get (j := 4) rfl).cellAt e (by show e < S * 1; omega)).trans hve.out
                          have x27 : w7.cell? ⟨w.heap.size + 4, 2, none⟩ = some (.slice (some ⟨qb, 0, none⟩) S cb) := (g7.get (j := 0) rfl).cellAt 2 (by omega)
                          have z7 : w7.frozen? ⟨qb, e, none⟩ = false := (g7.get (j := 4) rfl).frozenAt e
                          have b7 : Below (w.heap.size + 2) W2 w7 := hbdw.out.grown hg7 hdz (fun z hz => (hre.out.lt z hz).1)
                          replace g7 := Lib.hid g7
                          replace b7 := Lib.hid b7
                          clear ho7 hg7 hor7)
                        all_goals
                          have g8 := g7.out.store (j := 4) (k := e) rfl (Nat.le_refl _) (.slice A7 (ne + 1) c7)
                          have b8 := b7.out.setCell (p := ⟨qb, e, none⟩) hG3 (.slice A7 (ne + 1) c7)
                          have y8 : (w7.setCell ⟨qb, e, none⟩ (.slice A7 (ne + 1) c7)).heap.size = w7.heap.size := World.size_setCell _ _ _
                          have hbl8 : (bvs.set e (.slice A7 (ne + 1) c7)).length = S := by rw [List.length_set]; exact hbl.out
                          obtain ⟨w8, hw8⟩ : ∃ w8 : World, w7.setCell ⟨qb, e, none⟩ (.slice A7 (ne + 1) c7) = w8 := ⟨_, rfl⟩
                          rw [hw8] at g8 b8 y8 ⊢
                          rw [← y8] at g8
                          replace hbl8 := Lib.hid hbl8
                          clear y8 hw8 x7 x27 z7 x2 xh g7 b7
                          go_wp2_with fail
                          clear hw1
                          go_roundw
                          case measure => first | (simp [intOf]; done) | (simp [intOf]; omega)
                          case rel => first | exact ⟨d + 1, _, by omega, rfl, hbl8, g8, b8⟩ | ((repeat (apply Exists.intro)); exact ⟨⟨d + 1, _, by omega, rfl, hbl8, g8, b8⟩, rfl⟩)
                    · obtain rfl : S = d := by omega
                      have hnx : (List.range S).map (rowE xss N S m e S) = (List.range S).map (rowE xss N S m (e + 1) 0) := List.map_congr_left (fun j _ => rowE_next hs.out S m e j)
                      rw [hnx] at g
                      have hw1 : IntKind.i64.wrap ((e : Int) + 1) = ((e + 1 : Nat) : Int) := by rw [IntKind.wrap_i64]; omega
                      clear hnx
                      go_wp2_with fail
                      clear hw1
                      go_roundw
                      case measure => first | (simp [intOf]; done) | (simp [intOf]; omega)
                      case rel => first | exact ⟨e + 1, bvs, by omega, rfl, hbl, g, hb⟩ | ((repeat (apply Exists.intro)); exact ⟨⟨e + 1, bvs, by omega, rfl, hbl, g, hb⟩, rfl⟩)
                · obtain rfl : S = e := by omega
                  have hnx : (List.range S).map (rowE xss N S m S 0) = (List.range S).map (belTo xss N S (m + 1)) := List.map_congr_left (fun j hj => rowE_end xss N S m 0 (List.mem_range.1 hj))
                  rw [hnx] at g
                  have g9 : Bag wr (w.heap.size + 2) wr.heap.size ((pE (w.heap.size + 4) n (.slice Ar S cr) (.slice (some ⟨qb, 0, none⟩) S cb) :: iE (some ⟨q5, 0, none⟩) n c5 ((List.range n).map fun j => ((offs xss N j : Nat) : Int)) :: sE (some ⟨q6, 0, none⟩) n c6 lvs :: iE Ar S cr (rkL xss N n) :: sE (some ⟨qb, 0, none⟩) S cb bvs :: []) ++ rowsE 2 lvs ((List.range n).map fun j => labL (xss.eraseIdx j) N) ++ rowsE 2 bvs ((List.range S).map (belTo xss N S (m + 1)))) := by
                    refine g.sub ?_
                    simp only [List.cons_append, List.nil_append]
                    repeat (first | exact List.sublist_cons_self _ _ | apply List.Sublist.cons_cons)
                  have hw1 : IntKind.i64.wrap ((m : Int) + 1) = ((m + 1 : Nat) : Int) := by rw [IntKind.wrap_i64]; omega
                  clear hnx g
                  go_wp2_with fail
                  clear hw1
                  go_roundw
                  case measure => first | (simp [intOf]; done) | (simp [intOf]; omega)
                  case rel => first | exact ⟨m + 1, bvs, by omega, by omega, rfl, hbl, g9, hb⟩ | ((repeat (apply Exists.intro)); exact ⟨⟨m + 1, bvs, by omega, by omega, rfl, hbl, g9, hb⟩, rfl⟩)
        · obtain rfl : n = m := by omega
          have hend : (List.range S).map (belTo xss N S n) = bels xss N := by unfold bels; rw [hSl.out, hl.out]
          rw [hend] at g
          have Q0 := (hb.block (w.heap.size + 1) (by omega)).trans p1.out
          have q0 : wr.cell? ⟨w.heap.size + 1, 0, none⟩ = some (.int .i64 0) := by rw [cell_of_row _ _ _ _ _ _ Q0]; rfl
          have q1 : wr.cell? ⟨w.heap.size + 1, 1, none⟩ = some (.slice none 0 0) := by rw [cell_of_row _ _ _ _ _ _ Q0]; rfl
          have q2 : wr.cell? ⟨w.heap.size + 1, 2, none⟩ = some (.slice none 0 0) := by rw [cell_of_row _ _ _ _ _ _ Q0]; rfl
          have z0 : wr.frozen? ⟨w.heap.size + 1, 0, none⟩ = false := frozen_of_row _ _ _ _ _ Q0
          have z1 : wr.frozen? ⟨w.heap.size + 1, 1, none⟩ = false := frozen_of_row _ _ _ _ _ Q0
          have z2 : wr.frozen? ⟨w.heap.size + 1, 2, none⟩ = false := frozen_of_row _ _ _ _ _ Q0
          have x0 : wr.cell? ⟨w.heap.size + 4, 0, none⟩ = some (.int .i64 (n : Int)) := (g.get (j := 0) rfl).cellAt 0 (by omega)
          have x1 : wr.cell? ⟨w.heap.size + 4, 1, none⟩ = some (.slice Ar S cr) := (g.get (j := 0) rfl).cellAt 1 (by omega)
          have x2 : wr.cell? ⟨w.heap.size + 4, 2, none⟩ = some (.slice (some ⟨qb, 0, none⟩) S cb) := (g.get (j := 0) rfl).cellAt 2 (by omega)
          have hz9 := hb.size
          replace Q0 := Lib.hid Q0
          clear hend
          go_wp2_with fail
          (try simp only [Exit.inBlock, Exit.then])
          have h1 := heap_setCell_same _ _ 0 _ _ (Value.int .i64 (n : Int)) Q0.out
          have h2 := heap_setCell_same _ _ 1 _ _ (Value.slice Ar S cr) h1
          have h3 := heap_setCell_same _ _ 2 _ _ (Value.slice (some ⟨qb, 0, none⟩) S cb) h2
          refine bodyPost_ret (v := .agg #[.int .i64 (n : Int), .slice Ar S cr, .slice (some ⟨qb, 0, none⟩) S cb]) ?_ rfl ?_
          · exact results_cell_row rfl _ _ (w.heap.size + 1) 29 #[.int .i64 (n : Int), .slice Ar S cr, .slice (some ⟨qb, 0, none⟩) S cb] (0, 0) _ rfl (by simpa using h3) Try.underlying29 rfl (by kernel_rfl)
          · have S3 : ∀ (v0 v1 v2 : Value) (hi : Nat), Same (w.heap.size + 2) hi wr (((wr.setCell ⟨w.heap.size + 1, 0, none⟩ v0).setCell ⟨w.heap.size + 1, 1, none⟩ v1).setCell ⟨w.heap.size + 1, 2, none⟩ v2) := fun v0 v1 v2 hi => ((same_set _ _ _ _ _ (.inl (by simp))).trans (same_set _ _ _ _ _ (.inl (by simp)))).trans (same_set _ _ _ _ _ (.inl (by simp)))
            have oR := (g.getO (j := 3) rfl).ri
            have oV : RS wr (w.heap.size + 2) wr.heap.size (some ⟨qb, 0, none⟩) S (bels xss N) := g.rs (T := 2) (T2 := 22) (vs := bvs) (c := cb) (fun e he => List.mem_append.2 (.inr he)) (by simp [sE]) (by rw [hbl.out]; unfold bels; rw [List.length_map, List.length_range, hSl.out])
            exact ⟨_, _, _, _, _, _, rfl, ⟨(oR.keep (S3 _ _ _ _)).more (by omega) (by simp), (oV.keep (S3 _ _ _ _)).more (by omega) (by simp)⟩, (((hB.trans (hb.mono (by omega))).setCell (by simp) _).setCell (by simp) _).setCell (by simp) _⟩
end Go.Proofs.Ytbioelmofceaaaa
/- FpX -/
namespace Go.Proofs.Ytbioelmofceaaaa
open Go.RowKit
set_option linter.unusedVariables false
set_option maxRecDepth 100000
/-- what both return -/
noncomputable def fpT (xss : List (List Int)) : Int × List Int × List (List Int) × Int :=
  if isManB xss then (if 500 < offs xss (flg xss) xss.length then (0, [], [], 3) else (((xss.length : Nat) : Int), rkL xss (flg xss) xss.length, bels xss (flg xss), 0)) else (0, [], [], 1)
theorem fpT_no {xss : List (List Int)} (h : isManB xss = false) : fpT xss = (0, [], [], 1) := by unfold fpT; rw [h]; rfl
theorem fpT_big {xss : List (List Int)} (h : isManB xss = true) (h5 : 500 < offs xss (flg xss) xss.length) : fpT xss = (0, [], [], 3) := by unfold fpT; rw [if_pos h, if_pos h5]
theorem fpT_ok {xss : List (List Int)} (h : isManB xss = true) (h5 : ¬ 500 < offs xss (flg xss) xss.length) : fpT xss = (((xss.length : Nat) : Int), rkL xss (flg xss) xss.length, bels xss (flg xss), 0) := by unfold fpT; rw [if_pos h, if_neg h5]
theorem bels_nums {xss : List (List Int)} {N : Nat} (h : offs xss N xss.length ≤ 500) : offs xss N xss.length + (offs xss N xss.length + numsIn (bels xss N)) ≤ 1048576 := by
  have h1 := numsIn_le (n := offs xss N xss.length) (xss := bels xss N) (fun x hx => by
    unfold bels at hx
    obtain ⟨e, _, rfl⟩ := List.mem_map.1 hx
    exact belTo_len xss N _ _ e)
  have h2 : (bels xss N).length = offs xss N xss.length := by unfold bels; simp
  rw [h2] at h1
  have h3 := Nat.mul_le_mul h h
  omega
theorem bels_length (xss : List (List Int)) (N : Nat) : (bels xss N).length = offs xss N xss.length := by unfold bels; simp
set_option maxHeartbeats 4000000 in
theorem i_FacePoset_any (w : World) (A : Option Addr) (n c : Nat) (xss : List (List Int)) {lo hi : Nat} (h : RS w lo hi A n xss) (hhi : hi ≤ w.heap.size) (hnc : n ≤ c) :
    Calls Try.prog 15 #[.agg #[.slice A n c]] w fun e' w' => ∃ (r1 : Int) (D1 : Option Addr) (k1 e1 : Nat) (ds : List Int) (A1 : Option Addr) (n1 c1 : Nat) (zss : List (List Int)) (M : Nat) (code : Int), e' = .returned (.tuple #[.agg #[.int .i64 r1, .slice D1 k1 e1, .slice A1 n1 c1], .int .i64 code]) ∧ Hid ((r1, ds, zss, code) = fpT xss) ∧ OwnP w' w.heap.size M w'.heap.size D1 k1 e1 ds A1 n1 c1 zss ∧ k1 + (n1 + numsIn zss) ≤ 1048576 ∧ Below w.heap.size w w' := by
  have hl := h.len
  have hm := h.max
  have hR := rs_alloc (rs_alloc h hhi (.cells #[.slice A n c] 38)) (by simp; omega) (.cells #[.int .i64 0, .slice none 0 0, .slice none 0 0] 29)
  have hB : Below w.heap.size w ((w.alloc (.cells #[.slice A n c] 38)).alloc (.cells #[.int .i64 0, .slice none 0 0, .slice none 0 0] 29)) := ((Below.refl _ _).alloc (Nat.le_refl _) _).alloc (by simp) _
  have c0 : ((w.alloc (.cells #[.slice A n c] 38)).alloc (.cells #[.int .i64 0, .slice none 0 0, .slice none 0 0] 29)).cell? ⟨w.heap.size, 0, none⟩ = some (.slice A n c) := (al_old _ _ _ _ (by simp)).trans (al_new _ _ _ _ rfl)
  have p1 : ((w.alloc (.cells #[.slice A n c] 38)).alloc (.cells #[.int .i64 0, .slice none 0 0, .slice none 0 0] 29)).heap[w.heap.size + 1]? = some (.cells #[.int .i64 0, .slice none 0 0, .slice none 0 0] 29 (0, 0)) := heap_new _ _ _ (by simp)
  replace p1 := Lib.hid p1
  cases hM : isManB xss with
  | false =>
    have hF := fpT_no hM
    replace hF := Lib.hid hF
    replace hM := Lib.hid hM
    replace hl := Lib.hid hl
    go_enter Try.func15, Try.ntmps15
    go_wp2_with fail
    obtain ⟨W1, hW⟩ : ∃ W1 : World, ((w.alloc (.cells #[.slice A n c] 38)).alloc (.cells #[.int .i64 0, .slice none 0 0, .slice none 0 0] 29)) = W1 := ⟨_, rfl⟩
    have hz1 : W1.heap.size = w.heap.size + 2 := by rw [← hW]; simp
    rw [hW] at hR hB c0 p1 ⊢
    clear hW h
    ((with_reducible refine (isMan_any A n c xss _ hR (by omega) hnc).mono ?_); rintro e2 w2 ⟨rfl, f2⟩)
    rw [hM.out]
    have y2 := f2.size
    have C2 := (f2.cell (p := ⟨w.heap.size, 0, none⟩) (by simp; omega)).trans c0
    have Q := (f2.block (w.heap.size + 1) (by omega)).trans p1.out
    have y0r : w2.cell? ⟨w.heap.size + 1, 0, none⟩ = some (.int .i64 0) := by rw [cell_of_row _ _ _ _ _ _ Q]; rfl
    have z0r : w2.frozen? ⟨w.heap.size + 1, 0, none⟩ = false := frozen_of_row _ _ _ _ _ Q
    have y1r : w2.cell? ⟨w.heap.size + 1, 1, none⟩ = some (.slice none 0 0) := by rw [cell_of_row _ _ _ _ _ _ Q]; rfl
    have z1r : w2.frozen? ⟨w.heap.size + 1, 1, none⟩ = false := frozen_of_row _ _ _ _ _ Q
    have y2r : w2.cell? ⟨w.heap.size + 1, 2, none⟩ = some (.slice none 0 0) := by rw [cell_of_row _ _ _ _ _ _ Q]; rfl
    have z2r : w2.frozen? ⟨w.heap.size + 1, 2, none⟩ = false := frozen_of_row _ _ _ _ _ Q
    replace Q := Lib.hid Q
    go_wp2_with fail
    (try simp only [Exit.inBlock, Exit.then])
    have h1 := heap_setCell_same _ _ 0 _ _ (Value.int .i64 0) Q.out
    have h2 := heap_setCell_same _ _ 1 _ _ (Value.slice none 0 0) h1
    have h3 := heap_setCell_same _ _ 2 _ _ (Value.slice none 0 0) h2
    refine bodyPost_ret (v := .tuple #[.agg #[.int .i64 0, .slice none 0 0, .slice none 0 0], .int .i64 1]) ?_ rfl ?_
    · exact results_cell_row2 rfl _ _ (w.heap.size + 1) 29 #[.int .i64 0, .slice none 0 0, .slice none 0 0] (0, 0) _ rfl (by simpa using h3) Try.underlying29 rfl (by kernel_rfl) _ rfl
    · exact ⟨_, _, _, _, [], _, _, _, [], w.heap.size, _, rfl, Lib.hid hF.out.symm, ⟨Nat.le_refl _, by simp; omega, Own.nil, [], Own.nil, RowsOwn.nil⟩, by simp [numsIn], (((hB.trans (f2.mono (by omega))).setCell (by simp) _).setCell (by simp) _).setCell (by simp) _⟩
  | true =>
    have hP := isManB_iff.1 hM
    have hn1 : 1 ≤ n := by have := hP.r1; omega
    have hn5 : n ≤ 5 := by have := hP.r5; omega
    have hf2 := hP.f2
    have hf4 := hP.f4
    have hS := hP.sys
    obtain ⟨N, hN⟩ : ∃ N, flg xss = N := ⟨_, rfl⟩
    rw [hN] at hf2 hf4 hS
    by_cases h5 : 500 < offs xss N xss.length
    · skip
      have hF := fpT_big hM (by rw [hN]; exact h5)
      skip
      have hG : fpG xss N = (0, [], [], false) := by unfold fpG; rw [if_pos h5]
      replace hF := Lib.hid hF
      replace hM := Lib.hid hM
      replace hl := Lib.hid hl
      replace hP := Lib.hid hP
      replace hS := Lib.hid hS
      replace hG := Lib.hid hG
      go_enter Try.func15, Try.ntmps15
      go_wp2_with fail
      obtain ⟨W1, hW⟩ : ∃ W1 : World, ((w.alloc (.cells #[.slice A n c] 38)).alloc (.cells #[.int .i64 0, .slice none 0 0, .slice none 0 0] 29)) = W1 := ⟨_, rfl⟩
      have hz1 : W1.heap.size = w.heap.size + 2 := by rw [← hW]; simp
      rw [hW] at hR hB c0 p1 ⊢
      clear hW h
      ((with_reducible refine (isMan_any A n c xss _ hR (by omega) hnc).mono ?_); rintro e2 w2 ⟨rfl, f2⟩)
      rw [hM.out]
      have y2 := f2.size
      have C2 := (f2.cell (p := ⟨w.heap.size, 0, none⟩) (by simp; omega)).trans c0
      go_wp2_with fail
      ((with_reducible refine (facePoset_any A n c xss w2 (hR.below f2 (by omega)) (by omega) hn1 hn5 N hN hf4 hS.out).mono ?_); rintro e3 w3 ⟨r1, D1, k1, e1, ds, A1, n1, c1, zss, ok, M, rfl, H3, o3, f3⟩)
      obtain ⟨rfl, rfl, rfl, rfl⟩ : r1 = 0 ∧ ds = [] ∧ zss = [] ∧ ok = false := by have e := H3.out.trans hG.out; simpa [and_assoc] using e
      clear H3
      have y3 := f3.size
      have fa : Below w3.heap.size w3 (w3.alloc (.cells #[.int .i64 0, .slice D1 k1 e1, .slice A1 n1 c1] 29)) := (Below.refl _ _).alloc (Nat.le_refl _) _
      have d0 : (w3.alloc (.cells #[.int .i64 0, .slice D1 k1 e1, .slice A1 n1 c1] 29)).cell? ⟨w3.heap.size, 0, none⟩ = some (.int .i64 0) := by simp
      have d1 : (w3.alloc (.cells #[.int .i64 0, .slice D1 k1 e1, .slice A1 n1 c1] 29)).cell? ⟨w3.heap.size, 1, none⟩ = some (.slice D1 k1 e1) := by simp
      have d2 : (w3.alloc (.cells #[.int .i64 0, .slice D1 k1 e1, .slice A1 n1 c1] 29)).cell? ⟨w3.heap.size, 2, none⟩ = some (.slice A1 n1 c1) := by simp
      have o4 := o3.below fa (Nat.le_refl _)
      have F4 : Below W1.heap.size W1 (w3.alloc (.cells #[.int .i64 0, .slice D1 k1 e1, .slice A1 n1 c1] 29)) := below_then (below_then f2 f3 (by omega)) fa (by omega)
      have Q := (F4.block (w.heap.size + 1) (by omega)).trans p1.out
      have y0r : (w3.alloc (.cells #[.int .i64 0, .slice D1 k1 e1, .slice A1 n1 c1] 29)).cell? ⟨w.heap.size + 1, 0, none⟩ = some (.int .i64 0) := by rw [cell_of_row _ _ _ _ _ _ Q]; rfl
      have z0r : (w3.alloc (.cells #[.int .i64 0, .slice D1 k1 e1, .slice A1 n1 c1] 29)).frozen? ⟨w.heap.size + 1, 0, none⟩ = false := frozen_of_row _ _ _ _ _ Q
      have y1r : (w3.alloc (.cells #[.int .i64 0, .slice D1 k1 e1, .slice A1 n1 c1] 29)).cell? ⟨w.heap.size + 1, 1, none⟩ = some (.slice none 0 0) := by rw [cell_of_row _ _ _ _ _ _ Q]; rfl
      have z1r : (w3.alloc (.cells #[.int .i64 0, .slice D1 k1 e1, .slice A1 n1 c1] 29)).frozen? ⟨w.heap.size + 1, 1, none⟩ = false := frozen_of_row _ _ _ _ _ Q
      have y2r : (w3.alloc (.cells #[.int .i64 0, .slice D1 k1 e1, .slice A1 n1 c1] 29)).cell? ⟨w.heap.size + 1, 2, none⟩ = some (.slice none 0 0) := by rw [cell_of_row _ _ _ _ _ _ Q]; rfl
      have z2r : (w3.alloc (.cells #[.int .i64 0, .slice D1 k1 e1, .slice A1 n1 c1] 29)).frozen? ⟨w.heap.size + 1, 2, none⟩ = false := frozen_of_row _ _ _ _ _ Q
      replace Q := Lib.hid Q
      have y4 := fa.size
      go_wp2_with fail
      (try simp only [Exit.inBlock, Exit.then])
      have h1 := heap_setCell_same _ _ 0 _ _ (Value.int .i64 0) Q.out
      have h2 := heap_setCell_same _ _ 1 _ _ (Value.slice none 0 0) h1
      have h3 := heap_setCell_same _ _ 2 _ _ (Value.slice none 0 0) h2
      refine bodyPost_ret (v := .tuple #[.agg #[.int .i64 0, .slice none 0 0, .slice none 0 0], .int .i64 3]) ?_ rfl ?_
      · exact results_cell_row2 rfl _ _ (w.heap.size + 1) 29 #[.int .i64 0, .slice none 0 0, .slice none 0 0] (0, 0) _ rfl (by simpa using h3) Try.underlying29 rfl (by kernel_rfl) _ rfl
      · exact ⟨_, _, _, _, [], _, _, _, [], w.heap.size, _, rfl, Lib.hid hF.out.symm, ⟨Nat.le_refl _, by simp; omega, Own.nil, [], Own.nil, RowsOwn.nil⟩, by simp [numsIn], (((hB.trans (F4.mono (by omega))).setCell (by simp) _).setCell (by simp) _).setCell (by simp) _⟩
    · skip
      have hF := fpT_ok hM (by rw [hN]; exact h5)
      rw [hN] at hF
      have hG : fpG xss N = (((xss.length : Nat) : Int), rkL xss N xss.length, bels xss N, true) := by unfold fpG; rw [if_neg h5]
      have hnm := bels_nums (xss := xss) (N := N) (by omega)
      have hb1 := bels_length xss N
      have hb2 := rkL_length xss N xss.length
      replace hF := Lib.hid hF
      replace hM := Lib.hid hM
      replace hl := Lib.hid hl
      replace hP := Lib.hid hP
      replace hS := Lib.hid hS
      replace hG := Lib.hid hG
      replace hb1 := Lib.hid hb1
      replace hb2 := Lib.hid hb2
      go_enter Try.func15, Try.ntmps15
      go_wp2_with fail
      obtain ⟨W1, hW⟩ : ∃ W1 : World, ((w.alloc (.cells #[.slice A n c] 38)).alloc (.cells #[.int .i64 0, .slice none 0 0, .slice none 0 0] 29)) = W1 := ⟨_, rfl⟩
      have hz1 : W1.heap.size = w.heap.size + 2 := by rw [← hW]; simp
      rw [hW] at hR hB c0 p1 ⊢
      clear hW h
      ((with_reducible refine (isMan_any A n c xss _ hR (by omega) hnc).mono ?_); rintro e2 w2 ⟨rfl, f2⟩)
      rw [hM.out]
      have y2 := f2.size
      have C2 := (f2.cell (p := ⟨w.heap.size, 0, none⟩) (by simp; omega)).trans c0
      go_wp2_with fail
      ((with_reducible refine (facePoset_any A n c xss w2 (hR.below f2 (by omega)) (by omega) hn1 hn5 N hN hf4 hS.out).mono ?_); rintro e3 w3 ⟨r1, D1, k1, e1, ds, A1, n1, c1, zss, ok, M, rfl, H3, o3, f3⟩)
      obtain ⟨rfl, rfl, rfl, rfl⟩ : r1 = ((xss.length : Nat) : Int) ∧ ds = rkL xss N xss.length ∧ zss = bels xss N ∧ ok = true := by have e := H3.out.trans hG.out; simpa [and_assoc] using e
      clear H3
      have y3 := f3.size
      have fa : Below w3.heap.size w3 (w3.alloc (.cells #[.int .i64 ((xss.length : Nat) : Int), .slice D1 k1 e1, .slice A1 n1 c1] 29)) := (Below.refl _ _).alloc (Nat.le_refl _) _
      have d0 : (w3.alloc (.cells #[.int .i64 ((xss.length : Nat) : Int), .slice D1 k1 e1, .slice A1 n1 c1] 29)).cell? ⟨w3.heap.size, 0, none⟩ = some (.int .i64 ((xss.length : Nat) : Int)) := by simp
      have d1 : (w3.alloc (.cells #[.int .i64 ((xss.length : Nat) : Int), .slice D1 k1 e1, .slice A1 n1 c1] 29)).cell? ⟨w3.heap.size, 1, none⟩ = some (.slice D1 k1 e1) := by simp
      have d2 : (w3.alloc (.cells #[.int .i64 ((xss.length : Nat) : Int), .slice D1 k1 e1, .slice A1 n1 c1] 29)).cell? ⟨w3.heap.size, 2, none⟩ = some (.slice A1 n1 c1) := by simp
      have o4 := o3.below fa (Nat.le_refl _)
      have F4 : Below W1.heap.size W1 (w3.alloc (.cells #[.int .i64 ((xss.length : Nat) : Int), .slice D1 k1 e1, .slice A1 n1 c1] 29)) := below_then (below_then f2 f3 (by omega)) fa (by omega)
      have Q := (F4.block (w.heap.size + 1) (by omega)).trans p1.out
      have y0r : (w3.alloc (.cells #[.int .i64 ((xss.length : Nat) : Int), .slice D1 k1 e1, .slice A1 n1 c1] 29)).cell? ⟨w.heap.size + 1, 0, none⟩ = some (.int .i64 0) := by rw [cell_of_row _ _ _ _ _ _ Q]; rfl
      have z0r : (w3.alloc (.cells #[.int .i64 ((xss.length : Nat) : Int), .slice D1 k1 e1, .slice A1 n1 c1] 29)).frozen? ⟨w.heap.size + 1, 0, none⟩ = false := frozen_of_row _ _ _ _ _ Q
      have y1r : (w3.alloc (.cells #[.int .i64 ((xss.length : Nat) : Int), .slice D1 k1 e1, .slice A1 n1 c1] 29)).cell? ⟨w.heap.size + 1, 1, none⟩ = some (.slice none 0 0) := by rw [cell_of_row _ _ _ _ _ _ Q]; rfl
      have z1r : (w3.alloc (.cells #[.int .i64 ((xss.length : Nat) : Int), .slice D1 k1 e1, .slice A1 n1 c1] 29)).frozen? ⟨w.heap.size + 1, 1, none⟩ = false := frozen_of_row _ _ _ _ _ Q
      have y2r : (w3.alloc (.cells #[.int .i64 ((xss.length : Nat) : Int), .slice D1 k1 e1, .slice A1 n1 c1] 29)).cell? ⟨w.heap.size + 1, 2, none⟩ = some (.slice none 0 0) := by rw [cell_of_row _ _ _ _ _ _ Q]; rfl
      have z2r : (w3.alloc (.cells #[.int .i64 ((xss.length : Nat) : Int), .slice D1 k1 e1, .slice A1 n1 c1] 29)).frozen? ⟨w.heap.size + 1, 2, none⟩ = false := frozen_of_row _ _ _ _ _ Q
      replace Q := Lib.hid Q
      have y4 := fa.size
      go_wp2_with fail
      (try simp only [Exit.inBlock, Exit.then])
      have h1 := heap_setCell_same _ _ 0 _ _ (Value.int .i64 ((xss.length : Nat) : Int)) Q.out
      have h2 := heap_setCell_same _ _ 1 _ _ (Value.slice D1 k1 e1) h1
      have h3 := heap_setCell_same _ _ 2 _ _ (Value.slice A1 n1 c1) h2
      refine bodyPost_ret (v := .tuple #[.agg #[.int .i64 ((xss.length : Nat) : Int), .slice D1 k1 e1, .slice A1 n1 c1], .int .i64 0]) ?_ rfl ?_
      · exact results_cell_row2 rfl _ _ (w.heap.size + 1) 29 #[.int .i64 ((xss.length : Nat) : Int), .slice D1 k1 e1, .slice A1 n1 c1] (0, 0) _ rfl (by simpa using h3) Try.underlying29 rfl (by kernel_rfl) _ rfl
      · obtain ⟨m1, m2, m3, vs, m4, m5⟩ := o4
        have S3 : ∀ (W : World) (v0 v1 v2 : Value) (hi : Nat), Same w2.heap.size hi W (((W.setCell ⟨w.heap.size + 1, 0, none⟩ v0).setCell ⟨w.heap.size + 1, 1, none⟩ v1).setCell ⟨w.heap.size + 1, 2, none⟩ v2) := fun W v0 v1 v2 hi => ((same_set _ _ _ _ _ (.inl (by simp; omega))).trans (same_set _ _ _ _ _ (.inl (by simp; omega)))).trans (same_set _ _ _ _ _ (.inl (by simp; omega)))
        have k1e : k1 = offs xss N xss.length := by have := m3.lenI; have := hb2.out; omega
        have n1e : n1 = offs xss N xss.length := by have := o3.rs.len; have := hb1.out; omega
        exact ⟨_, _, _, _, _, _, _, _, _, M, _, rfl, Lib.hid hF.out.symm, ⟨by omega, by simp; omega, (m3.keep (S3 _ _ _ _ _)).more (by omega) (Nat.le_refl _), vs, (m4.keep (S3 _ _ _ _ _)).more (by omega) (by simp), (m5.keep ((S3 _ _ _ _ _).mono (by omega) (Nat.le_refl _))).more (Nat.le_refl _) (by simp)⟩, by omega, (((hB.trans (F4.mono (by omega))).setCell (by simp) _).setCell (by simp) _).setCell (by simp) _⟩
set_option maxHeartbeats 4000000 in
theorem s_FacePoset_any (w : World) (A : Option Addr) (n c : Nat) (xss : List (List Int)) {lo hi : Nat} (h : RS w lo hi A n xss) (hhi : hi ≤ w.heap.size) (hnc : n ≤ c) :
    Calls Try.prog 13 #[.agg #[.slice A n c]] w fun e' w' => ∃ (r1 : Int) (D1 : Option Addr) (k1 e1 : Nat) (ds : List Int) (A1 : Option Addr) (n1 c1 : Nat) (zss : List (List Int)) (code : Int), e' = .returned (.tuple #[.agg #[.int .i64 r1, .slice D1 k1 e1, .slice A1 n1 c1], .int .i64 code]) ∧ Hid ((r1, ds, zss, code) = fpT xss) ∧ ReadP w' w.heap.size w'.heap.size D1 k1 ds A1 n1 zss ∧ k1 + (n1 + numsIn zss) ≤ 1048576 ∧ Below w.heap.size w w' := by
  have hl := h.len
  have hm := h.max
  have hR := rs_alloc (rs_alloc h hhi (.cells #[.slice A n c] 38)) (by simp; omega) (.cells #[.int .i64 0, .slice none 0 0, .slice none 0 0] 29)
  have hB : Below w.heap.size w ((w.alloc (.cells #[.slice A n c] 38)).alloc (.cells #[.int .i64 0, .slice none 0 0, .slice none 0 0] 29)) := ((Below.refl _ _).alloc (Nat.le_refl _) _).alloc (by simp) _
  have c0 : ((w.alloc (.cells #[.slice A n c] 38)).alloc (.cells #[.int .i64 0, .slice none 0 0, .slice none 0 0] 29)).cell? ⟨w.heap.size, 0, none⟩ = some (.slice A n c) := (al_old _ _ _ _ (by simp)).trans (al_new _ _ _ _ rfl)
  have p1 : ((w.alloc (.cells #[.slice A n c] 38)).alloc (.cells #[.int .i64 0, .slice none 0 0, .slice none 0 0] 29)).heap[w.heap.size + 1]? = some (.cells #[.int .i64 0, .slice none 0 0, .slice none 0 0] 29 (0, 0)) := heap_new _ _ _ (by simp)
  replace p1 := Lib.hid p1
  cases hM : isManB xss with
  | false =>
    have hF := fpT_no hM
    replace hF := Lib.hid hF
    replace hM := Lib.hid hM
    replace hl := Lib.hid hl
    go_enter Try.func13, Try.ntmps13
    go_wp2_with fail
    obtain ⟨W1, hW⟩ : ∃ W1 : World, ((w.alloc (.cells #[.slice A n c] 38)).alloc (.cells #[.int .i64 0, .slice none 0 0, .slice none 0 0] 29)) = W1 := ⟨_, rfl⟩
    have hz1 : W1.heap.size = w.heap.size + 2 := by rw [← hW]; simp
    rw [hW] at hR hB c0 p1 ⊢
    clear hW h
    ((with_reducible refine (l02Is_any A n c xss _ hR (by omega)).mono ?_); rintro e2 w2 ⟨rfl, f2⟩)
    rw [hM.out]
    have y2 := f2.size
    have C2 := (f2.cell (p := ⟨w.heap.size, 0, none⟩) (by simp; omega)).trans c0
    have Q := (f2.block (w.heap.size + 1) (by omega)).trans p1.out
    have y0r : w2.cell? ⟨w.heap.size + 1, 0, none⟩ = some (.int .i64 0) := by rw [cell_of_row _ _ _ _ _ _ Q]; rfl
    have z0r : w2.frozen? ⟨w.heap.size + 1, 0, none⟩ = false := frozen_of_row _ _ _ _ _ Q
    have y1r : w2.cell? ⟨w.heap.size + 1, 1, none⟩ = some (.slice none 0 0) := by rw [cell_of_row _ _ _ _ _ _ Q]; rfl
    have z1r : w2.frozen? ⟨w.heap.size + 1, 1, none⟩ = false := frozen_of_row _ _ _ _ _ Q
    have y2r : w2.cell? ⟨w.heap.size + 1, 2, none⟩ = some (.slice none 0 0) := by rw [cell_of_row _ _ _ _ _ _ Q]; rfl
    have z2r : w2.frozen? ⟨w.heap.size + 1, 2, none⟩ = false := frozen_of_row _ _ _ _ _ Q
    replace Q := Lib.hid Q
    go_wp2_with fail
    (try simp only [Exit.inBlock, Exit.then])
    have h1 := heap_setCell_same _ _ 0 _ _ (Value.int .i64 0) Q.out
    have h2 := heap_setCell_same _ _ 1 _ _ (Value.slice none 0 0) h1
    have h3 := heap_setCell_same _ _ 2 _ _ (Value.slice none 0 0) h2
    refine bodyPost_ret (v := .tuple #[.agg #[.int .i64 0, .slice none 0 0, .slice none 0 0], .int .i64 1]) ?_ rfl ?_
    · exact results_cell_row2 rfl _ _ (w.heap.size + 1) 29 #[.int .i64 0, .slice none 0 0, .slice none 0 0] (0, 0) _ rfl (by simpa using h3) Try.underlying29 rfl (by kernel_rfl) _ rfl
    · exact ⟨_, _, _, _, [], _, _, _, [], _, rfl, Lib.hid hF.out.symm, ⟨RI.nil, RS.nil⟩, by simp [numsIn], (((hB.trans (f2.mono (by omega))).setCell (by simp) _).setCell (by simp) _).setCell (by simp) _⟩
  | true =>
    have hP := isManB_iff.1 hM
    have hn1 : 1 ≤ n := by have := hP.r1; omega
    have hn5 : n ≤ 5 := by have := hP.r5; omega
    have hf2 := hP.f2
    have hf4 := hP.f4
    have hS := hP.sys
    obtain ⟨N, hN⟩ : ∃ N, flg xss = N := ⟨_, rfl⟩
    rw [hN] at hf2 hf4 hS
    by_cases h5 : 500 < offs xss N xss.length
    · skip
      have hF := fpT_big hM (by rw [hN]; exact h5)
      skip
      have hb2 := rkL_length xss N xss.length
      replace hF := Lib.hid hF
      replace hM := Lib.hid hM
      replace hl := Lib.hid hl
      replace hP := Lib.hid hP
      replace hS := Lib.hid hS
      replace hb2 := Lib.hid hb2
      go_enter Try.func13, Try.ntmps13
      go_wp2_with fail
      obtain ⟨W1, hW⟩ : ∃ W1 : World, ((w.alloc (.cells #[.slice A n c] 38)).alloc (.cells #[.int .i64 0, .slice none 0 0, .slice none 0 0] 29)) = W1 := ⟨_, rfl⟩
      have hz1 : W1.heap.size = w.heap.size + 2 := by rw [← hW]; simp
      rw [hW] at hR hB c0 p1 ⊢
      clear hW h
      ((with_reducible refine (l02Is_any A n c xss _ hR (by omega)).mono ?_); rintro e2 w2 ⟨rfl, f2⟩)
      rw [hM.out]
      have y2 := f2.size
      have C2 := (f2.cell (p := ⟨w.heap.size, 0, none⟩) (by simp; omega)).trans c0
      go_wp2_with fail
      ((with_reducible refine (l03Poset_any A n c xss w2 (hR.below f2 (by omega)) (by omega) hn1 hn5 N hN (by omega) hf4 hS.out).mono ?_); rintro e3 w3 ⟨D1, k1, e1, A1, n1, c1, rfl, o3, f3⟩)
      rw [← hl.out] at o3
      obtain ⟨S, hS5⟩ : ∃ S, offs xss N xss.length = S := ⟨_, rfl⟩
      have hk1 : k1 = S := by have := o3.ri.len; have := hb2.out; omega
      subst hk1
      have hgt : decide ((k1 : Int) > 500) = true := by simp; omega
      replace hS5 := Lib.hid hS5
      have y3 := f3.size
      have fa : Below w3.heap.size w3 (w3.alloc (.cells #[.int .i64 (n : Int), .slice D1 k1 e1, .slice A1 n1 c1] 29)) := (Below.refl _ _).alloc (Nat.le_refl _) _
      have d0 : (w3.alloc (.cells #[.int .i64 (n : Int), .slice D1 k1 e1, .slice A1 n1 c1] 29)).cell? ⟨w3.heap.size, 0, none⟩ = some (.int .i64 (n : Int)) := by simp
      have d1 : (w3.alloc (.cells #[.int .i64 (n : Int), .slice D1 k1 e1, .slice A1 n1 c1] 29)).cell? ⟨w3.heap.size, 1, none⟩ = some (.slice D1 k1 e1) := by simp
      have d2 : (w3.alloc (.cells #[.int .i64 (n : Int), .slice D1 k1 e1, .slice A1 n1 c1] 29)).cell? ⟨w3.heap.size, 2, none⟩ = some (.slice A1 n1 c1) := by simp
      have o4 := o3.below fa (Nat.le_refl _)
      have F4 : Below W1.heap.size W1 (w3.alloc (.cells #[.int .i64 (n : Int), .slice D1 k1 e1, .slice A1 n1 c1] 29)) := below_then (below_then f2 f3 (by omega)) fa (by omega)
      have Q := (F4.block (w.heap.size + 1) (by omega)).trans p1.out
      have y0r : (w3.alloc (.cells #[.int .i64 (n : Int), .slice D1 k1 e1, .slice A1 n1 c1] 29)).cell? ⟨w.heap.size + 1, 0, none⟩ = some (.int .i64 0) := by rw [cell_of_row _ _ _ _ _ _ Q]; rfl
      have z0r : (w3.alloc (.cells #[.int .i64 (n : Int), .slice D1 k1 e1, .slice A1 n1 c1] 29)).frozen? ⟨w.heap.size + 1, 0, none⟩ = false := frozen_of_row _ _ _ _ _ Q
      have y1r : (w3.alloc (.cells #[.int .i64 (n : Int), .slice D1 k1 e1, .slice A1 n1 c1] 29)).cell? ⟨w.heap.size + 1, 1, none⟩ = some (.slice none 0 0) := by rw [cell_of_row _ _ _ _ _ _ Q]; rfl
      have z1r : (w3.alloc (.cells #[.int .i64 (n : Int), .slice D1 k1 e1, .slice A1 n1 c1] 29)).frozen? ⟨w.heap.size + 1, 1, none⟩ = false := frozen_of_row _ _ _ _ _ Q
      have y2r : (w3.alloc (.cells #[.int .i64 (n : Int), .slice D1 k1 e1, .slice A1 n1 c1] 29)).cell? ⟨w.heap.size + 1, 2, none⟩ = some (.slice none 0 0) := by rw [cell_of_row _ _ _ _ _ _ Q]; rfl
      have z2r : (w3.alloc (.cells #[.int .i64 (n : Int), .slice D1 k1 e1, .slice A1 n1 c1] 29)).frozen? ⟨w.heap.size + 1, 2, none⟩ = false := frozen_of_row _ _ _ _ _ Q
      replace Q := Lib.hid Q
      have y4 := fa.size
      go_wp2_with fail
      (try simp only [Exit.inBlock, Exit.then])
      have h1 := heap_setCell_same _ _ 0 _ _ (Value.int .i64 0) Q.out
      have h2 := heap_setCell_same _ _ 1 _ _ (Value.slice none 0 0) h1
      have h3 := heap_setCell_same _ _ 2 _ _ (Value.slice none 0 0) h2
      refine bodyPost_ret (v := .tuple #[.agg #[.int .i64 0, .slice none 0 0, .slice none 0 0], .int .i64 3]) ?_ rfl ?_
      · exact results_cell_row2 rfl _ _ (w.heap.size + 1) 29 #[.int .i64 0, .slice none 0 0, .slice none 0 0] (0, 0) _ rfl (by simpa using h3) Try.underlying29 rfl (by kernel_rfl) _ rfl
      · exact ⟨_, _, _, _, [], _, _, _, [], _, rfl, Lib.hid hF.out.symm, ⟨RI.nil, RS.nil⟩, by simp [numsIn], (((hB.trans (F4.mono (by omega))).setCell (by simp) _).setCell (by simp) _).setCell (by simp) _⟩
    · skip
      have hF := fpT_ok hM (by rw [hN]; exact h5)
      rw [hN] at hF
      have hnm := bels_nums (xss := xss) (N := N) (by omega)
      have hb1 := bels_length xss N
      have hb2 := rkL_length xss N xss.length
      replace hF := Lib.hid hF
      replace hM := Lib.hid hM
      replace hl := Lib.hid hl
      replace hP := Lib.hid hP
      replace hS := Lib.hid hS
      replace hb1 := Lib.hid hb1
      replace hb2 := Lib.hid hb2
      go_enter Try.func13, Try.ntmps13
      go_wp2_with fail
      obtain ⟨W1, hW⟩ : ∃ W1 : World, ((w.alloc (.cells #[.slice A n c] 38)).alloc (.cells #[.int .i64 0, .slice none 0 0, .slice none 0 0] 29)) = W1 := ⟨_, rfl⟩
      have hz1 : W1.heap.size = w.heap.size + 2 := by rw [← hW]; simp
      rw [hW] at hR hB c0 p1 ⊢
      clear hW h
      ((with_reducible refine (l02Is_any A n c xss _ hR (by omega)).mono ?_); rintro e2 w2 ⟨rfl, f2⟩)
      rw [hM.out]
      have y2 := f2.size
      have C2 := (f2.cell (p := ⟨w.heap.size, 0, none⟩) (by simp; omega)).trans c0
      go_wp2_with fail
      ((with_reducible refine (l03Poset_any A n c xss w2 (hR.below f2 (by omega)) (by omega) hn1 hn5 N hN (by omega) hf4 hS.out).mono ?_); rintro e3 w3 ⟨D1, k1, e1, A1, n1, c1, rfl, o3, f3⟩)
      rw [← hl.out] at o3
      obtain ⟨S, hS5⟩ : ∃ S, offs xss N xss.length = S := ⟨_, rfl⟩
      have hk1 : k1 = S := by have := o3.ri.len; have := hb2.out; omega
      subst hk1
      have hgt : decide ((k1 : Int) > 500) = false := by simp; omega
      replace hS5 := Lib.hid hS5
      have y3 := f3.size
      have fa : Below w3.heap.size w3 (w3.alloc (.cells #[.int .i64 (n : Int), .slice D1 k1 e1, .slice A1 n1 c1] 29)) := (Below.refl _ _).alloc (Nat.le_refl _) _
      have d0 : (w3.alloc (.cells #[.int .i64 (n : Int), .slice D1 k1 e1, .slice A1 n1 c1] 29)).cell? ⟨w3.heap.size, 0, none⟩ = some (.int .i64 (n : Int)) := by simp
      have d1 : (w3.alloc (.cells #[.int .i64 (n : Int), .slice D1 k1 e1, .slice A1 n1 c1] 29)).cell? ⟨w3.heap.size, 1, none⟩ = some (.slice D1 k1 e1) := by simp
      have d2 : (w3.alloc (.cells #[.int .i64 (n : Int), .slice D1 k1 e1, .slice A1 n1 c1] 29)).cell? ⟨w3.heap.size, 2, none⟩ = some (.slice A1 n1 c1) := by simp
      have o4 := o3.below fa (Nat.le_refl _)
      have F4 : Below W1.heap.size W1 (w3.alloc (.cells #[.int .i64 (n : Int), .slice D1 k1 e1, .slice A1 n1 c1] 29)) := below_then (below_then f2 f3 (by omega)) fa (by omega)
      have Q := (F4.block (w.heap.size + 1) (by omega)).trans p1.out
      have y0r : (w3.alloc (.cells #[.int .i64 (n : Int), .slice D1 k1 e1, .slice A1 n1 c1] 29)).cell? ⟨w.heap.size + 1, 0, none⟩ = some (.int .i64 0) := by rw [cell_of_row _ _ _ _ _ _ Q]; rfl
      have z0r : (w3.alloc (.cells #[.int .i64 (n : Int), .slice D1 k1 e1, .slice A1 n1 c1] 29)).frozen? ⟨w.heap.size + 1, 0, none⟩ = false := frozen_of_row _ _ _ _ _ Q
      have y1r : (w3.alloc (.cells #[.int .i64 (n : Int), .slice D1 k1 e1, .slice A1 n1 c1] 29)).cell? ⟨w.heap.size + 1, 1, none⟩ = some (.slice none 0 0) := by rw [cell_of_row _ _ _ _ _ _ Q]; rfl
      have z1r : (w3.alloc (.cells #[.int .i64 (n : Int), .slice D1 k1 e1, .slice A1 n1 c1] 29)).frozen? ⟨w.heap.size + 1, 1, none⟩ = false := frozen_of_row _ _ _ _ _ Q
      have y2r : (w3.alloc (.cells #[.int .i64 (n : Int), .slice D1 k1 e1, .slice A1 n1 c1] 29)).cell? ⟨w.heap.size + 1, 2, none⟩ = some (.slice none 0 0) := by rw [cell_of_row _ _ _ _ _ _ Q]; rfl
      have z2r : (w3.alloc (.cells #[.int .i64 (n : Int), .slice D1 k1 e1, .slice A1 n1 c1] 29)).frozen? ⟨w.heap.size + 1, 2, none⟩ = false := frozen_of_row _ _ _ _ _ Q
      replace Q := Lib.hid Q
      have y4 := fa.size
      go_wp2_with fail
      (try simp only [Exit.inBlock, Exit.then])
      have h1 := heap_setCell_same _ _ 0 _ _ (Value.int .i64 (n : Int)) Q.out
      have h2 := heap_setCell_same _ _ 1 _ _ (Value.slice D1 k1 e1) h1
      have h3 := heap_setCell_same _ _ 2 _ _ (Value.slice A1 n1 c1) h2
      refine bodyPost_ret (v := .tuple #[.agg #[.int .i64 (n : Int), .slice D1 k1 e1, .slice A1 n1 c1], .int .i64 0]) ?_ rfl ?_
      · exact results_cell_row2 rfl _ _ (w.heap.size + 1) 29 #[.int .i64 (n : Int), .slice D1 k1 e1, .slice A1 n1 c1] (0, 0) _ rfl (by simpa using h3) Try.underlying29 rfl (by kernel_rfl) _ rfl
      · have S3 : ∀ (W : World) (v0 v1 v2 : Value) (hi : Nat), Same w2.heap.size hi W (((W.setCell ⟨w.heap.size + 1, 0, none⟩ v0).setCell ⟨w.heap.size + 1, 1, none⟩ v1).setCell ⟨w.heap.size + 1, 2, none⟩ v2) := fun W v0 v1 v2 hi => ((same_set _ _ _ _ _ (.inl (by simp; omega))).trans (same_set _ _ _ _ _ (.inl (by simp; omega)))).trans (same_set _ _ _ _ _ (.inl (by simp; omega)))
        have n1e : n1 = k1 := by have := o3.rs.len; have := hb1.out; have := hS5.out; omega
        exact ⟨_, _, _, _, _, _, _, _, _, _, rfl, Lib.hid (by rw [hF.out, hl.out]), ⟨(o4.ri.keep (S3 _ _ _ _ _)).more (by omega) (by simp), (o4.rs.keep (S3 _ _ _ _ _)).more (by omega) (by simp)⟩, by have := hS5.out; omega, (((hB.trans (F4.mono (by omega))).setCell (by simp) _).setCell (by simp) _).setCell (by simp) _⟩
end Go.Proofs.Ytbioelmofceaaaa
/- LFacePoset -/
namespace Go.Proofs.Ytbioelmofceaaaa.fnExactFacePoset
open Go.ChangeShapes Go.WideShapes Go.ChangeAt Go.RowKit
open Go.ChangeMaps (open_string shut_string)
set_option linter.unusedVariables false
theorem own : ownKnob Try.prog.godebug = none := by kernel_rfl
theorem laidOut : laidOutB Try.prog = true := by kernel_rfl
set_option maxRecDepth 100000 in
set_option maxHeartbeats 8000000 in
theorem walk (a0 : Option Addr) (n0 c0 : Nat) (xss0 : List (List Int)) (w : World) (h0 : RS w 0 w.heap.size a0 n0 xss0) (b0 : ∀ xs ∈ xss0, ∀ x ∈ xs, I64 x) :
    Calls Try.prog 4 #[.agg #[.slice a0 n0 c0]] w fun e w' => e = .returned (.bool true) ∧ Below w.heap.size w w' := by
  have m0 := h0.max
  have hR := rs_alloc h0 (Nat.le_refl _) (.cells #[.slice a0 n0 c0] 34)
  have hC0 : (w.alloc (.cells #[.slice a0 n0 c0] 34)).cell? ⟨w.heap.size, 0, none⟩ = some (.slice a0 n0 c0) := by simp
  have hB : Below w.heap.size w (w.alloc (.cells #[.slice a0 n0 c0] 34)) := (Below.refl _ _).alloc (Nat.le_refl _) _
  by_cases s0 : n0 + numsIn xss0 ≤ 1048576
  · skip
    have z0 := leftOf_pos s0
    replace z0 := Lib.hid z0
    go_enter Try.func4, Try.ntmps4
    go_wp2_with fail
    obtain ⟨W1, hW⟩ : ∃ W1 : World, (w.alloc (.cells #[.slice a0 n0 c0] 34)) = W1 := ⟨_, rfl⟩
    have hz1 : W1.heap.size = w.heap.size + 1 := by rw [← hW]; simp
    rw [hW] at hR hC0 hB ⊢
    clear hW
    have B0 : Below W1.heap.size W1 W1 := Below.refl _ _
    ((with_reducible refine (szM0_any a0 n0 c0 xss0 _ hR (by omega)).mono ?_); rintro e w1 ⟨rfl, f1⟩)
    rw [z0.out]
    have y1 := f1.size
    have B1 : Below W1.heap.size W1 w1 := below_then B0 f1 (by omega)
    clear B0
    have C0 := (B1.cell (p := ⟨w.heap.size, 0, none⟩) (by simp; omega)).trans hC0
    go_wp2_with fail
    ((with_reducible refine (toM_any a0 n0 c0 xss0 _ (hR.below B1 (by omega)) (by omega) (by omega)).mono ?_); rintro e w2 ⟨T2, rfl, t2, f2⟩)
    have y2 := f2.size
    have B2 : Below W1.heap.size W1 w2 := below_then B1 f2 (by omega)
    clear B1
    clear C0
    go_wp2_with fail
    ((with_reducible refine (s_FacePoset_any _ T2 n0 n0 xss0 t2.rs (by omega) (Nat.le_refl _)).mono ?_); rintro e w3 ⟨p0r, p0D, p0k, p0e, p0d, p0A, p0n, p0c, p0, p1, rfl, Hp, op0, lp0, f3⟩)
    have y3 := f3.size
    have B3 : Below W1.heap.size W1 w3 := below_then B2 f3 (by omega)
    have t2 := t2.below f3 (by omega)
    clear B2
    have f4 : Below w3.heap.size w3 (w3.alloc (.cells #[.int .i64 p0r, .slice p0D p0k p0e, .slice p0A p0n p0c] 29)) := (Below.refl _ _).alloc (Nat.le_refl _) _
    have Z4 : (w3.alloc (.cells #[.int .i64 p0r, .slice p0D p0k p0e, .slice p0A p0n p0c] 29)).heap.size = w3.heap.size + 1 := by simp
    have D4_0 : (w3.alloc (.cells #[.int .i64 p0r, .slice p0D p0k p0e, .slice p0A p0n p0c] 29)).cell? ⟨w3.heap.size, 0, none⟩ = some (.int .i64 p0r) := by simp
    have D4_1 : (w3.alloc (.cells #[.int .i64 p0r, .slice p0D p0k p0e, .slice p0A p0n p0c] 29)).cell? ⟨w3.heap.size, 1, none⟩ = some (.slice p0D p0k p0e) := by simp
    have D4_2 : (w3.alloc (.cells #[.int .i64 p0r, .slice p0D p0k p0e, .slice p0A p0n p0c] 29)).cell? ⟨w3.heap.size, 2, none⟩ = some (.slice p0A p0n p0c) := by simp
    have t2 := t2.below f4 (by omega)
    have op0 := op0.below f4 (by omega)
    have X0 := (f4.cell (p := ⟨w.heap.size, 0, none⟩) (by simp; omega)).trans ((B3.cell (p := ⟨w.heap.size, 0, none⟩) (by simp; omega)).trans hC0)
    go_wp2_with fail
    obtain ⟨w4, hq4⟩ : ∃ w4 : World, (w3.alloc (.cells #[.int .i64 p0r, .slice p0D p0k p0e, .slice p0A p0n p0c] 29)) = w4 := ⟨_, rfl⟩
    rw [hq4] at f4 Z4 D4_0 D4_1 D4_2 t2 op0 X0 ⊢
    clear hq4
    have y4 := f4.size
    have B4 : Below W1.heap.size W1 w4 := below_then B3 f4 (by omega)
    clear B3 X0
    clear t2
    have C0 := (B4.cell (p := ⟨w.heap.size, 0, none⟩) (by simp; omega)).trans hC0
    go_wp2_with fail
    ((with_reducible refine (toM_any a0 n0 c0 xss0 _ (hR.below B4 (by omega)) (by omega) (by omega)).mono ?_); rintro e w5 ⟨T5, rfl, t5, f5⟩)
    have y5 := f5.size
    have B5 : Below W1.heap.size W1 w5 := below_then B4 f5 (by omega)
    have op0 := op0.below f5 (by omega)
    have D4_0 := (f5.cell (p := ⟨w3.heap.size, 0, none⟩) (by simp; omega)).trans D4_0
    have D4_1 := (f5.cell (p := ⟨w3.heap.size, 1, none⟩) (by simp; omega)).trans D4_1
    have D4_2 := (f5.cell (p := ⟨w3.heap.size, 2, none⟩) (by simp; omega)).trans D4_2
    clear B4
    clear C0
    have f6 : Below w5.heap.size w5 (w5.alloc (.cells #[.slice T5 n0 n0] 38)) := (Below.refl _ _).alloc (Nat.le_refl _) _
    have Z6 : (w5.alloc (.cells #[.slice T5 n0 n0] 38)).heap.size = w5.heap.size + 1 := by simp
    have D6_0 : (w5.alloc (.cells #[.slice T5 n0 n0] 38)).cell? ⟨w5.heap.size, 0, none⟩ = some (.slice T5 n0 n0) := by simp
    have op0 := op0.below f6 (by omega)
    have D4_0 := (f6.cell (p := ⟨w3.heap.size, 0, none⟩) (by simp; omega)).trans D4_0
    have D4_1 := (f6.cell (p := ⟨w3.heap.size, 1, none⟩) (by simp; omega)).trans D4_1
    have D4_2 := (f6.cell (p := ⟨w3.heap.size, 2, none⟩) (by simp; omega)).trans D4_2
    have t5 := t5.below f6 (by omega)
    have X0 := (f6.cell (p := ⟨w.heap.size, 0, none⟩) (by simp; omega)).trans ((B5.cell (p := ⟨w.heap.size, 0, none⟩) (by simp; omega)).trans hC0)
    go_wp2_with fail
    obtain ⟨w6, hq6⟩ : ∃ w6 : World, (w5.alloc (.cells #[.slice T5 n0 n0] 38)) = w6 := ⟨_, rfl⟩
    rw [hq6] at f6 Z6 D6_0 op0 D4_0 D4_1 D4_2 t5 X0 ⊢
    clear hq6
    have y6 := f6.size
    have B6 : Below W1.heap.size W1 w6 := below_then B5 f6 (by omega)
    clear B5 X0
    go_wp2_with fail
    ((with_reducible refine (i_FacePoset_any _ T5 n0 n0 xss0 t5.rs (by omega) (Nat.le_refl _)).mono ?_); rintro e w7 ⟨q0r, q0D, q0k, q0e, q0d, q0A, q0n, q0c, q0, Mq0, q1, rfl, Hq, oq0, lq0, f7⟩)
    have y7 := f7.size
    have B7 : Below W1.heap.size W1 w7 := below_then B6 f7 (by omega)
    have op0 := op0.below f7 (by omega)
    have D4_0 := (f7.cell (p := ⟨w3.heap.size, 0, none⟩) (by simp; omega)).trans D4_0
    have D4_1 := (f7.cell (p := ⟨w3.heap.size, 1, none⟩) (by simp; omega)).trans D4_1
    have D4_2 := (f7.cell (p := ⟨w3.heap.size, 2, none⟩) (by simp; omega)).trans D4_2
    have t5 := t5.below f7 (by omega)
    have D6_0 := (f7.cell (p := ⟨w5.heap.size, 0, none⟩) (by simp; omega)).trans D6_0
    clear B6
    have f8 : Below w7.heap.size w7 (w7.alloc (.cells #[.int .i64 q0r, .slice q0D q0k q0e, .slice q0A q0n q0c] 29)) := (Below.refl _ _).alloc (Nat.le_refl _) _
    have Z8 : (w7.alloc (.cells #[.int .i64 q0r, .slice q0D q0k q0e, .slice q0A q0n q0c] 29)).heap.size = w7.heap.size + 1 := by simp
    have D8_0 : (w7.alloc (.cells #[.int .i64 q0r, .slice q0D q0k q0e, .slice q0A q0n q0c] 29)).cell? ⟨w7.heap.size, 0, none⟩ = some (.int .i64 q0r) := by simp
    have D8_1 : (w7.alloc (.cells #[.int .i64 q0r, .slice q0D q0k q0e, .slice q0A q0n q0c] 29)).cell? ⟨w7.heap.size, 1, none⟩ = some (.slice q0D q0k q0e) := by simp
    have D8_2 : (w7.alloc (.cells #[.int .i64 q0r, .slice q0D q0k q0e, .slice q0A q0n q0c] 29)).cell? ⟨w7.heap.size, 2, none⟩ = some (.slice q0A q0n q0c) := by simp
    have op0 := op0.below f8 (by omega)
    have D4_0 := (f8.cell (p := ⟨w3.heap.size, 0, none⟩) (by simp; omega)).trans D4_0
    have D4_1 := (f8.cell (p := ⟨w3.heap.size, 1, none⟩) (by simp; omega)).trans D4_1
    have D4_2 := (f8.cell (p := ⟨w3.heap.size, 2, none⟩) (by simp; omega)).trans D4_2
    have t5 := t5.below f8 (by omega)
    have D6_0 := (f8.cell (p := ⟨w5.heap.size, 0, none⟩) (by simp; omega)).trans D6_0
    have oq0 := oq0.below f8 (by omega)
    have X0 := (f8.cell (p := ⟨w.heap.size, 0, none⟩) (by simp; omega)).trans ((B7.cell (p := ⟨w.heap.size, 0, none⟩) (by simp; omega)).trans hC0)
    go_wp2_with fail
    obtain ⟨w8, hq8⟩ : ∃ w8 : World, (w7.alloc (.cells #[.int .i64 q0r, .slice q0D q0k q0e, .slice q0A q0n q0c] 29)) = w8 := ⟨_, rfl⟩
    rw [hq8] at f8 Z8 D8_0 D8_1 D8_2 op0 D4_0 D4_1 D4_2 t5 D6_0 oq0 X0 ⊢
    clear hq8
    have y8 := f8.size
    have B8 : Below W1.heap.size W1 w8 := below_then B7 f8 (by omega)
    clear B7 X0
    obtain ⟨rfl, rfl, rfl, rfl⟩ : p0r = q0r ∧ p0d = q0d ∧ p0 = q0 ∧ p1 = q1 := by have e := Hp.out.trans Hq.out.symm; simpa [and_assoc] using e
    clear Hq
    go_wp2_with fail
    ((with_reducible refine (eqP_any _ _ _ _ _ _ _ _ _ _ _ _ _ _ _ _ _ _ _ oq0.ri oq0.rs op0.ri op0.rs (by omega) (by omega) (by omega) (by omega)).mono ?_); rintro e w9 ⟨rfl, f9⟩)
    have y9 := f9.size
    have B9 : Below W1.heap.size W1 w9 := below_then B8 f9 (by omega)
    have op0 := op0.below f9 (by omega)
    have D4_0 := (f9.cell (p := ⟨w3.heap.size, 0, none⟩) (by simp; omega)).trans D4_0
    have D4_1 := (f9.cell (p := ⟨w3.heap.size, 1, none⟩) (by simp; omega)).trans D4_1
    have D4_2 := (f9.cell (p := ⟨w3.heap.size, 2, none⟩) (by simp; omega)).trans D4_2
    have t5 := t5.below f9 (by omega)
    have D6_0 := (f9.cell (p := ⟨w5.heap.size, 0, none⟩) (by simp; omega)).trans D6_0
    have oq0 := oq0.below f9 (by omega)
    have D8_0 := (f9.cell (p := ⟨w7.heap.size, 0, none⟩) (by simp; omega)).trans D8_0
    have D8_1 := (f9.cell (p := ⟨w7.heap.size, 1, none⟩) (by simp; omega)).trans D8_1
    have D8_2 := (f9.cell (p := ⟨w7.heap.size, 2, none⟩) (by simp; omega)).trans D8_2
    clear B8
    have C0 := (B9.cell (p := ⟨w.heap.size, 0, none⟩) (by simp; omega)).trans hC0
    have Bd := below_drew B9
    have hT := toM_any a0 n0 c0 xss0 w9.drew (rs_drew (hR.below B9 (by omega))) (show _ ≤ w9.heap.size by omega) (by omega)
    have rd := rs_drew t5.rs
    go_wp2_with fail
    go_region_with (first
      | (go_at_call 14; refine hT.mono ?_; rintro e w10 ⟨T10, rfl, t10, f10⟩; have GD6_0 := (f10.cell (p := ⟨w5.heap.size, 0, none⟩) (by simp; omega)).trans D6_0; have y10 : w9.heap.size ≤ w10.heap.size := f10.size; have qe := eqM_any T5 n0 n0 xss0 T10 n0 n0 xss0 w10 (rd.below f10 (show _ ≤ w9.heap.size by omega)) t10.rs (by omega) (Nat.le_refl _))
      | (go_at_call 16; refine qe.mono ?_; rintro e w11 ⟨rfl, f11⟩))
    all_goals
      clear qe hT rd GD6_0
      have f10 : Below w9.heap.size w9 w10 := ⟨f10.os, f10.tape, f10.output, f10.size, f10.block⟩
      clear y10 Bd
      have y10 := f10.size
      have B10 : Below W1.heap.size W1 w10 := below_then B9 f10 (by omega)
      have op0 := op0.below f10 (by omega)
      have D4_0 := (f10.cell (p := ⟨w3.heap.size, 0, none⟩) (by simp; omega)).trans D4_0
      have D4_1 := (f10.cell (p := ⟨w3.heap.size, 1, none⟩) (by simp; omega)).trans D4_1
      have D4_2 := (f10.cell (p := ⟨w3.heap.size, 2, none⟩) (by simp; omega)).trans D4_2
      have t5 := t5.below f10 (by omega)
      have D6_0 := (f10.cell (p := ⟨w5.heap.size, 0, none⟩) (by simp; omega)).trans D6_0
      have oq0 := oq0.below f10 (by omega)
      have D8_0 := (f10.cell (p := ⟨w7.heap.size, 0, none⟩) (by simp; omega)).trans D8_0
      have D8_1 := (f10.cell (p := ⟨w7.heap.size, 1, none⟩) (by simp; omega)).trans D8_1
      have D8_2 := (f10.cell (p := ⟨w7.heap.size, 2, none⟩) (by simp; omega)).trans D8_2
      clear B9
      have y11 := f11.size
      have B11 : Below W1.heap.size W1 w11 := below_then B10 f11 (by omega)
      have op0 := op0.below f11 (by omega)
      have D4_0 := (f11.cell (p := ⟨w3.heap.size, 0, none⟩) (by simp; omega)).trans D4_0
      have D4_1 := (f11.cell (p := ⟨w3.heap.size, 1, none⟩) (by simp; omega)).trans D4_1
      have D4_2 := (f11.cell (p := ⟨w3.heap.size, 2, none⟩) (by simp; omega)).trans D4_2
      have t5 := t5.below f11 (by omega)
      have D6_0 := (f11.cell (p := ⟨w5.heap.size, 0, none⟩) (by simp; omega)).trans D6_0
      have oq0 := oq0.below f11 (by omega)
      have D8_0 := (f11.cell (p := ⟨w7.heap.size, 0, none⟩) (by simp; omega)).trans D8_0
      have D8_1 := (f11.cell (p := ⟨w7.heap.size, 1, none⟩) (by simp; omega)).trans D8_1
      have D8_2 := (f11.cell (p := ⟨w7.heap.size, 2, none⟩) (by simp; omega)).trans D8_2
      clear B10
      clear C0
      go_wp2_with fail
      ((with_reducible refine (markM_any _ _ _ _ _ _ _ _ t5 (by omega) (by omega) (by omega)).mono ?_); rintro e w12 ⟨rfl, t5, f12⟩)
      have y12 := f12.size
      have B12 : Below W1.heap.size W1 w12 := B11.trans (f12.below (by omega) (by omega))
      have op0 := op0.keep (Same.of_chg f12 (by omega) (by omega))
      have D4_0 := (World.cell?_of_block (w := w11) (a := ⟨w3.heap.size, 0, none⟩) (f12.block _ (by first | omega | (simp; done) | (simp; omega)) (by first | omega | (simp; done) | (simp; omega)))).trans D4_0
      have D4_1 := (World.cell?_of_block (w := w11) (a := ⟨w3.heap.size, 1, none⟩) (f12.block _ (by first | omega | (simp; done) | (simp; omega)) (by first | omega | (simp; done) | (simp; omega)))).trans D4_1
      have D4_2 := (World.cell?_of_block (w := w11) (a := ⟨w3.heap.size, 2, none⟩) (f12.block _ (by first | omega | (simp; done) | (simp; omega)) (by first | omega | (simp; done) | (simp; omega)))).trans D4_2
      have D6_0 := (World.cell?_of_block (w := w11) (a := ⟨w5.heap.size, 0, none⟩) (f12.block _ (by first | omega | (simp; done) | (simp; omega)) (by first | omega | (simp; done) | (simp; omega)))).trans D6_0
      have oq0 := oq0.keep (Same.of_chg f12 (by omega) (by omega))
      have D8_0 := (World.cell?_of_block (w := w11) (a := ⟨w7.heap.size, 0, none⟩) (f12.block _ (by first | omega | (simp; done) | (simp; omega)) (by first | omega | (simp; done) | (simp; omega)))).trans D8_0
      have D8_1 := (World.cell?_of_block (w := w11) (a := ⟨w7.heap.size, 1, none⟩) (f12.block _ (by first | omega | (simp; done) | (simp; omega)) (by first | omega | (simp; done) | (simp; omega)))).trans D8_1
      have D8_2 := (World.cell?_of_block (w := w11) (a := ⟨w7.heap.size, 2, none⟩) (f12.block _ (by first | omega | (simp; done) | (simp; omega)) (by first | omega | (simp; done) | (simp; omega)))).trans D8_2
      clear B11
      go_wp2_with fail
      ((with_reducible refine (eqP_any _ _ _ _ _ _ _ _ _ _ _ _ _ _ _ _ _ _ _ oq0.ri oq0.rs op0.ri op0.rs (by omega) (by omega) (by omega) (by omega)).mono ?_); rintro e w13 ⟨rfl, f13⟩)
      have y13 := f13.size
      have B13 : Below W1.heap.size W1 w13 := below_then B12 f13 (by omega)
      have op0 := op0.below f13 (by omega)
      have D4_0 := (f13.cell (p := ⟨w3.heap.size, 0, none⟩) (by simp; omega)).trans D4_0
      have D4_1 := (f13.cell (p := ⟨w3.heap.size, 1, none⟩) (by simp; omega)).trans D4_1
      have D4_2 := (f13.cell (p := ⟨w3.heap.size, 2, none⟩) (by simp; omega)).trans D4_2
      have t5 := t5.below f13 (by omega)
      have D6_0 := (f13.cell (p := ⟨w5.heap.size, 0, none⟩) (by simp; omega)).trans D6_0
      have oq0 := oq0.below f13 (by omega)
      have D8_0 := (f13.cell (p := ⟨w7.heap.size, 0, none⟩) (by simp; omega)).trans D8_0
      have D8_1 := (f13.cell (p := ⟨w7.heap.size, 1, none⟩) (by simp; omega)).trans D8_1
      have D8_2 := (f13.cell (p := ⟨w7.heap.size, 2, none⟩) (by simp; omega)).trans D8_2
      clear B12
      go_wp2_with fail
      ((with_reducible refine (markP_any _ _ _ _ _ _ _ _ _ _ _ _ _ _ oq0 (by omega) (by omega) (by omega)).mono ?_); rintro e w14 ⟨rfl, oq0, f14⟩)
      have y14 := f14.size
      have B14 : Below W1.heap.size W1 w14 := B13.trans (f14.below (by omega) (by omega))
      have op0 := op0.keep (Same.of_chg f14 (by omega) (by omega))
      have D4_0 := (World.cell?_of_block (w := w13) (a := ⟨w3.heap.size, 0, none⟩) (f14.block _ (by first | omega | (simp; done) | (simp; omega)) (by first | omega | (simp; done) | (simp; omega)))).trans D4_0
      have D4_1 := (World.cell?_of_block (w := w13) (a := ⟨w3.heap.size, 1, none⟩) (f14.block _ (by first | omega | (simp; done) | (simp; omega)) (by first | omega | (simp; done) | (simp; omega)))).trans D4_1
      have D4_2 := (World.cell?_of_block (w := w13) (a := ⟨w3.heap.size, 2, none⟩) (f14.block _ (by first | omega | (simp; done) | (simp; omega)) (by first | omega | (simp; done) | (simp; omega)))).trans D4_2
      have t5 := t5.keep (Same.of_chg f14 (by omega) (by omega))
      have D6_0 := (World.cell?_of_block (w := w13) (a := ⟨w5.heap.size, 0, none⟩) (f14.block _ (by first | omega | (simp; done) | (simp; omega)) (by first | omega | (simp; done) | (simp; omega)))).trans D6_0
      have D8_0 := (World.cell?_of_block (w := w13) (a := ⟨w7.heap.size, 0, none⟩) (f14.block _ (by first | omega | (simp; done) | (simp; omega)) (by first | omega | (simp; done) | (simp; omega)))).trans D8_0
      have D8_1 := (World.cell?_of_block (w := w13) (a := ⟨w7.heap.size, 1, none⟩) (f14.block _ (by first | omega | (simp; done) | (simp; omega)) (by first | omega | (simp; done) | (simp; omega)))).trans D8_1
      have D8_2 := (World.cell?_of_block (w := w13) (a := ⟨w7.heap.size, 2, none⟩) (f14.block _ (by first | omega | (simp; done) | (simp; omega)) (by first | omega | (simp; done) | (simp; omega)))).trans D8_2
      clear B13
      go_wp2_with fail
      ((with_reducible refine (heldP_any _ _ _ _ _ _ _ _ _ _ oq0.ri oq0.rs (by omega) (by omega) (by omega) (by omega)).mono ?_); rintro e w15 ⟨rfl, f15⟩)
      have y15 := f15.size
      have B15 : Below W1.heap.size W1 w15 := below_then B14 f15 (by omega)
      have op0 := op0.below f15 (by omega)
      have D4_0 := (f15.cell (p := ⟨w3.heap.size, 0, none⟩) (by simp; omega)).trans D4_0
      have D4_1 := (f15.cell (p := ⟨w3.heap.size, 1, none⟩) (by simp; omega)).trans D4_1
      have D4_2 := (f15.cell (p := ⟨w3.heap.size, 2, none⟩) (by simp; omega)).trans D4_2
      have t5 := t5.below f15 (by omega)
      have D6_0 := (f15.cell (p := ⟨w5.heap.size, 0, none⟩) (by simp; omega)).trans D6_0
      have oq0 := oq0.below f15 (by omega)
      have D8_0 := (f15.cell (p := ⟨w7.heap.size, 0, none⟩) (by simp; omega)).trans D8_0
      have D8_1 := (f15.cell (p := ⟨w7.heap.size, 1, none⟩) (by simp; omega)).trans D8_1
      have D8_2 := (f15.cell (p := ⟨w7.heap.size, 2, none⟩) (by simp; omega)).trans D8_2
      clear B14
      clear t5 D6_0
      have C0 := (B15.cell (p := ⟨w.heap.size, 0, none⟩) (by simp; omega)).trans hC0
      go_wp2_with fail
      ((with_reducible refine (toM_any a0 n0 c0 xss0 _ (hR.below B15 (by omega)) (by omega) (by omega)).mono ?_); rintro e w16 ⟨T16, rfl, t16, f16⟩)
      have y16 := f16.size
      have B16 : Below W1.heap.size W1 w16 := below_then B15 f16 (by omega)
      have op0 := op0.below f16 (by omega)
      have D4_0 := (f16.cell (p := ⟨w3.heap.size, 0, none⟩) (by simp; omega)).trans D4_0
      have D4_1 := (f16.cell (p := ⟨w3.heap.size, 1, none⟩) (by simp; omega)).trans D4_1
      have D4_2 := (f16.cell (p := ⟨w3.heap.size, 2, none⟩) (by simp; omega)).trans D4_2
      have oq0 := oq0.below f16 (by omega)
      have D8_0 := (f16.cell (p := ⟨w7.heap.size, 0, none⟩) (by simp; omega)).trans D8_0
      have D8_1 := (f16.cell (p := ⟨w7.heap.size, 1, none⟩) (by simp; omega)).trans D8_1
      have D8_2 := (f16.cell (p := ⟨w7.heap.size, 2, none⟩) (by simp; omega)).trans D8_2
      clear B15
      clear C0
      go_wp2_with fail
      ((with_reducible refine (i_FacePoset_any _ T16 n0 n0 xss0 t16.rs (by omega) (Nat.le_refl _)).mono ?_); rintro e w17 ⟨h0r, h0D, h0k, h0e, h0d, h0A, h0n, h0c, h0, Mh0, h1, rfl, Hh, oh0, lh0, f17⟩)
      have y17 := f17.size
      have B17 : Below W1.heap.size W1 w17 := below_then B16 f17 (by omega)
      have op0 := op0.below f17 (by omega)
      have D4_0 := (f17.cell (p := ⟨w3.heap.size, 0, none⟩) (by simp; omega)).trans D4_0
      have D4_1 := (f17.cell (p := ⟨w3.heap.size, 1, none⟩) (by simp; omega)).trans D4_1
      have D4_2 := (f17.cell (p := ⟨w3.heap.size, 2, none⟩) (by simp; omega)).trans D4_2
      have oq0 := oq0.below f17 (by omega)
      have D8_0 := (f17.cell (p := ⟨w7.heap.size, 0, none⟩) (by simp; omega)).trans D8_0
      have D8_1 := (f17.cell (p := ⟨w7.heap.size, 1, none⟩) (by simp; omega)).trans D8_1
      have D8_2 := (f17.cell (p := ⟨w7.heap.size, 2, none⟩) (by simp; omega)).trans D8_2
      have t16 := t16.below f17 (by omega)
      clear B16
      have f18 : Below w17.heap.size w17 (w17.alloc (.cells #[.int .i64 h0r, .slice h0D h0k h0e, .slice h0A h0n h0c] 29)) := (Below.refl _ _).alloc (Nat.le_refl _) _
      have Z18 : (w17.alloc (.cells #[.int .i64 h0r, .slice h0D h0k h0e, .slice h0A h0n h0c] 29)).heap.size = w17.heap.size + 1 := by simp
      have D18_0 : (w17.alloc (.cells #[.int .i64 h0r, .slice h0D h0k h0e, .slice h0A h0n h0c] 29)).cell? ⟨w17.heap.size, 0, none⟩ = some (.int .i64 h0r) := by simp
      have D18_1 : (w17.alloc (.cells #[.int .i64 h0r, .slice h0D h0k h0e, .slice h0A h0n h0c] 29)).cell? ⟨w17.heap.size, 1, none⟩ = some (.slice h0D h0k h0e) := by simp
      have D18_2 : (w17.alloc (.cells #[.int .i64 h0r, .slice h0D h0k h0e, .slice h0A h0n h0c] 29)).cell? ⟨w17.heap.size, 2, none⟩ = some (.slice h0A h0n h0c) := by simp
      have op0 := op0.below f18 (by omega)
      have D4_0 := (f18.cell (p := ⟨w3.heap.size, 0, none⟩) (by simp; omega)).trans D4_0
      have D4_1 := (f18.cell (p := ⟨w3.heap.size, 1, none⟩) (by simp; omega)).trans D4_1
      have D4_2 := (f18.cell (p := ⟨w3.heap.size, 2, none⟩) (by simp; omega)).trans D4_2
      have oq0 := oq0.below f18 (by omega)
      have D8_0 := (f18.cell (p := ⟨w7.heap.size, 0, none⟩) (by simp; omega)).trans D8_0
      have D8_1 := (f18.cell (p := ⟨w7.heap.size, 1, none⟩) (by simp; omega)).trans D8_1
      have D8_2 := (f18.cell (p := ⟨w7.heap.size, 2, none⟩) (by simp; omega)).trans D8_2
      have t16 := t16.below f18 (by omega)
      have oh0 := oh0.below f18 (by omega)
      have X0 := (f18.cell (p := ⟨w.heap.size, 0, none⟩) (by simp; omega)).trans ((B17.cell (p := ⟨w.heap.size, 0, none⟩) (by simp; omega)).trans hC0)
      go_wp2_with fail
      obtain ⟨w18, hq18⟩ : ∃ w18 : World, (w17.alloc (.cells #[.int .i64 h0r, .slice h0D h0k h0e, .slice h0A h0n h0c] 29)) = w18 := ⟨_, rfl⟩
      rw [hq18] at f18 Z18 D18_0 D18_1 D18_2 op0 D4_0 D4_1 D4_2 oq0 D8_0 D8_1 D8_2 t16 oh0 X0 ⊢
      clear hq18
      have y18 := f18.size
      have B18 : Below W1.heap.size W1 w18 := below_then B17 f18 (by omega)
      clear B17 X0
      obtain ⟨rfl, rfl, rfl, rfl⟩ : p0r = h0r ∧ p0d = h0d ∧ p0 = h0 ∧ p1 = h1 := by have e := Hp.out.trans Hh.out.symm; simpa [and_assoc] using e
      clear Hh
      clear t16
      go_wp2_with fail
      ((with_reducible refine (eqP_any _ _ _ _ _ _ _ _ _ _ _ _ _ _ _ _ _ _ _ oh0.ri oh0.rs op0.ri op0.rs (by omega) (by omega) (by omega) (by omega)).mono ?_); rintro e w19 ⟨rfl, f19⟩)
      have y19 := f19.size
      have B19 : Below W1.heap.size W1 w19 := below_then B18 f19 (by omega)
      have op0 := op0.below f19 (by omega)
      have D4_0 := (f19.cell (p := ⟨w3.heap.size, 0, none⟩) (by simp; omega)).trans D4_0
      have D4_1 := (f19.cell (p := ⟨w3.heap.size, 1, none⟩) (by simp; omega)).trans D4_1
      have D4_2 := (f19.cell (p := ⟨w3.heap.size, 2, none⟩) (by simp; omega)).trans D4_2
      have oq0 := oq0.below f19 (by omega)
      have D8_0 := (f19.cell (p := ⟨w7.heap.size, 0, none⟩) (by simp; omega)).trans D8_0
      have D8_1 := (f19.cell (p := ⟨w7.heap.size, 1, none⟩) (by simp; omega)).trans D8_1
      have D8_2 := (f19.cell (p := ⟨w7.heap.size, 2, none⟩) (by simp; omega)).trans D8_2
      have oh0 := oh0.below f19 (by omega)
      have D18_0 := (f19.cell (p := ⟨w17.heap.size, 0, none⟩) (by simp; omega)).trans D18_0
      have D18_1 := (f19.cell (p := ⟨w17.heap.size, 1, none⟩) (by simp; omega)).trans D18_1
      have D18_2 := (f19.cell (p := ⟨w17.heap.size, 2, none⟩) (by simp; omega)).trans D18_2
      clear B18
      go_wp2_with fail
      ((with_reducible refine (heldP_any _ _ _ _ _ _ _ _ _ _ oq0.ri oq0.rs (by omega) (by omega) (by omega) (by omega)).mono ?_); rintro e w20 ⟨rfl, f20⟩)
      have y20 := f20.size
      have B20 : Below W1.heap.size W1 w20 := below_then B19 f20 (by omega)
      have op0 := op0.below f20 (by omega)
      have D4_0 := (f20.cell (p := ⟨w3.heap.size, 0, none⟩) (by simp; omega)).trans D4_0
      have D4_1 := (f20.cell (p := ⟨w3.heap.size, 1, none⟩) (by simp; omega)).trans D4_1
      have D4_2 := (f20.cell (p := ⟨w3.heap.size, 2, none⟩) (by simp; omega)).trans D4_2
      have oq0 := oq0.below f20 (by omega)
      have D8_0 := (f20.cell (p := ⟨w7.heap.size, 0, none⟩) (by simp; omega)).trans D8_0
      have D8_1 := (f20.cell (p := ⟨w7.heap.size, 1, none⟩) (by simp; omega)).trans D8_1
      have D8_2 := (f20.cell (p := ⟨w7.heap.size, 2, none⟩) (by simp; omega)).trans D8_2
      have oh0 := oh0.below f20 (by omega)
      have D18_0 := (f20.cell (p := ⟨w17.heap.size, 0, none⟩) (by simp; omega)).trans D18_0
      have D18_1 := (f20.cell (p := ⟨w17.heap.size, 1, none⟩) (by simp; omega)).trans D18_1
      have D18_2 := (f20.cell (p := ⟨w17.heap.size, 2, none⟩) (by simp; omega)).trans D18_2
      clear B19
      go_wp2_with fail
      go_ret
      exact ⟨rfl, hB.trans (B20.mono (by omega))⟩
  · have z0 := leftOf_neg s0
    replace z0 := Lib.hid z0
    go_enter Try.func4, Try.ntmps4
    go_wp2_with fail
    ((with_reducible refine (szM0_any a0 n0 c0 xss0 _ hR (by simp)).mono ?_); rintro e w2 ⟨rfl, f2⟩)
    rw [z0.out]
    go_wp2_with fail
    go_ret
    exact ⟨rfl, hB.trans (f2.mono (by simp))⟩
set_option maxRecDepth 100000 in
theorem lifted (os : Os) (started : os.Started) (H : Type) (enc : TypeId × Value → H) :
    ReturnsInHanded {} Try.checked os 4 .any (Rows.fnExactFacePosetSpec.pre6 enc Try.prog Try.f4 Rows.fnExactFacePosetRow.domain false) (Rows.fnExactFacePosetSpec.post enc Try.prog Try.f4 false true false false) := by
  refine returnsInHanded_of_change (C := Try.checked) own started (by kernel_rfl) Try.func4
    (ChangeSpec.witness6 (enc := enc) (C := Try.checked) false ⟨#[], #[.agg #[.slice none 0 0]], []⟩ 8 (by kernel_rfl) (by kernel_rfl) (by kernel_rfl) (by kernel_rfl)) ?_
  intro W base args ds gs before hval0 hW hcnd _
  have hval : ∀ (j : Nat) t v, Try.f4.params[j]? = some t → args[j]? = some v → Value.okWide Try.prog W .any base t v := hval0
  have hW' := hW
  obtain ⟨p, q, hA0, hV, rfl, hfz, hnd⟩ := hW
  have hA : DataW.TrodAll enc Try.prog W 0 (fun _ => true) true Try.f4.params.toList args.toList ds p := hA0
  rw [Try.params4] at hA hval
  obtain ⟨v0, vs0, dd0, ds0, p0, q0, hargs, rfl, rfl, h0, rr0⟩ := trodAll_cons hA
  obtain ⟨rfl, rfl, rfl⟩ := trodAll_nil rr0
  obtain rfl : args = #[v0] := by cases args; simp_all
  obtain ⟨rfl, rfl⟩ := trodVars_none hV
  have kk0 := h0
  have lt0 : ∀ x ∈ p0, x.block < W.heap.size := by obtain ⟨m, hm⟩ := kk0; exact DataW.trod_lt m _ _ _ hm
  obtain ⟨a0, n0, c0, xss0, rfl, w0, b0⟩ := open_RM Try.underlying34 (by kernel_rfl) (by kernel_rfl) rfl Try.underlying23 Try.underlying22 Try.underlying2 (by kernel_rfl) (by kernel_rfl) (hval 0 34 v0 rfl rfl) h0
  clear hA0 hval0
  refine (walk a0 n0 c0 xss0 W w0 b0).mono fun e W' ⟨he, bel⟩ => ?_
  subst he
  exact ⟨_, rfl, _, _, _, [], _, [], hW', trodAll_mk1 (shut_bool Try.underlying4 _), (trodAll_cons_mk (Below.trod laidOut (by kernel_rfl) (of_decide_eq_true (by kernel_rfl)) kk0 bel lt0) trodAll_mk0), rfl, bel.frame _, fun h => by cases h⟩
theorem over : Rows.fnExactFacePosetRow.holds Try.pinned (OpenSpec.ofChange Rows.fnExactFacePosetSpec) :=
  OpenClaim.holds_of_wide 4 Try.f4 rfl rfl rfl rfl rfl rfl rfl ⟨rfl, rfl, rfl, rfl, rfl⟩ rfl rfl rfl rfl rfl (by kernel_rfl) Try.func4 (by kernel_rfl)
    (of_decide_eq_true (by kernel_rfl)) (by unfold Func.isWrapper; first | (rw [if_pos (by decide +kernel)]; kernel_rfl) | (rw [if_neg (by decide +kernel)]; exact ⟨rfl, rfl⟩))
    (fun os started H enc _ => lifted os started H enc)
/-- THE STATEMENT -/
theorem proved : Rows.FnExactFacePosetSaid := over
end Go.Proofs.Ytbioelmofceaaaa.fnExactFacePoset
