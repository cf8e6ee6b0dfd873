/- A list of maniplexes without those that are equal to the one ahead of them (for slices.CompactFunc). Plain. No condition. -/
import Derived.Test.YtbioelmofceaaaaSrtF
namespace Go.Proofs.Ytbioelmofceaaaa
set_option linter.unusedVariables false
abbrev VF := Value × List (List Int)
/-- the first j, without those that are equal to the one ahead of them -/
def dnF (ps : List VF) : Nat → List VF
  | 0 => []
  | j + 1 => if 0 < j ∧ (ps[j]?).map (·.2) = (ps[j - 1]?).map (·.2) then dnF ps j else dnF ps j ++ (ps[j]?).toList
theorem dnF_mem {ps : List VF} : ∀ {j : Nat} {q : VF}, q ∈ dnF ps j → q ∈ ps
  | 0, q, h => by simp [dnF] at h
  | j + 1, q, h => by
    unfold dnF at h
    split at h
    · exact dnF_mem h
    · rcases List.mem_append.1 h with h | h
      · exact dnF_mem h
      · exact List.mem_of_getElem? (Option.mem_toList.1 h)
theorem dnF_len (ps : List VF) : ∀ j, (dnF ps j).length ≤ j
  | 0 => by simp [dnF]
  | j + 1 => by
    have := dnF_len ps j
    unfold dnF
    split
    · omega
    · rw [List.length_append]
      have : (ps[j]?).toList.length ≤ 1 := by cases ps[j]? <;> simp
      omega
theorem dnF_sub {ps : List VF} {j : Nat} {q : VF} (h : q ∈ dnF ps j) : q ∈ dnF ps (j + 1) := by
  unfold dnF
  split
  · exact h
  · exact List.mem_append_left _ h
theorem dnF_all {ps : List VF} : ∀ {j i : Nat} {p : VF}, i < j → ps[i]? = some p → ∃ q ∈ dnF ps j, q.2 = p.2
  | j + 1, i, p, hi, hp => by
    by_cases e : i < j
    · obtain ⟨q, h1, h2⟩ := dnF_all e hp
      exact ⟨q, dnF_sub h1, h2⟩
    · obtain rfl : i = j := by omega
      by_cases c : 0 < i ∧ (ps[i]?).map (·.2) = (ps[i - 1]?).map (·.2)
      · have hl := (List.getElem?_eq_some_iff.1 hp).1
        have hp' : ps[i - 1]? = some ps[i - 1] := List.getElem?_eq_getElem (by omega)
        obtain ⟨q, h1, h2⟩ := dnF_all (show i - 1 < i by omega) hp'
        refine ⟨q, dnF_sub h1, h2.trans ?_⟩
        have := c.2
        rw [hp, hp'] at this
        simpa using this.symm
      · refine ⟨p, ?_, rfl⟩
        unfold dnF
        rw [if_neg c, hp]
        simp
theorem dnF_same {ps : List VF} {x : List (List Int)} (h : ∀ p ∈ ps, p.2 = x) : ∀ {j : Nat}, 0 < j → j ≤ ps.length → (dnF ps j).length = 1
  | 1, _, hl => by
    unfold dnF
    rw [if_neg (fun c => absurd c.1 (Nat.lt_irrefl 0))]
    have : ps[0]? = some ps[0] := List.getElem?_eq_getElem (by omega)
    rw [this]
    simp [dnF]
  | j + 2, _, hl => by
    unfold dnF
    have h1 : ps[j + 1]? = some ps[j + 1] := List.getElem?_eq_getElem (by omega)
    have h2 : ps[j]? = some ps[j] := List.getElem?_eq_getElem (by omega)
    rw [if_pos ⟨by omega, by rw [Nat.add_sub_cancel, h1, h2]; simp [h _ (List.getElem_mem _)]⟩]
    exact dnF_same h (by omega) (by omega)
/-- nothing is equal to the one ahead of it: all are there -/
theorem dnF_full {ps : List VF} : ∀ {k : Nat}, k ≤ ps.length → (∀ j, 0 < j → j < k → (ps[j]?).map (·.2) ≠ (ps[j - 1]?).map (·.2)) → dnF ps k = ps.take k
  | 0, _, _ => by simp [dnF]
  | k + 1, hl, h => by
    unfold dnF
    rw [if_neg (fun c => h k c.1 (by omega) c.2), dnF_full (by omega) (fun j a b => h j a (by omega)), List.take_add_one]
theorem dnF_one {ps : List VF} (h0 : 0 < ps.length) : (dnF ps ps.length).length = 1 ↔ ∀ p ∈ ps, ∀ q ∈ ps, p.2 = q.2 := by
  constructor
  · intro h1 p hp q hq
    obtain ⟨z, hz⟩ := List.length_eq_one_iff.1 h1
    obtain ⟨i, hi, ei⟩ := List.mem_iff_getElem.1 hp
    obtain ⟨j, hj, ej⟩ := List.mem_iff_getElem.1 hq
    obtain ⟨a, a1, a2⟩ := dnF_all (ps := ps) hi (List.getElem?_eq_getElem hi)
    obtain ⟨b, b1, b2⟩ := dnF_all (ps := ps) hj (List.getElem?_eq_getElem hj)
    rw [hz, List.mem_singleton] at a1 b1
    subst a1; subst b1
    rw [← ei, ← ej, ← a2, ← b2]
  · intro h
    exact dnF_same (x := ps[0].2) (fun p hp => h p hp _ (List.getElem_mem _)) h0 (Nat.le_refl _)
end Go.Proofs.Ytbioelmofceaaaa
