/- Plain: the type of a maniplex: the halves of the numbers of points of orbits, each once, in ascending order. No program in sight. No condition. -/
import Derived.Test.YtbioelmofceaaaaCntP
import Derived.Test.YtbioelmofceaaaaOrdP
import Derived.Test.YtbioelmofceaaaaOrbO
import Derived.Test.YtbioelmofceaaaaSub
import Derived.Lib.SlicesCompact
namespace Go.Proofs.Ytbioelmofceaaaa
set_option linter.unusedVariables false
set_option maxRecDepth 100000
/-- how often each of the numbers below c stands in the list -/
def hist (l : List Int) (c : Nat) : List Int := (List.range c).map fun (j : Nat) => (l.count (j : Int) : Int)
theorem hist_length (l : List Int) (c : Nat) : (hist l c).length = c := by simp [hist]
theorem hist_get {l : List Int} {c j : Nat} (h : j < c) : (hist l c)[j]? = some (l.count (j : Int) : Int) := by simp [hist, h]
theorem hist_nil (c : Nat) : hist [] c = List.replicate c 0 := by
  apply List.ext_getElem?
  intro j
  by_cases h : j < c
  · rw [hist_get h]; simp [h]
  · rw [List.getElem?_eq_none (by rw [hist_length]; omega), List.getElem?_eq_none (by simp; omega)]
theorem hist_snoc {l : List Int} {c : Nat} {v : Int} (h0 : 0 ≤ v) (h1 : v < c) : hist (l ++ [v]) c = (hist l c).set v.toNat ((l.count v : Int) + 1) := by
  apply List.ext_getElem?
  intro j
  by_cases h : j < c
  · rw [hist_get h, List.getElem?_set, hist_length]
    by_cases e : v.toNat = j
    · rw [if_pos e, if_pos (by omega)]
      have : (j : Int) = v := by omega
      rw [this]
      simp
    · rw [if_neg e, hist_get h]
      have : ¬ v = (j : Int) := by omega
      simp [this]
  · rw [List.getElem?_eq_none (by rw [hist_length]; omega), List.getElem?_eq_none (by rw [List.length_set, hist_length]; omega)]
theorem hist_le (l : List Int) (c : Nat) : ∀ x ∈ hist l c, 0 ≤ x ∧ x ≤ l.length := by
  intro x hx
  obtain ⟨j, _, rfl⟩ := List.mem_map.1 hx
  have := List.count_le_length (a := (j : Int)) (l := l)
  omega
/-- each number once, in the order of their first places -/
def nub (l : List Int) : List Int := l.foldl (fun o p => if p ∈ o then o else o ++ [p]) []
theorem nub_snoc (l : List Int) (x : Int) : nub (l ++ [x]) = if x ∈ nub l then nub l else nub l ++ [x] := by unfold nub; rw [List.foldl_append]; rfl
theorem nub_mem (l : List Int) : ∀ x, x ∈ nub l ↔ x ∈ l := by
  refine list_rev (P := fun l => ∀ x, x ∈ nub l ↔ x ∈ l) (by simp [nub]) (fun t y ih x => ?_) l
  rw [nub_snoc]
  split
  · next h =>
    rw [ih, List.mem_append, List.mem_singleton]
    constructor
    · exact .inl
    · rintro (h1 | rfl)
      · exact h1
      · exact (ih x).1 h
  · rw [List.mem_append, List.mem_append, ih]
theorem nub_nodup (l : List Int) : (nub l).Nodup := by
  refine list_rev (P := fun l => (nub l).Nodup) (by simp [nub]) (fun t y ih => ?_) l
  rw [nub_snoc]
  split
  · exact ih
  · next h =>
    rw [List.nodup_append]
    refine ⟨ih, by simp, fun a ha b hb => ?_⟩
    simp at hb
    subst hb
    intro e
    subst e
    exact h ha
theorem nub_length (l : List Int) : (nub l).length ≤ l.length := by
  refine list_rev (P := fun l => (nub l).length ≤ l.length) (by simp [nub]) (fun t y ih => ?_) l
  rw [nub_snoc]
  split <;> simp <;> omega
/-- the set of the numbers in ascending order -/
def setL (l : List Int) : List Int := sortL (nub l)
theorem setL_mem (l : List Int) (x : Int) : x ∈ setL l ↔ x ∈ l := ((sortL_perm (nub l)).mem_iff).trans (nub_mem l x)
theorem lt_of_sorted_nodup {l : List Int} (h : Sorted l) (hn : l.Nodup) : l.Pairwise (· < ·) := by
  unfold Sorted at h
  unfold List.Nodup at hn
  exact h.imp₂ (fun a b h1 h2 => by omega) hn
theorem setL_lt (l : List Int) : (setL l).Pairwise (· < ·) := lt_of_sorted_nodup (sortL_sorted _) ((sortL_perm _).nodup_iff.2 (nub_nodup l))
theorem strict_unique {xs ys : List Int} (h1 : xs.Pairwise (· < ·)) (h2 : ys.Pairwise (· < ·)) (h : ∀ x, x ∈ xs ↔ x ∈ ys) : xs = ys := by
  have n1 : xs.Nodup := h1.imp (by intro a b h; omega)
  have n2 : ys.Nodup := h2.imp (by intro a b h; omega)
  exact sorted_unique ((List.perm_ext_iff_of_nodup n1 n2).2 h) (h1.imp (by intro a b h; omega)) (h2.imp (by intro a b h; omega))
theorem setL_unique {ys l : List Int} (h : ys.Pairwise (· < ·)) (hm : ∀ x, x ∈ ys ↔ x ∈ l) : ys = setL l := strict_unique h (setL_lt l) (fun x => (hm x).trans (setL_mem l x).symm)
theorem setL_congr {l l' : List Int} (h : ∀ x, x ∈ l ↔ x ∈ l') : setL l = setL l' := setL_unique (setL_lt l) (fun x => (setL_mem l x).trans (h x))
theorem setL_length (l : List Int) : (setL l).length ≤ l.length := by unfold setL; rw [sortL_length]; exact nub_length l
/-- of a sorted list the neighbours that differ -/
theorem compactUpTo_spec {d : Array Int} (hd : Sorted d.toList) : ∀ m, m ≤ d.size → (Lib.compactUpTo d m).Pairwise (· < ·) ∧ (∀ x, x ∈ Lib.compactUpTo d m ↔ x ∈ d.toList.take m) := by
  intro m
  induction m with
  | zero => intro _; simp [Lib.compactUpTo]
  | succ m ih =>
    intro hm
    obtain ⟨i1, i2⟩ := ih (by omega)
    have hget : d[m]! = d[m] := getElem!_pos d m (by omega)
    have htk : d.toList.take (m + 1) = d.toList.take m ++ [d[m]!] := by
      rw [hget]
      exact take_succ_of (by simp)
    have hle : ∀ x ∈ d.toList.take m, x ≤ d[m]! := by
      intro x hx
      obtain ⟨j, hj, e⟩ := List.mem_iff_getElem.1 hx
      have hjm : j < m := by simp at hj; omega
      have := List.pairwise_iff_getElem.1 hd j m (by simp; omega) (by simp; omega) hjm
      rw [hget]
      simp at e this
      omega
    rw [Lib.compactUpTo_succ, htk]
    by_cases hk : Lib.keeps d m = true
    · rw [if_pos hk]
      refine ⟨?_, fun x => by rw [List.mem_append, List.mem_append, i2]⟩
      rw [List.pairwise_append]
      refine ⟨i1, by simp, fun a ha b hb => ?_⟩
      simp at hb
      subst hb
      have h1 := (i2 a).1 ha
      have h2 := hle a h1
      unfold Lib.keeps at hk
      have hk := of_decide_eq_true hk
      rcases hk with h0 | hne
      · subst h0; simp at h1
      · have h3 : a ≤ d[m - 1]! := by
          obtain ⟨j, hj, e⟩ := List.mem_iff_getElem.1 h1
          have hjm : j < m := by simp at hj; omega
          rw [getElem!_pos d (m - 1) (by omega)]
          by_cases e1 : j = m - 1
          · subst e1; simp at e; omega
          · have := List.pairwise_iff_getElem.1 hd j (m - 1) (by simp; omega) (by simp; omega) (by omega)
            simp at e this
            omega
        have h4 : d[m - 1]! ≤ d[m]! := by
          by_cases h0 : m = 0
          · subst h0; simp at h1
          · refine hle _ ?_
            rw [getElem!_pos d (m - 1) (by omega)]
            refine List.mem_iff_getElem.2 ⟨m - 1, by simp; omega, by simp⟩
        omega
    · rw [if_neg hk, List.append_nil]
      refine ⟨i1, fun x => ?_⟩
      rw [i2, List.mem_append]
      constructor
      · exact .inl
      · rintro (h | h)
        · exact h
        · simp at h
          subst h
          unfold Lib.keeps at hk
          have hk : ¬ (m = 0 ∨ d[m]! ≠ d[m - 1]!) := fun h => hk (decide_eq_true h)
          have h0 : m ≠ 0 := fun h => hk (.inl h)
          have h1 : d[m]! = d[m - 1]! := Classical.byContradiction fun h => hk (.inr h)
          rw [h1, getElem!_pos d (m - 1) (by omega)]
          exact List.mem_iff_getElem.2 ⟨m - 1, by simp; omega, by simp⟩
theorem compact_sorted {zs : List Int} (h : Sorted zs) : Lib.compact zs = setL zs := by
  obtain ⟨h1, h2⟩ := compactUpTo_spec (d := zs.toArray) (by simpa using h) zs.length (by simp)
  refine setL_unique h1 (fun x => ?_)
  have := h2 x
  simpa [Lib.compact] using this
theorem compact_sortL (zs : List Int) : Lib.compact (sortL zs) = setL zs := by
  rw [compact_sorted (sortL_sorted zs)]
  exact setL_congr fun x => (sortL_perm zs).mem_iff
/-- half of each -/
def halves (l : List Int) : List Int := l.map fun s => Int.tdiv s 2
/-- the halves of the numbers of points of the orbits -/
def typI (list : List (List Int)) (n : Nat) : List Int := setL ((List.range n).map fun (f : Nat) => Int.tdiv ((bfs list n (f : Int)).length : Int) 2)
theorem plcCount {xs : List Int} {x : Int} : ∀ k, k ≤ xs.length → (plc xs x k).length = (xs.take k).count x := by
  intro k hk
  induction k with
  | zero => simp [plc]
  | succ k ih =>
    have hg : xs[k]? = some xs[k] := List.getElem?_eq_getElem (by omega)
    rw [take_succ_of hg, List.count_append, plc_succ, List.length_append, ih (by omega), getD_some hg]
    congr 1
    by_cases e : x = xs[k]
    · rw [if_pos e, ← e]; simp
    · rw [if_neg e]
      have e2 : ¬ xs[k] = x := fun h => e h.symm
      simp [e2]
theorem lab_onto {list : List (List Int)} : ∀ n j : Nat, j < cntR list n → ∃ x : Nat, x < n ∧ labOf list x = (j : Int) := by
  intro n
  induction n with
  | zero => intro j hj; simp [cntR] at hj
  | succ n ih =>
    intro j hj
    rw [cntR_succ] at hj
    by_cases hr : rootB list n = true
    · rw [if_pos hr] at hj
      by_cases e : j = cntR list n
      · have hroot : rootOf list n = n := rootOf_eq Rch.refl (fun j hj hh => root_iff.1 hr ⟨j, hj, hh⟩)
        refine ⟨n, by omega, ?_⟩
        unfold labOf
        rw [hroot, e]
      · obtain ⟨x, h1, h2⟩ := ih j (by omega)
        exact ⟨x, by omega, h2⟩
    · rw [if_neg hr, Nat.add_zero] at hj
      obtain ⟨x, h1, h2⟩ := ih j hj
      exact ⟨x, by omega, h2⟩
theorem typI_eq {list : List (List Int)} {n : Nat} (hs : SysOf list n) : setL (halves (hist (labL list n) (cntR list n))) = typI list n := by
  have hcount : ∀ x : Nat, x < n → ((labL list n).count (labOf list x) : Int) = ((bfs list n (x : Int)).length : Int) := by
    intro x hx
    have h1 := places_eq hs hx
    have h2 := plcCount (xs := labL list n) (x := labOf list x) n (by rw [labL_length]; exact Nat.le_refl _)
    rw [List.take_of_length_le (by rw [labL_length]; exact Nat.le_refl _)] at h2
    rw [← h2, h1, sortL_length]
  unfold typI
  refine setL_congr fun v => ?_
  unfold halves
  simp only [List.mem_map]
  constructor
  · rintro ⟨s, hs1, rfl⟩
    obtain ⟨j, hj, rfl⟩ := List.mem_map.1 hs1
    have hj := List.mem_range.1 hj
    obtain ⟨x, hx, e⟩ := lab_onto n j hj
    exact ⟨x, List.mem_range.2 hx, by rw [← hcount x hx, e]⟩
  · rintro ⟨x, hx, rfl⟩
    have hx := List.mem_range.1 hx
    have hl := lab_lt hs hx
    have h0 := labOf_nonneg list x
    refine ⟨((labL list n).count (labOf list x) : Int), ?_, by rw [hcount x hx]⟩
    refine List.mem_map.2 ⟨(labOf list x).toNat, List.mem_range.2 (by omega), by rw [Int.toNat_of_nonneg h0]⟩
theorem typI_ne {list : List (List Int)} {n : Nat} (hn : 0 < n) : ∃ x, (typI list n)[0]? = some x := by
  have h : ∃ y, y ∈ typI list n := ⟨_, (setL_mem _ _).2 (List.mem_map.2 ⟨0, List.mem_range.2 hn, rfl⟩)⟩
  obtain ⟨y, hy⟩ := h
  cases e : typI list n with
  | nil => rw [e] at hy; simp at hy
  | cons a l => exact ⟨a, rfl⟩
theorem typI_length (list : List (List Int)) (n : Nat) : (typI list n).length ≤ n := by
  have := setL_length ((List.range n).map fun (f : Nat) => Int.tdiv ((bfs list n (f : Int)).length : Int) 2)
  rw [List.length_map, List.length_range] at this
  exact this
/-- the type -/
def typL (xss : List (List Int)) (n : Nat) : List (List Int) := (List.range (xss.length - 1)).map fun i => typI (subL xss i (i + 2)) n
theorem typL_length (xss : List (List Int)) (n : Nat) : (typL xss n).length = xss.length - 1 := by simp [typL]
theorem typL_get {xss : List (List Int)} {n k : Nat} (h : k < xss.length - 1) : (typL xss n)[k]? = some (typI (subL xss k (k + 2)) n) := by simp [typL, h]
end Go.Proofs.Ytbioelmofceaaaa
