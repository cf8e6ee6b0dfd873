/- Plain: maniplexes. No program in sight. No condition. -/
import Derived.Test.YtebdfhkimnlglaaDoorOrbO
namespace Go.Proofs.YtebdfhkimnlglaaDoor
set_option linter.unusedVariables false
set_option maxRecDepth 100000
open Classical
/-- the number of flags -/
def flg (xss : List (List Int)) : Nat := (xss.getD 0 []).length
/-- a free involution of as many points as there are flags -/
def mvB (n : Nat) (p : List Int) : Bool := isPermB p && freeB p && decide (p.length = n)
/-- two moves at a flag -/
def comB (a b : List Int) (f : Nat) : Bool := decide (a.getD f 0 ≠ b.getD f 0) && decide (b.getD (a.getD f 0).toNat 0 = a.getD (b.getD f 0).toNat 0)
/-- two moves -/
def parB (n : Nat) (a b : List Int) : Bool := (List.range n).all (comB a b)
structure ManP (xss : List (List Int)) : Prop where
  r1 : 1 ≤ xss.length
  r5 : xss.length ≤ 5
  f2 : 2 ≤ flg xss
  f4 : flg xss ≤ 400
  mv : ∀ p ∈ xss, mvB (flg xss) p = true
  com : ∀ i k a b, i + 2 ≤ k → xss[i]? = some a → xss[k]? = some b → parB (flg xss) a b = true
  con : cntR xss (flg xss) = 1
noncomputable def isManB (xss : List (List Int)) : Bool := decide (ManP xss)
theorem isManB_iff {xss : List (List Int)} : isManB xss = true ↔ ManP xss := by unfold isManB; simp
theorem isManB_false {xss : List (List Int)} (h : ¬ ManP xss) : isManB xss = false := by unfold isManB; simp [h]
theorem mvB_iff {n : Nat} {p : List Int} : mvB n p = true ↔ isPermP p ∧ freeB p = true ∧ p.length = n := by
  unfold mvB
  simp [isPermB_iff, and_assoc]
theorem sysOf_mv {xss : List (List Int)} {n : Nat} (h : ∀ p ∈ xss, mvB n p = true) : SysOf xss n := by
  intro p hp
  obtain ⟨h1, _, h3⟩ := mvB_iff.1 (h p hp)
  refine ⟨fun x hx => ?_, h1.nd, h3⟩
  have := h1.rng x hx
  rw [h3] at this
  exact this
theorem ManP.sys {xss : List (List Int)} (h : ManP xss) : SysOf xss (flg xss) := sysOf_mv h.mv
theorem rootB_zero (list : List (List Int)) : rootB list 0 = true := by rw [root_iff]; rintro ⟨j, hj, _⟩; omega
/-- one orbit, exactly if the orbit of point 0 has all -/
theorem conn_iff {list : List (List Int)} {n : Nat} (hs : SysOf list n) (hn : 1 ≤ n) : cntR list n = 1 ↔ (bfs list n 0).length = n := by
  have hm := bfs_met hs (show (0 : Int) ≤ (0 : Int) by omega) (show (0 : Int) < n by omega)
  have hmem : ∀ z : Int, z ∈ bfs list n 0 ↔ Rch list 0 z := fun z => bfs_mem hs (by omega) (by omega)
  have hz1 : cntR list 1 = 1 := by
    have := cntR_succ list 0
    rw [if_pos (rootB_zero list)] at this
    simpa [cntR] using this
  constructor
  · intro h
    have hall : ∀ x : Nat, x < n → Rch list ((0 : Nat) : Int) x := by
      intro x hx
      have hr := rootB_rootOf hs hx
      have hle := rootOf_le list x
      have h0 : rootOf list x = 0 := by
        by_cases h0 : rootOf list x = 0
        · exact h0
        · have h1 := cntR_mono list (show 1 ≤ rootOf list x by omega)
          have h2 := cntR_mono list (show rootOf list x + 1 ≤ n by omega)
          rw [cntR_succ, if_pos hr] at h2
          omega
      have := (rootOf_spec list x).1
      rwa [h0] at this
    have h1 := nodup_sub_len ((List.range n).map Int.ofNat) (bfs list n 0) (by
      rw [List.nodup_iff_pairwise_ne, List.pairwise_map]
      refine List.pairwise_lt_range.imp ?_
      intro a b h e
      have e : (a : Int) = b := e
      have : a < b := h
      omega) (fun a ha => by
      obtain ⟨g1, g2⟩ := mem_ints.1 ha
      have := hall a.toNat (by omega)
      rw [Int.toNat_of_nonneg g1] at this
      exact (hmem a).2 this)
    have := hm.len
    simp at h1
    omega
  · intro h
    have hall : ∀ x : Nat, x < n → Rch list ((0 : Nat) : Int) x := by
      intro x hx
      refine (hmem x).1 (mem_of_full hm.nd (fun a ha => mem_ints.2 (hm.rng a ha)) (by simp [h]) (mem_ints.2 ⟨by omega, by omega⟩))
    have key : ∀ i : Nat, 1 ≤ i → i ≤ n → cntR list i = 1 := by
      intro i h1 h2
      induction i with
      | zero => omega
      | succ i ih =>
        by_cases e : i = 0
        · subst e; exact hz1
        · rw [cntR_succ, ih (by omega) (by omega), if_neg]
          intro hr
          exact root_iff.1 hr ⟨0, by omega, hall i (by omega)⟩
    exact key n hn (Nat.le_refl _)
theorem all_range_succ {f : Nat → Bool} {k : Nat} (h : (List.range k).all f = true) (hk : f k = true) : (List.range (k + 1)).all f = true := by
  rw [List.range_succ, List.all_append, h]; simp [hk]
/-- what is checked of the pairs before the i-th move, and with the i-th before the k-th -/
def PairsTo (xss : List (List Int)) (i k : Nat) : Prop := ∀ i' k' a b, (i' < i ∨ (i' = i ∧ k' < k)) → i' + 2 ≤ k' → xss[i']? = some a → xss[k']? = some b → parB (flg xss) a b = true
theorem PairsTo.zero (xss : List (List Int)) : PairsTo xss 0 2 := by
  intro i' k' a b h1 h2
  omega
theorem PairsTo.step {xss : List (List Int)} {i k : Nat} {a b : List Int} (h : PairsTo xss i k) (ha : xss[i]? = some a) (hb : xss[k]? = some b) (hp : parB (flg xss) a b = true) : PairsTo xss i (k + 1) := by
  intro i' k' a' b' h1 h2 h3 h4
  by_cases e : i' = i ∧ k' = k
  · obtain ⟨rfl, rfl⟩ := e
    rw [ha] at h3; rw [hb] at h4
    injection h3 with h3; injection h4 with h4
    subst h3; subst h4
    exact hp
  · exact h i' k' a' b' (by omega) h2 h3 h4
theorem PairsTo.next {xss : List (List Int)} {i k : Nat} (h : PairsTo xss i k) (hk : xss.length ≤ k) : PairsTo xss (i + 1) (i + 3) := by
  intro i' k' a' b' h1 h2 h3 h4
  have := (List.getElem?_eq_some_iff.1 h4).1
  exact h i' k' a' b' (by omega) h2 h3 h4
theorem PairsTo.done {xss : List (List Int)} {i k : Nat} (h : PairsTo xss i k) (hi : xss.length ≤ i) : ∀ i k a b, i + 2 ≤ k → xss[i]? = some a → xss[k]? = some b → parB (flg xss) a b = true := by
  intro i' k' a' b' h2 h3 h4
  have := (List.getElem?_eq_some_iff.1 h3).1
  exact h i' k' a' b' (by omega) h2 h3 h4
theorem isManB_all {xss : List (List Int)} (h1 : 1 ≤ xss.length) (h5 : xss.length ≤ 5) (f2 : 2 ≤ flg xss) (f4 : flg xss ≤ 400) (mv : ∀ p ∈ xss, mvB (flg xss) p = true)
    (com : ∀ i k a b, i + 2 ≤ k → xss[i]? = some a → xss[k]? = some b → parB (flg xss) a b = true) : isManB xss = decide (cntR xss (flg xss) = 1) ∧ isManB xss = decide ((bfs xss (flg xss) 0).length = flg xss) := by
  have h := conn_iff (sysOf_mv mv) (show 1 ≤ flg xss by omega)
  have e : isManB xss = decide (cntR xss (flg xss) = 1) := by
    by_cases hc : cntR xss (flg xss) = 1
    · rw [isManB_iff.2 ⟨h1, h5, f2, f4, mv, com, hc⟩, decide_eq_true hc]
    · rw [isManB_false (fun hh => hc hh.con), decide_eq_false hc]
  refine ⟨e, ?_⟩
  rw [e]
  by_cases hc : cntR xss (flg xss) = 1
  · rw [decide_eq_true hc, decide_eq_true (h.1 hc)]
  · rw [decide_eq_false hc, decide_eq_false (fun hh => hc (h.2 hh))]
theorem isManB_mv {xss : List (List Int)} {p : List Int} (hp : p ∈ xss) (h : mvB (flg xss) p = false) : isManB xss = false :=
  isManB_false fun hh => by have := hh.mv p hp; rw [h] at this; cases this
theorem isManB_com {xss : List (List Int)} {i k f : Nat} {a b : List Int} (hik : i + 2 ≤ k) (ha : xss[i]? = some a) (hb : xss[k]? = some b) (hf : f < flg xss) (h : comB a b f = false) : isManB xss = false :=
  isManB_false fun hh => by
    have := List.all_eq_true.1 (hh.com i k a b hik ha hb) f (by simpa using hf)
    rw [h] at this
    cases this
end Go.Proofs.YtebdfhkimnlglaaDoor
