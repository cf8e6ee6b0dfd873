/- The law FnOrbits in plain Lean: labels of orbits in order of their first places. -/
import Derived.Test.YtbioelmofceaaaaOrbO
import Derived.Test.YtbioelmofceaaaaWord
namespace Go.Proofs.Ytbioelmofceaaaa
set_option linter.unusedVariables false
theorem labOf_le {list : List (List Int)} {n p : Nat} (hs : SysOf list n) (hp : p < n) : labOf list p ≤ cntR list p ∧ (labOf list p = cntR list p ↔ rootB list p = true) := by
  have hr := rootB_rootOf hs hp
  have hle := rootOf_le list p
  unfold labOf
  rcases Nat.lt_or_ge (rootOf list p) p with h | h
  · have := cntR_lt hr h
    refine ⟨by omega, ⟨fun e => by omega, fun e => ?_⟩⟩
    exfalso
    have h1 := (rootOf_spec list p).1
    rw [root_iff] at e
    exact e ⟨_, h, h1⟩
  · have e : rootOf list p = p := by omega
    rw [e] at hr ⊢
    exact ⟨by omega, fun _ => hr, fun _ => rfl⟩
/-- the step of the count, where the label is the count and where it is not -/
theorem lab_step {list : List (List Int)} {n p : Nat} (hs : SysOf list n) (hp : p < n) : (labOf list p = cntR list p ∧ cntR list (p + 1) = cntR list p + 1) ∨ (labOf list p < cntR list p ∧ cntR list (p + 1) = cntR list p) := by
  obtain ⟨h1, h2⟩ := labOf_le hs hp
  have h3 := cntR_succ list p
  by_cases e : labOf list p = cntR list p
  · left
    rw [if_pos (h2.1 e)] at h3
    exact ⟨e, h3⟩
  · right
    rw [if_neg (fun g => e (h2.2 g))] at h3
    exact ⟨by omega, h3⟩
/-- a permutation of the system keeps the labels -/
theorem lab_at {list : List (List Int)} {n p : Nat} {row : List Int} {q : Int} (hs : SysOf list n) (hp : p < n) (hr : row ∈ list) (hq : row[p]? = some q) : ∃ Q : Nat, q = (Q : Int) ∧ Q < n ∧ (labL list n)[Q]? = some (labOf list p) := by
  obtain ⟨h1, h2, h3⟩ := hs row hr
  obtain ⟨h4, h5⟩ := h1 q (List.mem_of_getElem? hq)
  obtain ⟨Q, rfl⟩ := Int.eq_ofNat_of_zero_le h4
  have hQ : Q < n := by omega
  refine ⟨Q, rfl, hQ, ?_⟩
  rw [labL_get hQ]
  have hat : at' row (p : Int) = (Q : Int) := by unfold at'; simp [List.getD_eq_getElem?_getD, hq]
  have hR : Rch list (p : Int) (Q : Int) := by rw [← hat]; exact .step .refl hr
  rw [(labOf_eq_iff hs hp hQ).2 hR]
theorem runW_rch {list : List (List Int)} {n : Nat} (hs : SysOf list n) : ∀ (word : List Int) (x : Int), (∀ g ∈ word, 0 ≤ g ∧ g < list.length) → Rch list x (runW list word x) := by
  intro word
  induction word with
  | nil => intro x _; exact .refl
  | cons g word ih =>
    intro x hw
    obtain ⟨h0, h1⟩ := hw g (by simp)
    obtain ⟨G, rfl⟩ := Int.eq_ofNat_of_zero_le h0
    have hG : G < list.length := by omega
    have hm : list[G] ∈ list := List.getElem_mem hG
    have e : runW list ((G : Int) :: word) x = runW list word (at' list[G] x) := by
      unfold runW at'
      simp [List.getD_eq_getElem?_getD, List.getElem?_eq_getElem hG]
    rw [e]
    exact (Rch.step .refl hm).trans (ih _ fun g hg => hw g (List.mem_cons_of_mem _ hg))
/-- what the law asks at the end -/
theorem apply_in {list : List (List Int)} {n p : Nat} {word : List Int} (hs : isSysB n list = true) (hp : p < n) (hl : word.length ≤ 64) (hw : ∀ g ∈ word, 0 ≤ g ∧ g < list.length) : applyF n list word p = (runW list word p, 0) ∧ decide (runW list word p ∈ plc (labL list n) (labOf list p) n) = true := by
  have hS := (sysOf hs).1
  have hall : allIn 0 ((list.length : Int) - 1) word = true := by
    unfold allIn
    rw [List.all_eq_true]
    intro g hg
    have := hw g hg
    exact inR_iff.2 ⟨this.1, by omega⟩
  refine ⟨?_, decide_eq_true ?_⟩
  · unfold applyF
    rw [if_pos hs, if_pos ⟨inR_iff.2 ⟨by omega, by omega⟩, hl, hall⟩]
  · rw [places_eq hS hp, (sortL_perm _).mem_iff]
    exact (bfs_mem hS (by omega) (by omega)).2 (runW_rch hS word p hw)
theorem orbit_in {list : List (List Int)} {n p : Nat} (hs : isSysB n list = true) (hp : p < n) : orbOF n list p = (plc (labL list n) (labOf list p) n, 0) := by
  unfold orbOF
  rw [if_pos hs, if_pos (inR_iff.2 ⟨by omega, by omega⟩), places_eq (sysOf hs).1 hp]
  rfl
end Go.Proofs.Ytbioelmofceaaaa
