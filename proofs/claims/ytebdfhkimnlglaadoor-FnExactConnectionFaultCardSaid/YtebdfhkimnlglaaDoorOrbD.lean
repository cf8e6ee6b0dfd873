/- Plain: what a search that keeps a pile of open points does to the labels. No program in sight. No condition. -/
import Derived.Test.YtebdfhkimnlglaaDoorOrbP
import Derived.Test.YtebdfhkimnlglaaDoorVoc
namespace Go.Proofs.YtebdfhkimnlglaaDoor
set_option linter.unusedVariables false
set_option maxRecDepth 100000

/-- the labels when all points before i have been looked at -/
structure OutI (list : List (List Int)) (n i : Nat) (ls : List Int) : Prop where
  len : ls.length = n
  old : ∀ x : Nat, x < n → Old list i x → ls[x]? = some (labOf list x)
  new : ∀ x : Nat, x < n → ¬ Old list i x → ls[x]? = some (-1)
/-- the labels while the orbit of i is being found: 'op' open, at the point x the permutations ps are done -/
structure Dfs (list : List (List Int)) (n i : Nat) (ls op : List Int) (x : Int) (ps : List (List Int)) : Prop where
  len : ls.length = n
  old : ∀ z : Nat, z < n → Old list i z → ls[z]? = some (labOf list z)
  new : ∀ z : Nat, z < n → ¬ Old list i z → ls[z]? = some (-1) ∨ (ls[z]? = some (cntR list i : Int) ∧ Rch list i z)
  start : ls[i]? = some (cntR list i : Int)
  opn : ∀ y ∈ op, Rch list i y
  done : ∀ z : Nat, z < n → ¬ Old list i z → ls[z]? = some (cntR list i : Int) → (z : Int) ∈ op ∨ (∀ p ∈ list, ∃ v : Int, 0 ≤ v ∧ ls[(at' p z).toNat]? = some v) ∨ ((z : Int) = x ∧ ∀ p ∈ ps, ∃ v : Int, 0 ≤ v ∧ ls[(at' p z).toNat]? = some v)
theorem cntR_le (list : List (List Int)) (i : Nat) : cntR list i ≤ i := by
  unfold cntR
  have := List.length_filter_le (rootB list) (List.range i)
  simpa using this
theorem OutI.zero (list : List (List Int)) (n : Nat) : OutI list n 0 (List.replicate n (-1)) :=
  ⟨by simp, fun x _ ⟨j, hj, _⟩ => absurd hj (by omega), fun x hx _ => by simp [hx]⟩
theorem OutI.end_ {list : List (List Int)} {n : Nat} {ls : List Int} (h : OutI list n n ls) : ls = labL list n := by
  apply list_ext_upto n (by rw [h.len]; omega) (by rw [labL_length]; omega)
  intro j hj
  rw [h.old j hj (Old.all hj), labL_get hj]
section
variable {list : List (List Int)} {n i : Nat} {ls op : List Int} {x : Int} {ps : List (List Int)}
theorem OutI.nonneg (h : OutI list n i ls) (hi : i < n) : (0 : Int) ≤ ls.getD i 0 ↔ Old list i i := by
  by_cases ho : Old list i i
  · rw [getD_some (h.old i hi ho)]; simp [ho, labOf_nonneg]
  · rw [getD_some (h.new i hi ho)]; simp [ho]
theorem OutI.skip (hs : SysOf list n) (h : OutI list n i ls) (hi : i < n) (ho : Old list i i) : OutI list n (i + 1) ls ∧ cntR list (i + 1) = cntR list i := by
  refine ⟨⟨h.len, fun x hx hxo => h.old x hx ((Old.step hs hi ho).1 hxo), fun x hx hxo => h.new x hx fun hh => hxo ((Old.step hs hi ho).2 hh)⟩, ?_⟩
  rw [cntR_succ, if_neg]; simp
  exact fun hr => (root_iff.1 hr) ho
theorem OutI.start (h : OutI list n i ls) (hi : i < n) (ho : ¬ Old list i i) : Dfs list n i (ls.set i (cntR list i : Int)) [(i : Int)] i list := by
  have hl := h.len
  refine ⟨by simpa using hl, fun z hz hzo => ?_, fun z hz hzo => ?_, by simp [hl, hi], by simpa using Rch.refl, fun z hz hzo hzl => ?_⟩
  · have : i ≠ z := fun e => ho (e ▸ hzo)
    rw [List.getElem?_set_ne this]; exact h.old z hz hzo
  · by_cases e : i = z
    · subst e; right; exact ⟨by simp [hl, hi], .refl⟩
    · left; rw [List.getElem?_set_ne e]; exact h.new z hz hzo
  · by_cases e : i = z
    · subst e; left; simp
    · rw [List.getElem?_set_ne e, h.new z hz hzo] at hzl
      injection hzl with hzl
      omega
theorem Dfs.pop {y : Int} (h : Dfs list n i ls (op ++ [x]) y list) : Dfs list n i ls op x [] := by
  refine ⟨h.len, h.old, h.new, h.start, fun z hz => h.opn z (by simp [hz]), fun z hz hzo hzl => ?_⟩
  rcases h.done z hz hzo hzl with h1 | h1 | ⟨_, h1⟩
  · rcases List.mem_append.1 h1 with h1 | h1
    · exact .inl h1
    · simp at h1; exact .inr (.inr ⟨h1, by simp⟩)
  · exact .inr (.inl h1)
  · exact .inr (.inl h1)
theorem Dfs.close (h : Dfs list n i ls op x list) (y : Int) : Dfs list n i ls op y list := by
  refine ⟨h.len, h.old, h.new, h.start, h.opn, fun z hz hzo hzl => ?_⟩
  rcases h.done z hz hzo hzl with h1 | h1 | ⟨_, h1⟩
  · exact .inl h1
  · exact .inr (.inl h1)
  · exact .inr (.inl h1)
theorem Dfs.seen {p : List Int} {v : Int} (h : Dfs list n i ls op x ps) (hv : ls[(at' p x).toNat]? = some v) (h0 : 0 ≤ v) : Dfs list n i ls op x (ps ++ [p]) := by
  refine ⟨h.len, h.old, h.new, h.start, h.opn, fun z hz hzo hzl => ?_⟩
  rcases h.done z hz hzo hzl with h1 | h1 | ⟨e, h1⟩
  · exact .inl h1
  · exact .inr (.inl h1)
  · refine .inr (.inr ⟨e, fun q hq => ?_⟩)
    rcases List.mem_append.1 hq with hq | hq
    · exact h1 q hq
    · simp at hq; subst hq; exact ⟨v, h0, by rw [e]; exact hv⟩
theorem Dfs.mark {p : List Int} {v : Int} (hs : SysOf list n) (hi : i < n) (ho : ¬ Old list i i) (h : Dfs list n i ls op x ps) (hp : p ∈ list) (hx : Rch list i x) (hv : ls[(at' p x).toNat]? = some v) (h0 : v < 0) :
    Dfs list n i (ls.set (at' p x).toNat (cntR list i : Int)) (op ++ [at' p x]) x (ps ++ [p]) := by
  have hl := h.len
  have hxr := hx.rng hs (by omega) (by omega)
  have hyr := at'_rng (hs p hp).1 (hs p hp).2.2 hxr.1 hxr.2
  have hry := hx.step hp
  obtain ⟨y, hy⟩ : ∃ y : Nat, at' p x = y := ⟨(at' p x).toNat, by omega⟩
  rw [hy] at hv hry hyr ⊢
  rw [Int.toNat_natCast] at hv ⊢
  have hyn : y < n := by omega
  have hyo : ¬ Old list i y := not_old hs hi ho hry
  have hkeep : ∀ (m : Nat) (u : Int), 0 ≤ u → ls[m]? = some u → (ls.set y (cntR list i : Int))[m]? = some (if y = m then (cntR list i : Int) else u) := by
    intro m u _ hm
    have := (List.getElem?_eq_some_iff.1 hm).1
    split
    · rename_i e; subst e; simp [this]
    · rename_i e; rw [List.getElem?_set_ne e]; exact hm
  have hpos : ∀ m : Nat, (∃ u : Int, 0 ≤ u ∧ ls[m]? = some u) → ∃ u : Int, 0 ≤ u ∧ (ls.set y (cntR list i : Int))[m]? = some u := by
    rintro m ⟨u, hu, hm⟩
    refine ⟨_, ?_, hkeep m u hu hm⟩
    split <;> omega
  refine ⟨by simpa using hl, fun z hz hzo => ?_, fun z hz hzo => ?_, ?_, fun z hz => ?_, fun z hz hzo hzl => ?_⟩
  · have : y ≠ z := fun e => hyo (e ▸ hzo)
    rw [List.getElem?_set_ne this]; exact h.old z hz hzo
  · by_cases e : y = z
    · subst e; right; exact ⟨by simp [hl, hyn], hry⟩
    · rw [List.getElem?_set_ne e]; exact h.new z hz hzo
  · rw [hkeep i _ (by omega) h.start]; split <;> rfl
  · rcases List.mem_append.1 hz with hz | hz
    · exact h.opn z hz
    · simp at hz; subst hz; exact hry
  · by_cases e : y = z
    · subst e; left; simp
    · rw [List.getElem?_set_ne e] at hzl
      rcases h.done z hz hzo hzl with h1 | h1 | ⟨e1, h1⟩
      · left; simp [h1]
      · exact .inr (.inl fun q hq => hpos _ (h1 q hq))
      · refine .inr (.inr ⟨e1, fun q hq => ?_⟩)
        rcases List.mem_append.1 hq with hq | hq
        · exact hpos _ (h1 q hq)
        · simp at hq; subst hq; exact ⟨cntR list i, by omega, by rw [e1, hy, Int.toNat_natCast]; simp [hl, hyn]⟩
theorem Dfs.finish (hs : SysOf list n) (hi : i < n) (ho : ¬ Old list i i) (h : Dfs list n i ls [] x list) : OutI list n (i + 1) ls ∧ cntR list (i + 1) = cntR list i + 1 := by
  have key : ∀ z : Int, Rch list i z → ls[z.toNat]? = some (cntR list i : Int) := by
    intro z hz
    induction hz with
    | refl => rw [Int.toNat_natCast]; exact h.start
    | @step y p hy hp ih =>
      have hyr := hy.rng hs (by omega) (by omega)
      have hzr := at'_rng (hs p hp).1 (hs p hp).2.2 hyr.1 hyr.2
      obtain ⟨y, rfl⟩ : ∃ m : Nat, y = m := ⟨y.toNat, by omega⟩
      rw [Int.toNat_natCast] at ih
      have hcl : ∃ v : Int, 0 ≤ v ∧ ls[(at' p y).toNat]? = some v := by
        rcases h.done y (by omega) (not_old hs hi ho hy) ih with h1 | h1 | ⟨_, h1⟩
        · simp at h1
        · exact h1 p hp
        · exact h1 p hp
      obtain ⟨v, hv, hvl⟩ := hcl
      have hno : ¬ Old list i ((at' p y).toNat : Nat) := by
        rw [Int.toNat_of_nonneg hzr.1]; exact not_old hs hi ho (hy.step hp)
      rcases h.new (at' p y).toNat (by omega) hno with h2 | h2
      · rw [h2] at hvl; injection hvl with hvl; omega
      · exact h2.1
  refine ⟨⟨h.len, fun z hz hzo => ?_, fun z hz hzo => ?_⟩, by rw [cntR_succ, if_pos (root_iff.2 ho)]⟩
  · rcases Old.new.1 hzo with h1 | h1
    · exact h.old z hz h1
    · have := key z h1
      rw [Int.toNat_natCast] at this
      rw [this, labOf_root hs hi ho h1]
  · rcases h.new z hz (fun h1 => hzo (Old.new.2 (.inl h1))) with h1 | h1
    · exact h1
    · exact absurd (Old.new.2 (.inr h1.2)) hzo
end
end Go.Proofs.YtebdfhkimnlglaaDoor
