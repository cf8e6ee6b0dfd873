/- Plain: orbits of systems of permutations: reachability, least points, labels, the order in which a breadth-first search meets the points. No program in sight. No condition. -/
import Derived.Test.YtebdfhkimnlglaaDoorPlain
namespace Go.Proofs.YtebdfhkimnlglaaDoor
set_option linter.unusedVariables false
set_option maxRecDepth 100000

/-- permutations of n points -/
def SysOf (list : List (List Int)) (n : Nat) : Prop := ∀ p ∈ list, (∀ x ∈ p, 0 ≤ x ∧ x < n) ∧ p.Nodup ∧ p.length = n
/-- p at x -/
def at' (p : List Int) (x : Int) : Int := p.getD x.toNat 0
inductive Rch (list : List (List Int)) (x : Int) : Int → Prop
  | refl : Rch list x x
  | step {y : Int} {p : List Int} : Rch list x y → p ∈ list → Rch list x (at' p y)
theorem Rch.trans {list : List (List Int)} {x y z : Int} (h : Rch list x y) (g : Rch list y z) : Rch list x z := by
  induction g with
  | refl => exact h
  | step _ hp ih => exact ih.step hp
theorem at'_rng {p : List Int} {n : Nat} {x : Int} (hr : ∀ x ∈ p, 0 ≤ x ∧ x < n) (hl : p.length = n) (h0 : 0 ≤ x) (h1 : x < n) : 0 ≤ at' p x ∧ at' p x < n :=
  hr _ (mem_of_get? (get?_getD 0 (by omega)))
theorem Rch.rng {list : List (List Int)} {n : Nat} {x y : Int} (hs : SysOf list n) (h : Rch list x y) (h0 : 0 ≤ x) (h1 : x < n) : 0 ≤ y ∧ y < n := by
  induction h with
  | refl => exact ⟨h0, h1⟩
  | step _ hp ih => exact at'_rng (hs _ hp).1 (hs _ hp).2.2 ih.1 ih.2
theorem at'_inj {p : List Int} {n : Nat} {x y : Int} (hn : p.Nodup) (hl : p.length = n) (h0 : 0 ≤ x) (h1 : x < n) (g0 : 0 ≤ y) (g1 : y < n) (h : at' p x = at' p y) : x = y := by
  have e1 := get?_getD (xs := p) (k := x.toNat) 0 (by omega)
  have e2 := get?_getD (xs := p) (k := y.toNat) 0 (by omega)
  unfold at' at h
  rw [h] at e1
  have := (List.getElem?_inj (by omega) hn).1 (e1.trans e2.symm)
  omega
/-- p done k times -/
def itr (p : List Int) : Nat → Int → Int
  | 0, x => x
  | k + 1, x => at' p (itr p k x)
theorem itr_rng {p : List Int} {n : Nat} {x : Int} (hr : ∀ x ∈ p, 0 ≤ x ∧ x < n) (hl : p.length = n) (h0 : 0 ≤ x) (h1 : x < n) (k : Nat) : 0 ≤ itr p k x ∧ itr p k x < n := by
  induction k with
  | zero => exact ⟨h0, h1⟩
  | succ k ih => exact at'_rng hr hl ih.1 ih.2
theorem itr_succ' (p : List Int) (k : Nat) (x : Int) : itr p (k + 1) x = itr p k (at' p x) := by
  induction k with
  | zero => rfl
  | succ k ih => show at' p (itr p (k + 1) x) = at' p (itr p k (at' p x)); rw [ih]
theorem itr_add (p : List Int) (a b : Nat) (x : Int) : itr p (a + b) x = itr p a (itr p b x) := by
  induction a with
  | zero => simp [itr]
  | succ a ih => rw [show a + 1 + b = (a + b) + 1 by omega]; show at' p (itr p (a + b) x) = at' p (itr p a (itr p b x)); rw [ih]
theorem itr_inj {p : List Int} {n : Nat} (hr : ∀ x ∈ p, 0 ≤ x ∧ x < n) (hn : p.Nodup) (hl : p.length = n) (k : Nat) {x y : Int} (h0 : 0 ≤ x) (h1 : x < n) (g0 : 0 ≤ y) (g1 : y < n) (h : itr p k x = itr p k y) : x = y := by
  induction k with
  | zero => exact h
  | succ k ih =>
    have a := itr_rng hr hl h0 h1 k
    have b := itr_rng hr hl g0 g1 k
    exact ih (at'_inj hn hl a.1 a.2 b.1 b.2 h)
/-- each point comes back to itself -/
theorem itr_back {p : List Int} {n : Nat} {x : Int} (hr : ∀ x ∈ p, 0 ≤ x ∧ x < n) (hn : p.Nodup) (hl : p.length = n) (h0 : 0 ≤ x) (h1 : x < n) : ∃ k, 1 ≤ k ∧ k ≤ n ∧ itr p k x = x := by
  by_cases hex : ∃ i j, i < j ∧ j ≤ n ∧ itr p i x = itr p j x
  · obtain ⟨i, j, hij, hj, e⟩ := hex
    refine ⟨j - i, by omega, by omega, ?_⟩
    have e2 : itr p i x = itr p i (itr p (j - i) x) := by rw [← itr_add, show i + (j - i) = j by omega]; exact e
    have a := itr_rng hr hl h0 h1 (j - i)
    exact (itr_inj hr hn hl i h0 h1 a.1 a.2 e2).symm
  · exfalso
    have hnd : ((List.range (n + 1)).map fun k => itr p k x).Nodup := by
      rw [List.nodup_iff_pairwise_ne, List.pairwise_map]
      refine List.Pairwise.imp_of_mem ?_ List.pairwise_lt_range
      intro a b ha hb hab e
      exact hex ⟨a, b, hab, by have := List.mem_range.1 hb; omega, e⟩
    have := nodup_sub_len _ ((List.range n).map Int.ofNat) hnd (fun a ha => by
      obtain ⟨k, _, rfl⟩ := List.mem_map.1 ha
      exact mem_ints.2 (itr_rng hr hl h0 h1 k))
    simp at this
    omega
theorem Rch.itr_ {list : List (List Int)} {p : List Int} (hp : p ∈ list) (x : Int) (k : Nat) : Rch list x (itr p k x) := by
  induction k with
  | zero => exact .refl
  | succ k ih => exact ih.step hp
theorem Rch.back {list : List (List Int)} {n : Nat} {p : List Int} {y : Int} (hs : SysOf list n) (hp : p ∈ list) (h0 : 0 ≤ y) (h1 : y < n) : Rch list (at' p y) y := by
  obtain ⟨hr, hn, hl⟩ := hs p hp
  obtain ⟨k, hk, _, e⟩ := itr_back hr hn hl h0 h1
  obtain ⟨k, rfl⟩ : ∃ q, k = q + 1 := ⟨k - 1, by omega⟩
  rw [itr_succ'] at e
  have := Rch.itr_ hp (at' p y) k
  rwa [e] at this
theorem Rch.symm {list : List (List Int)} {n : Nat} {x y : Int} (hs : SysOf list n) (h : Rch list x y) (h0 : 0 ≤ x) (h1 : x < n) : Rch list y x := by
  induction h with
  | refl => exact .refl
  | step hxy hp ih =>
    have hr := hxy.rng hs h0 h1
    exact (Rch.back hs hp hr.1 hr.2).trans ih

theorem count_set_ne {α : Type} [DecidableEq α] {bs : List α} {k : Nat} {a b : α} (h : bs[k]? = some a) (hab : b ≠ a) : (bs.set k b).count a + 1 = bs.count a := by
  induction bs generalizing k with
  | nil => simp at h
  | cons c t ih =>
    cases k with
    | zero =>
      simp at h
      subst h
      simp [hab]
    | succ k =>
      simp at h
      have := ih h
      simp only [List.set_cons_succ, List.count_cons]
      omega

/-! ### breadth first -/
/-- what the point x adds -/
def bfsStep (list : List (List Int)) (x : Int) (out : List Int) : List Int := list.foldl (fun o p => if at' p x ∈ o then o else o ++ [at' p x]) out
def bfsGo (list : List (List Int)) : Nat → List Int → Nat → List Int
  | 0, out, _ => out
  | f + 1, out, i => match out[i]? with
    | none => out
    | some x => bfsGo list f (bfsStep list x out) (i + 1)
/-- the points to which x leads, in the order in which they are met -/
def bfs (list : List (List Int)) (n : Nat) (x : Int) : List Int := bfsGo list (n + 1) [x] 0
theorem bfsStep_snoc (list : List (List Int)) (p : List Int) (x : Int) (out : List Int) : bfsStep (list ++ [p]) x out = if at' p x ∈ bfsStep list x out then bfsStep list x out else bfsStep list x out ++ [at' p x] := by
  unfold bfsStep
  rw [List.foldl_append]
  rfl
theorem bfsGo_stop {list : List (List Int)} {f i : Nat} {out : List Int} (h : out.length ≤ i) : bfsGo list f out i = out := by
  cases f with
  | zero => rfl
  | succ f => simp [bfsGo, List.getElem?_eq_none h]
theorem bfsGo_step {list : List (List Int)} {f i : Nat} {out : List Int} {x : Int} (h : out[i]? = some x) : bfsGo list (f + 1) out i = bfsGo list f (bfsStep list x out) (i + 1) := by
  simp [bfsGo, h]
/-- what holds of the points met so far -/
structure Met (list : List (List Int)) (n : Nat) (x : Int) (out : List Int) : Prop where
  nd : out.Nodup
  rng : ∀ y ∈ out, 0 ≤ y ∧ y < n
  rch : ∀ y ∈ out, Rch list x y
  start : x ∈ out
theorem Met.len {list : List (List Int)} {n : Nat} {x : Int} {out : List Int} (h : Met list n x out) : out.length ≤ n := by
  have := nodup_sub_len out ((List.range n).map Int.ofNat) h.nd (fun a ha => mem_ints.2 (h.rng a ha))
  simpa using this
theorem Met.add {list : List (List Int)} {n : Nat} {x y : Int} {p : List Int} {out : List Int} (hs : SysOf list n) (h : Met list n x out) (hy : y ∈ out) (hp : p ∈ list) (hn : at' p y ∉ out) : Met list n x (out ++ [at' p y]) := by
  have hr := h.rng y hy
  refine ⟨?_, fun z hz => ?_, fun z hz => ?_, by simp [h.start]⟩
  · rw [List.nodup_append]
    refine ⟨h.nd, by simp, ?_⟩
    intro a ha b hb
    simp at hb
    subst hb
    exact fun e => hn (e ▸ ha)
  · rcases List.mem_append.1 hz with hz | hz
    · exact h.rng z hz
    · simp at hz; subst hz; exact at'_rng (hs p hp).1 (hs p hp).2.2 hr.1 hr.2
  · rcases List.mem_append.1 hz with hz | hz
    · exact h.rch z hz
    · simp at hz; subst hz; exact (h.rch y hy).step hp
theorem bfsStep_spec {list : List (List Int)} {n : Nat} {x y : Int} (hs : SysOf list n) : ∀ (ps : List (List Int)) (out : List Int), (∀ p ∈ ps, p ∈ list) → Met list n x out → y ∈ out →
    Met list n x (bfsStep ps y out) ∧ (∀ p ∈ ps, at' p y ∈ bfsStep ps y out) ∧ (∃ t, bfsStep ps y out = out ++ t) := by
  intro ps
  induction ps with
  | nil => intro out _ h _; exact ⟨h, by simp, [], by simp [bfsStep]⟩
  | cons p t ih =>
    intro out hps h hy
    unfold bfsStep
    rw [List.foldl_cons]
    by_cases hm : at' p y ∈ out
    · rw [if_pos hm]
      obtain ⟨h1, h2, r, h3⟩ := ih out (fun q hq => hps q (by simp [hq])) h hy
      refine ⟨h1, fun q hq => ?_, r, h3⟩
      rcases List.mem_cons.1 hq with rfl | hq
      · show at' q y ∈ bfsStep t y out; rw [h3]; exact List.mem_append_left _ hm
      · exact h2 q hq
    · rw [if_neg hm]
      obtain ⟨h1, h2, r, h3⟩ := ih (out ++ [at' p y]) (fun q hq => hps q (by simp [hq])) (h.add hs hy (hps p (by simp)) hm) (by simp [hy])
      refine ⟨h1, fun q hq => ?_, [at' p y] ++ r, ?_⟩
      · rcases List.mem_cons.1 hq with rfl | hq
        · show at' q y ∈ bfsStep t y (out ++ [at' q y]); rw [h3]; simp
        · exact h2 q hq
      · show bfsStep t y (out ++ [at' p y]) = _; rw [h3]; simp
theorem bfsGo_spec {list : List (List Int)} {n : Nat} {x : Int} (hs : SysOf list n) : ∀ (f : Nat) (out : List Int) (i : Nat), Met list n x out → (∀ j y, j < i → out[j]? = some y → ∀ p ∈ list, at' p y ∈ out) → n < f + i →
    Met list n x (bfsGo list f out i) ∧ ∀ y ∈ bfsGo list f out i, ∀ p ∈ list, at' p y ∈ bfsGo list f out i := by
  intro f
  induction f with
  | zero =>
    intro out i h hc hf
    have := h.len
    refine ⟨h, fun y hy p hp => ?_⟩
    obtain ⟨j, hj⟩ := List.mem_iff_getElem?.1 (show y ∈ out from hy)
    exact hc j y (by have := (List.getElem?_eq_some_iff.1 hj).1; omega) hj p hp
  | succ f ih =>
    intro out i h hc hf
    cases hx : out[i]? with
    | none =>
      rw [bfsGo_stop (List.getElem?_eq_none_iff.1 hx)]
      refine ⟨h, fun y hy p hp => ?_⟩
      obtain ⟨j, hj⟩ := List.mem_iff_getElem?.1 hy
      exact hc j y (by have := (List.getElem?_eq_some_iff.1 hj).1; have := List.getElem?_eq_none_iff.1 hx; omega) hj p hp
    | some y =>
      rw [bfsGo_step hx]
      have hy := mem_of_get? hx
      obtain ⟨h1, h2, r, h3⟩ := bfsStep_spec (x := x) hs list out (fun _ h => h) h hy
      refine ih _ _ h1 ?_ (by omega)
      intro j z hj hz p hp
      by_cases e : j = i
      · subst e
        rw [h3, List.getElem?_append_left (List.getElem?_eq_some_iff.1 hx).1, hx] at hz
        have e := Option.some.inj hz
        subst e
        exact h2 p hp
      · have hlt : j < out.length := by have := (List.getElem?_eq_some_iff.1 hx).1; omega
        rw [h3, List.getElem?_append_left hlt] at hz
        rw [h3]
        exact List.mem_append_left _ (hc j z (by omega) hz p hp)
theorem Met.one {list : List (List Int)} {n : Nat} {x : Int} (h0 : 0 ≤ x) (h1 : x < n) : Met list n x [x] :=
  ⟨by simp, by simpa using ⟨h0, h1⟩, by simpa using Rch.refl, by simp⟩
theorem bfs_met {list : List (List Int)} {n : Nat} {x : Int} (hs : SysOf list n) (h0 : 0 ≤ x) (h1 : x < n) : Met list n x (bfs list n x) :=
  (bfsGo_spec hs (n + 1) [x] 0 (Met.one h0 h1) (fun j y hj => absurd hj (by omega)) (by omega)).1
theorem bfs_mem {list : List (List Int)} {n : Nat} {x y : Int} (hs : SysOf list n) (h0 : 0 ≤ x) (h1 : x < n) : y ∈ bfs list n x ↔ Rch list x y := by
  have hm := bfs_met hs h0 h1
  refine ⟨hm.rch y, fun h => ?_⟩
  induction h with
  | refl => exact hm.start
  | step _ hp ih => exact (bfsGo_spec hs (n + 1) [x] 0 (Met.one h0 h1) (fun j y hj => absurd hj (by omega)) (by omega)).2 _ ih _ hp
/-! ### least points -/
open Classical

/-- j is the least point of its orbit -/
noncomputable def rootB (list : List (List Int)) (j : Nat) : Bool := decide (∀ i : Nat, i < j → ¬ Rch list i j)
noncomputable def cntR (list : List (List Int)) (i : Nat) : Nat := ((List.range i).filter (rootB list)).length
noncomputable def rootOf (list : List (List Int)) (x : Nat) : Nat := ((List.range (x + 1)).find? fun (i : Nat) => decide (Rch list i x)).getD x
noncomputable def labOf (list : List (List Int)) (x : Nat) : Int := cntR list (rootOf list x)
noncomputable def labL (list : List (List Int)) (n : Nat) : List Int := (List.range n).map fun x => labOf list x
theorem labL_length (list : List (List Int)) (n : Nat) : (labL list n).length = n := by simp [labL]
theorem labL_get {list : List (List Int)} {n x : Nat} (h : x < n) : (labL list n)[x]? = some (labOf list x) := by simp [labL, h]
/-- reached from a point before i -/
def Old (list : List (List Int)) (i : Nat) (x : Int) : Prop := ∃ j : Nat, j < i ∧ Rch list j x
theorem cntR_succ (list : List (List Int)) (i : Nat) : cntR list (i + 1) = cntR list i + (if rootB list i = true then 1 else 0) := by
  unfold cntR
  rw [List.range_succ, List.filter_append]
  by_cases h : rootB list i = true <;> simp [h]
theorem rootOf_spec (list : List (List Int)) (x : Nat) : Rch list (rootOf list x) x ∧ ∀ j : Nat, j < rootOf list x → ¬ Rch list j x := by
  unfold rootOf
  cases hf : (List.range (x + 1)).find? fun (i : Nat) => decide (Rch list i x) with
  | none =>
    have := List.find?_eq_none.1 hf x (by simp)
    simp at this
    exact absurd Rch.refl this
  | some r =>
    simp only [Option.getD_some]
    have h1 := List.find?_some hf
    refine ⟨by simpa using h1, fun j hj hr => ?_⟩
    rw [List.find?_range_eq_some] at hf
    have := hf.2.2 j hj
    simp at this
    exact this hr
theorem rootOf_eq {list : List (List Int)} {x i : Nat} (h : Rch list i x) (hn : ∀ j : Nat, j < i → ¬ Rch list j x) : rootOf list x = i := by
  obtain ⟨h1, h2⟩ := rootOf_spec list x
  rcases Nat.lt_trichotomy (rootOf list x) i with h3 | h3 | h3
  · exact absurd h1 (hn _ h3)
  · exact h3
  · exact absurd h (h2 _ h3)
theorem Old.step {list : List (List Int)} {n i : Nat} {x : Int} (hs : SysOf list n) (hi : i < n) (ho : Old list i i) : Old list (i + 1) x ↔ Old list i x := by
  constructor
  · rintro ⟨j, hj, hr⟩
    by_cases e : j = i
    · subst e
      obtain ⟨j', hj', hr'⟩ := ho
      exact ⟨j', hj', hr'.trans hr⟩
    · exact ⟨j, by omega, hr⟩
  · rintro ⟨j, hj, hr⟩; exact ⟨j, by omega, hr⟩
theorem Old.new {list : List (List Int)} {i : Nat} {x : Int} : Old list (i + 1) x ↔ Old list i x ∨ Rch list i x := by
  constructor
  · rintro ⟨j, hj, hr⟩
    by_cases e : j = i
    · subst e; exact .inr hr
    · exact .inl ⟨j, by omega, hr⟩
  · rintro (⟨j, hj, hr⟩ | hr)
    · exact ⟨j, by omega, hr⟩
    · exact ⟨i, by omega, hr⟩
theorem root_iff {list : List (List Int)} {i : Nat} : rootB list i = true ↔ ¬ Old list i i := by
  unfold rootB Old; simp
/-- the orbit of a root holds no old point -/
theorem not_old {list : List (List Int)} {n i : Nat} {x : Int} (hs : SysOf list n) (hi : i < n) (h : ¬ Old list i i) (hx : Rch list i x) : ¬ Old list i x := by
  rintro ⟨j, hj, hr⟩
  exact h ⟨j, hj, hr.trans (hx.symm hs (by omega) (by omega))⟩
theorem labOf_root {list : List (List Int)} {n i x : Nat} (hs : SysOf list n) (hi : i < n) (h : ¬ Old list i i) (hx : Rch list i x) : labOf list x = cntR list i := by
  unfold labOf
  rw [rootOf_eq hx fun j hj hr => not_old hs hi h hx ⟨j, hj, hr⟩]
theorem labOf_nonneg (list : List (List Int)) (x : Nat) : 0 ≤ labOf list x := by unfold labOf; omega
theorem Old.all {list : List (List Int)} {n : Nat} {x : Nat} (h : x < n) : Old list n x := ⟨x, h, .refl⟩

end Go.Proofs.YtebdfhkimnlglaaDoor
