/- Plain: the flags of a poset, as the program and the reference grow them. No program in sight. No condition. -/
import Derived.Test.YtebdfhkimnlglaaDoorPosP
namespace Go.Proofs.YtebdfhkimnlglaaDoor
set_option linter.unusedVariables false
set_option maxRecDepth 100000
open Classical
/-- the elements that elements of all greater ranks follow -/
inductive Al (r : Int) (ps : List Int) (xss : List (List Int)) : Nat → Prop
  | top {e : Nat} : e < ps.length → ps.getD e 0 = r - 1 → Al r ps xss e
  | up {e f : Nat} : e < ps.length → f < ps.length → ps.getD f 0 = ps.getD e 0 + 1 → (e : Int) ∈ xss.getD f [] → Al r ps xss f → Al r ps xss e
theorem Al.lt {r : Int} {ps : List Int} {xss : List (List Int)} {e : Nat} (h : Al r ps xss e) : e < ps.length := by cases h <;> assumption
/-- f follows e -/
def Up (r : Int) (ps : List Int) (xss : List (List Int)) (e f : Nat) : Prop := ps.getD f 0 = ps.getD e 0 + 1 ∧ (e : Int) ∈ xss.getD f [] ∧ Al r ps xss f
/-- those of the first m elements that follow e -/
noncomputable def upL (r : Int) (ps : List Int) (xss : List (List Int)) (e m : Nat) : List Int := ((List.range m).filter fun f => decide (Up r ps xss e f)).map Int.ofNat
theorem upL_succ (r : Int) (ps : List Int) (xss : List (List Int)) (e m : Nat) : upL r ps xss e (m + 1) = upL r ps xss e m ++ (if Up r ps xss e m then [(m : Int)] else []) := by
  unfold upL
  rw [List.range_succ, List.filter_append, List.map_append]
  congr 1
  split <;> simp_all
theorem up_lt {r : Int} {ps : List Int} {xss : List (List Int)} (h : PosP r ps xss) {e f : Nat} (hf : f < ps.length) (hm : (e : Int) ∈ xss.getD f []) : e < f := by
  have hx : xss[f]? = some (xss.getD f []) := get?_getD [] (by have := h.len; omega)
  obtain ⟨k, hk⟩ := List.mem_iff_getElem?.1 hm
  have := bel_lt h.srt (h.bel f _ hx k _ hk)
  omega
theorem upL_low {r : Int} {ps : List Int} {xss : List (List Int)} (h : PosP r ps xss) (e : Nat) : ∀ m, m ≤ e + 1 → upL r ps xss e m = [] := by
  intro m
  induction m with
  | zero => intro _; simp [upL]
  | succ m ih =>
    intro hm
    rw [upL_succ, ih (by omega), if_neg]
    · rfl
    · rintro ⟨_, h2, h3⟩
      have := up_lt h h3.lt h2
      omega
theorem upL_mem {r : Int} {ps : List Int} {xss : List (List Int)} {e m : Nat} {x : Int} : x ∈ upL r ps xss e m ↔ ∃ f : Nat, f < m ∧ x = f ∧ Up r ps xss e f := by
  unfold upL
  simp only [List.mem_map, List.mem_filter, List.mem_range, decide_eq_true_eq]
  constructor
  · rintro ⟨f, ⟨h1, h2⟩, rfl⟩; exact ⟨f, h1, rfl, h2⟩
  · rintro ⟨f, h1, rfl, h2⟩; exact ⟨f, ⟨h1, h2⟩, rfl⟩
theorem upL_len (r : Int) (ps : List Int) (xss : List (List Int)) (e m : Nat) : (upL r ps xss e m).length ≤ m := by
  unfold upL
  rw [List.length_map]
  have := List.length_filter_le (fun f => decide (Up r ps xss e f)) (List.range m)
  simpa using this
theorem al_iff {r : Int} {ps : List Int} {xss : List (List Int)} {e : Nat} (he : e < ps.length) : Al r ps xss e ↔ (ps.getD e 0 = r - 1 ∨ upL r ps xss e ps.length ≠ []) := by
  constructor
  · intro h
    cases h with
    | top _ h2 => exact .inl h2
    | up _ h2 h3 h4 h5 =>
      right
      intro hn
      have := (upL_mem (r := r) (ps := ps) (xss := xss) (e := e) (m := ps.length)).2 ⟨_, h2, rfl, h3, h4, h5⟩
      rw [hn] at this
      simp at this
  · rintro (h | h)
    · exact .top he h
    · obtain ⟨x, hx⟩ := List.exists_mem_of_ne_nil _ h
      obtain ⟨f, h1, _, h2, h3, h4⟩ := upL_mem.1 hx
      exact .up he h1 h2 h3 h4
/-- those of the first m elements with which flags begin -/
noncomputable def firstL (r : Int) (ps : List Int) (xss : List (List Int)) (m : Nat) : List Int := ((List.range m).filter fun f => decide (ps.getD f 0 = 0 ∧ Al r ps xss f)).map Int.ofNat
theorem firstL_succ (r : Int) (ps : List Int) (xss : List (List Int)) (m : Nat) : firstL r ps xss (m + 1) = firstL r ps xss m ++ (if ps.getD m 0 = 0 ∧ Al r ps xss m then [(m : Int)] else []) := by
  unfold firstL
  rw [List.range_succ, List.filter_append, List.map_append]
  congr 1
  split <;> simp_all
theorem firstL_mem {r : Int} {ps : List Int} {xss : List (List Int)} {m : Nat} {x : Int} : x ∈ firstL r ps xss m ↔ ∃ f : Nat, f < m ∧ x = f ∧ ps.getD f 0 = 0 ∧ Al r ps xss f := by
  unfold firstL
  simp only [List.mem_map, List.mem_filter, List.mem_range, decide_eq_true_eq]
  constructor
  · rintro ⟨f, ⟨h1, h2⟩, rfl⟩; exact ⟨f, h1, rfl, h2⟩
  · rintro ⟨f, h1, rfl, h2⟩; exact ⟨f, ⟨h1, h2⟩, rfl⟩
theorem firstL_len (r : Int) (ps : List Int) (xss : List (List Int)) (m : Nat) : (firstL r ps xss m).length ≤ m := by
  unfold firstL
  rw [List.length_map]
  have := List.length_filter_le (fun f => decide (ps.getD f 0 = 0 ∧ Al r ps xss f)) (List.range m)
  simpa using this
/-- a beginning of a flag -/
def Chn (ps : List Int) (s : List Int) : Prop := (∀ x ∈ s, 0 ≤ x ∧ x < (ps.length : Nat)) ∧ (0 < s.length → ps.getD (s.getD (s.length - 1) 0).toNat 0 = (s.length : Nat) - 1)
/-- those of the first m elements that follow a beginning -/
noncomputable def nxL (r : Int) (ps : List Int) (xss : List (List Int)) (s : List Int) (m : Nat) : List Int :=
  if s.length = 0 then firstL r ps xss m else upL r ps xss (s.getD (s.length - 1) 0).toNat m
/-- the element f may follow the beginning s: the reference's words -/
def Nx (r : Int) (ps : List Int) (xss : List (List Int)) (s : List Int) (f : Nat) : Prop := ps.getD f 0 = (s.length : Nat) ∧ Al r ps xss f ∧ (s.length = 0 ∨ s.getD (s.length - 1) 0 ∈ xss.getD f [])
theorem nxL_succ {r : Int} {ps : List Int} {xss : List (List Int)} {s : List Int} (hc : Chn ps s) (m : Nat) : nxL r ps xss s (m + 1) = nxL r ps xss s m ++ (if Nx r ps xss s m then [(m : Int)] else []) := by
  unfold nxL
  by_cases h0 : s.length = 0
  · rw [if_pos h0, if_pos h0, firstL_succ]
    congr 1
    have : Nx r ps xss s m ↔ (ps.getD m 0 = 0 ∧ Al r ps xss m) := by
      unfold Nx
      rw [h0]
      constructor
      · rintro ⟨h1, h2, _⟩; exact ⟨by simpa using h1, h2⟩
      · rintro ⟨h1, h2⟩; exact ⟨by simpa using h1, h2, .inl rfl⟩
    by_cases h : Nx r ps xss s m
    · rw [if_pos h, if_pos (this.1 h)]
    · rw [if_neg h, if_neg (fun g => h (this.2 g))]
  · rw [if_neg h0, if_neg h0, upL_succ]
    congr 1
    have hr := hc.2 (by omega)
    have hl : 0 ≤ s.getD (s.length - 1) 0 := (hc.1 _ (mem_of_get? (get?_getD 0 (by omega)))).1
    have : Nx r ps xss s m ↔ Up r ps xss (s.getD (s.length - 1) 0).toNat m := by
      unfold Nx Up
      rw [hr, Int.toNat_of_nonneg hl]
      constructor
      · rintro ⟨h1, h2, h3⟩
        exact ⟨by omega, h3.resolve_left h0, h2⟩
      · rintro ⟨h1, h2, h3⟩
        exact ⟨by omega, h3, .inr h2⟩
    by_cases h : Nx r ps xss s m
    · rw [if_pos h, if_pos (this.1 h)]
    · rw [if_neg h, if_neg (fun g => h (this.2 g))]
theorem chn_snoc {r : Int} {ps : List Int} {xss : List (List Int)} {s : List Int} {x : Int} (hc : Chn ps s) (hx : x ∈ nxL r ps xss s ps.length) : Chn ps (s ++ [x]) ∧ 0 ≤ x ∧ x < (ps.length : Nat) := by
  have hN : ∃ f : Nat, f < ps.length ∧ x = f ∧ ps.getD f 0 = (s.length : Nat) := by
    unfold nxL at hx
    by_cases h0 : s.length = 0
    · rw [if_pos h0] at hx
      obtain ⟨f, h1, h2, h3, _⟩ := firstL_mem.1 hx
      exact ⟨f, h1, h2, by rw [h3, h0]; rfl⟩
    · rw [if_neg h0] at hx
      obtain ⟨f, h1, h2, h3, _⟩ := upL_mem.1 hx
      have hr := hc.2 (by omega)
      exact ⟨f, h1, h2, by rw [h3, hr]; omega⟩
  obtain ⟨f, h1, rfl, h3⟩ := hN
  refine ⟨⟨fun y hy => ?_, fun _ => ?_⟩, by omega, by omega⟩
  · rcases List.mem_append.1 hy with hy | hy
    · exact hc.1 y hy
    · simp at hy; subst hy; omega
  · have : (s ++ [(f : Int)]).getD ((s ++ [(f : Int)]).length - 1) 0 = f := by simp [List.getD]
    rw [this]
    simp only [Int.toNat_natCast, List.length_append, List.length_singleton, h3]
    omega
theorem nx_snoc (r : Int) (ps : List Int) (xss : List (List Int)) (s : List Int) (f m : Nat) : nxL r ps xss (s ++ [(f : Int)]) m = upL r ps xss f m := by
  unfold nxL
  rw [if_neg (by simp)]
  have : (s ++ [(f : Int)]).getD ((s ++ [(f : Int)]).length - 1) 0 = f := by simp [List.getD]
  rw [this, Int.toNat_natCast]
/-- all flags with a beginning that lacks k elements -/
noncomputable def growF (r : Int) (ps : List Int) (xss : List (List Int)) : Nat → List Int → List (List Int)
  | 0, s => [s]
  | k + 1, s => (nxL r ps xss s ps.length).flatMap fun x => growF r ps xss k (s ++ [x])
theorem growF_zero (r : Int) (ps : List Int) (xss : List (List Int)) (s : List Int) : growF r ps xss 0 s = [s] := rfl
theorem growF_succ (r : Int) (ps : List Int) (xss : List (List Int)) (k : Nat) (s : List Int) : growF r ps xss (k + 1) s = (nxL r ps xss s ps.length).flatMap fun x => growF r ps xss k (s ++ [x]) := rfl
/-- the flags that the first of the next elements begin -/
noncomputable def growT (r : Int) (ps : List Int) (xss : List (List Int)) (k : Nat) (s nx : List Int) : List (List Int) := nx.flatMap fun x => growF r ps xss k (s ++ [x])
theorem growT_snoc (r : Int) (ps : List Int) (xss : List (List Int)) (k : Nat) (s nx : List Int) (x : Int) : growT r ps xss k s (nx ++ [x]) = growT r ps xss k s nx ++ growF r ps xss k (s ++ [x]) := by
  unfold growT; rw [List.flatMap_append]; simp
theorem growT_nil (r : Int) (ps : List Int) (xss : List (List Int)) (k : Nat) (s : List Int) : growT r ps xss k s [] = [] := rfl
theorem growF_eq (r : Int) (ps : List Int) (xss : List (List Int)) (k : Nat) (s : List Int) : growF r ps xss (k + 1) s = growT r ps xss k s (nxL r ps xss s ps.length) := rfl
/-- cut after the one that is too many -/
def cut4 (l : List (List Int)) : List (List Int) := l.take 401
theorem cut4_app (a b : List (List Int)) : cut4 (cut4 a ++ b) = cut4 (a ++ b) := by
  unfold cut4
  rw [List.take_append, List.take_append, List.take_take]
  by_cases h : a.length ≤ 401
  · rw [List.take_of_length_le h]
    simp
    rw [List.take_of_length_le h]
  · have h1 : (a.take 401).length = 401 := by simp; omega
    rw [h1, show 401 - a.length = 0 by omega]
    simp
theorem cut4_len (a : List (List Int)) : (cut4 a).length ≤ 401 := by unfold cut4; simp; omega
theorem cut4_full {a : List (List Int)} (h : 400 < (cut4 a).length) (b : List (List Int)) : cut4 (a ++ b) = cut4 a := by
  unfold cut4 at *
  simp at h
  rw [List.take_append, show 401 - a.length = 0 by omega]
  simp
theorem cut4_small {a : List (List Int)} (h : a.length ≤ 401) : cut4 a = a := by unfold cut4; exact List.take_of_length_le h
theorem growF_len (r : Int) (ps : List Int) (xss : List (List Int)) : ∀ (k : Nat) (s : List Int), ∀ t ∈ growF r ps xss k s, t.length = s.length + k := by
  intro k
  induction k with
  | zero => intro s t ht; rw [growF_zero] at ht; simp at ht; subst ht; rfl
  | succ k ih =>
    intro s t ht
    rw [growF_succ, List.mem_flatMap] at ht
    obtain ⟨x, _, hx⟩ := ht
    have := ih _ t hx
    simp at this
    omega
/-- all flags, at most 401 -/
noncomputable def allFl (r : Int) (ps : List Int) (xss : List (List Int)) : List (List Int) := cut4 (growF r ps xss r.toNat [])
/-- what FlagsOf returns -/
noncomputable def flagF (r : Int) (ps : List Int) (xss : List (List Int)) : List (List Int) × Int :=
  if isPosB r ps xss = true then (if 400 < (allFl r ps xss).length then ([], 3) else (allFl r ps xss, 0)) else ([], 1)
/-- the reference's marks when the elements from F on have been looked at -/
def AlTo (r : Int) (ps : List Int) (xss : List (List Int)) (F j : Nat) : Prop := (F ≤ j ∧ Al r ps xss j) ∨ ∃ g, F ≤ g ∧ g < ps.length ∧ Al r ps xss g ∧ (j : Int) ∈ xss.getD g [] ∧ ps.getD g 0 = ps.getD j 0 + 1
theorem alTo_top {r : Int} {ps : List Int} {xss : List (List Int)} (j : Nat) (hj : j < ps.length) : ¬ AlTo r ps xss ps.length j := by
  rintro (⟨h, _⟩ | ⟨g, h1, h2, _⟩) <;> omega
theorem alTo_al {r : Int} {ps : List Int} {xss : List (List Int)} {F j : Nat} (hj : j < ps.length) (h : AlTo r ps xss F j) : Al r ps xss j := by
  rcases h with ⟨_, h⟩ | ⟨g, _, h2, h3, h4, h5⟩
  · exact h
  · exact .up hj h2 h5 h4 h3
theorem alTo_zero {r : Int} {ps : List Int} {xss : List (List Int)} {j : Nat} (hj : j < ps.length) : AlTo r ps xss 0 j ↔ Al r ps xss j := ⟨alTo_al hj, fun h => .inl ⟨by omega, h⟩⟩
/-- whether the element at hand is marked after the test of its rank -/
theorem al_here {r : Int} {ps : List Int} {xss : List (List Int)} (hp : PosP r ps xss) {f : Nat} (hf : f < ps.length) : Al r ps xss f ↔ (AlTo r ps xss (f + 1) f ∨ ps.getD f 0 = r - 1) := by
  constructor
  · intro h
    cases h with
    | top _ h => exact .inr h
    | up _ h2 h3 h4 h5 => exact .inl (.inr ⟨_, up_lt hp h2 h4, h2, h5, h4, h3⟩)
  · rintro (h | h)
    · exact alTo_al hf h
    · exact .top hf h
/-- the marks within the row of the element f, its first i places looked at -/
def AlIn (r : Int) (ps : List Int) (xss : List (List Int)) (f i j : Nat) : Prop := AlTo r ps xss (f + 1) j ∨ (j = f ∧ Al r ps xss f) ∨ (Al r ps xss f ∧ (j : Int) ∈ (xss.getD f []).take i ∧ ps.getD f 0 = ps.getD j 0 + 1)
theorem alIn_done {r : Int} {ps : List Int} {xss : List (List Int)} {f i j : Nat} (hf : f < ps.length) (hj : j < ps.length) (h : (xss.getD f []).length ≤ i ∨ ¬ Al r ps xss f) : AlIn r ps xss f i j ↔ AlTo r ps xss f j := by
  constructor
  · rintro (h1 | ⟨rfl, h2⟩ | ⟨h2, h3, h4⟩)
    · rcases h1 with ⟨a, b⟩ | ⟨g, a, b⟩
      · exact .inl ⟨by omega, b⟩
      · exact .inr ⟨g, by omega, b⟩
    · exact .inl ⟨Nat.le_refl _, h2⟩
    · exact .inr ⟨f, Nat.le_refl _, hf, h2, List.mem_of_mem_take h3, h4⟩
  · rintro (⟨a, b⟩ | ⟨g, a, b, c, d, e⟩)
    · by_cases e : j = f
      · subst e; exact .inr (.inl ⟨rfl, b⟩)
      · exact .inl (.inl ⟨by omega, b⟩)
    · by_cases e' : g = f
      · subst e'
        rcases h with h | h
        · exact .inr (.inr ⟨c, by rwa [List.take_of_length_le h], e⟩)
        · exact absurd c h
      · exact .inl (.inr ⟨g, by omega, b, c, d, e⟩)
/-- a row of marks -/
noncomputable def alR (p : Nat → Prop) (N : Nat) : List Bool := (List.range N).map fun j => decide (p j)
theorem alR_length (p : Nat → Prop) (N : Nat) : (alR p N).length = N := by simp [alR]
theorem alR_get {p : Nat → Prop} {N j : Nat} (h : j < N) : (alR p N)[j]? = some (decide (p j)) := by simp [alR, h]
theorem alR_congr {p q : Nat → Prop} {N : Nat} (h : ∀ j, j < N → (p j ↔ q j)) : alR p N = alR q N := by
  apply List.ext_getElem?
  intro j
  by_cases hj : j < N
  · rw [alR_get hj, alR_get hj]
    congr 1
    exact decide_eq_decide.2 (h j hj)
  · rw [List.getElem?_eq_none (by rw [alR_length]; omega), List.getElem?_eq_none (by rw [alR_length]; omega)]
theorem alR_set {p q : Nat → Prop} {N f : Nat} {b : Bool} (hb : b = decide (q f)) (h : ∀ j, j < N → j ≠ f → (p j ↔ q j)) : (alR p N).set f b = alR q N := by
  apply List.ext_getElem?
  intro j
  by_cases hj : j < N
  · rw [List.getElem?_set, alR_length, alR_get hj]
    by_cases e : f = j
    · subst e; rw [if_pos rfl, if_pos hj, hb, alR_get hj]
    · rw [if_neg e, alR_get hj]
      congr 1
      exact decide_eq_decide.2 (h j hj (fun e' => e e'.symm))
  · rw [List.getElem?_eq_none (by rw [List.length_set, alR_length]; omega), List.getElem?_eq_none (by rw [alR_length]; omega)]
theorem alR_false (p : Nat → Prop) (N : Nat) (h : ∀ j, j < N → ¬ p j) : alR p N = List.replicate N false := by
  apply List.ext_getElem?
  intro j
  by_cases hj : j < N
  · rw [alR_get hj]; simp [hj, h j hj]
  · rw [List.getElem?_eq_none (by rw [alR_length]; omega), List.getElem?_eq_none (by simp; omega)]
section
variable {r : Int} {ps : List Int} {xss : List (List Int)} {f : Nat}
theorem alIn_top (hp : PosP r ps xss) (hf : f < ps.length) (ht : ps.getD f 0 = r - 1) : (alR (AlTo r ps xss (f + 1)) ps.length).set f true = alR (AlIn r ps xss f 0) ps.length := by
  have ha : Al r ps xss f := .top hf ht
  refine alR_set ?_ fun j hj hne => ?_
  · symm; exact decide_eq_true (.inr (.inl ⟨rfl, ha⟩))
  · constructor
    · exact .inl
    · rintro (h | ⟨h, _⟩ | ⟨_, h, _⟩)
      · exact h
      · exact absurd h hne
      · simp at h
theorem alIn_low (hp : PosP r ps xss) (hf : f < ps.length) (ht : ps.getD f 0 ≠ r - 1) : alR (AlTo r ps xss (f + 1)) ps.length = alR (AlIn r ps xss f 0) ps.length := by
  refine alR_congr fun j hj => ?_
  constructor
  · exact .inl
  · rintro (h | ⟨h, h2⟩ | ⟨_, h, _⟩)
    · exact h
    · subst h
      rcases (al_here hp hf).1 h2 with h | h
      · exact h
      · exact absurd h ht
    · simp at h
theorem alIn_self (hp : PosP r ps xss) (hf : f < ps.length) (i : Nat) : AlIn r ps xss f i f ↔ Al r ps xss f := by
  constructor
  · rintro (h | ⟨_, h⟩ | ⟨h, _⟩)
    · exact alTo_al hf h
    · exact h
    · exact h
  · exact fun h => .inr (.inl ⟨rfl, h⟩)
theorem alIn_step {i : Nat} {e : Int} (ha : Al r ps xss f) (he : (xss.getD f [])[i]? = some e) (j : Nat) : AlIn r ps xss f (i + 1) j ↔ (AlIn r ps xss f i j ∨ ((j : Int) = e ∧ ps.getD f 0 = ps.getD j 0 + 1)) := by
  unfold AlIn
  rw [take_succ_of he]
  simp only [List.mem_append, List.mem_singleton]
  constructor
  · rintro (h | h | ⟨h1, h2 | h2, h3⟩)
    · exact .inl (.inl h)
    · exact .inl (.inr (.inl h))
    · exact .inl (.inr (.inr ⟨h1, h2, h3⟩))
    · exact .inr ⟨h2, h3⟩
  · rintro ((h | h | ⟨h1, h2, h3⟩) | ⟨h1, h2⟩)
    · exact .inl h
    · exact .inr (.inl h)
    · exact .inr (.inr ⟨h1, .inl h2, h3⟩)
    · exact .inr (.inr ⟨ha, .inr h1, h2⟩)
theorem alIn_mark {i e : Nat} (ha : Al r ps xss f) (he : (xss.getD f [])[i]? = some (e : Int)) (hr : ps.getD f 0 = ps.getD e 0 + 1) : (alR (AlIn r ps xss f i) ps.length).set e true = alR (AlIn r ps xss f (i + 1)) ps.length := by
  refine alR_set ?_ fun j hj hne => ?_
  · symm; exact decide_eq_true ((alIn_step ha he e).2 (.inr ⟨rfl, hr⟩))
  · rw [alIn_step ha he j]
    constructor
    · exact .inl
    · rintro (h | ⟨h, _⟩)
      · exact h
      · exact absurd (by omega) hne
theorem alIn_pass {i e : Nat} (ha : Al r ps xss f) (he : (xss.getD f [])[i]? = some (e : Int)) (hr : ps.getD f 0 ≠ ps.getD e 0 + 1) : alR (AlIn r ps xss f i) ps.length = alR (AlIn r ps xss f (i + 1)) ps.length := by
  refine alR_congr fun j hj => ?_
  rw [alIn_step ha he j]
  constructor
  · exact .inl
  · rintro (h | ⟨h, h2⟩)
    · exact h
    · have : j = e := by omega
      subst this
      exact absurd h2 hr
end
end Go.Proofs.YtebdfhkimnlglaaDoor
