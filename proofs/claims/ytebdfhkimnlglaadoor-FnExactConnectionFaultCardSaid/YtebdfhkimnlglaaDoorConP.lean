/- Plain: flags that changes of elements link; the first two flags that are parted. No program in sight. No condition. -/
import Derived.Test.YtebdfhkimnlglaaDoorLabG
import Derived.Test.YtebdfhkimnlglaaDoorFlgP
import Derived.Test.YtebdfhkimnlglaaDoorGrpP
namespace Go.Proofs.YtebdfhkimnlglaaDoor
set_option linter.unusedVariables false
set_option maxRecDepth 100000
/-- the element of rank k of flag x -/
def at2 (fl : List (List Int)) (x k : Nat) : Int := (fl.getD x []).getD k 0
/-- flags of R elements, each of them once -/
structure FlOk (R : Nat) (fl : List (List Int)) : Prop where
  nd : fl.Nodup
  len : ∀ t ∈ fl, t.length = R
  rng : ∀ t ∈ fl, ∀ x ∈ t, SmallI x
  n4 : fl.length ≤ 400
  r5 : R ≤ 5
/-- two flags that differ in one element at most, of a rank that is not in common -/
def Sc (fl : List (List Int)) (R : Nat) (c : Nat → Bool) (x y : Nat) : Prop := x < fl.length ∧ y < fl.length ∧ ∃ i, i < R ∧ c i = false ∧ ∀ k, k < R → k ≠ i → at2 fl x k = at2 fl y k
/-- the flags that have what is common with a -/
def Vc (fl : List (List Int)) (R : Nat) (c : Nat → Bool) (a x : Nat) : Prop := x < fl.length ∧ ∀ k, k < R → c k = true → at2 fl x k = at2 fl a k
/-- all flags -/
def Va (fl : List (List Int)) (x : Nat) : Prop := x < fl.length
theorem sv_all (fl : List (List Int)) (R : Nat) (c : Nat → Bool) : SV (Sc fl R c) (Va fl) fl.length :=
  ⟨fun x y _ h => h.2.1, fun x y _ ⟨h1, h2, i, hi, hc, h⟩ => ⟨h2, h1, i, hi, hc, fun k hk hne => (h k hk hne).symm⟩, fun x h => h⟩
theorem sv_com (fl : List (List Int)) (R : Nat) (c : Nat → Bool) (a : Nat) : SV (Sc fl R c) (Vc fl R c a) fl.length :=
  ⟨fun x y hx ⟨h1, h2, i, hi, hc, h⟩ => ⟨h2, fun k hk hck => by
    have hne : k ≠ i := fun e => by rw [e, hc] at hck; cases hck
    rw [← h k hk hne]
    exact hx.2 k hk hck⟩, fun x y _ ⟨h1, h2, i, hi, hc, h⟩ => ⟨h2, h1, i, hi, hc, fun k hk hne => (h k hk hne).symm⟩, fun x h => h.1⟩
theorem at2_row {fl : List (List Int)} {x k : Nat} {t : List Int} (ht : fl[x]? = some t) : at2 fl x k = t.getD k 0 := by
  have : fl.getD x [] = t := by rw [List.getD_eq_getElem?_getD, ht]; rfl
  unfold at2
  rw [this]
theorem at2_get {fl : List (List Int)} {x k : Nat} {t : List Int} {v : Int} (ht : fl[x]? = some t) (hv : t[k]? = some v) : at2 fl x k = v := by
  rw [at2_row ht, List.getD_eq_getElem?_getD, hv]; rfl
/-- flags with the same elements are one -/
theorem FlOk.inj {R : Nat} {fl : List (List Int)} (h : FlOk R fl) {x y : Nat} (hx : x < fl.length) (hy : y < fl.length) (he : ∀ k, k < R → at2 fl x k = at2 fl y k) : x = y := by
  have e1 : fl[x]? = some fl[x] := List.getElem?_eq_getElem hx
  have e2 : fl[y]? = some fl[y] := List.getElem?_eq_getElem hy
  have l1 := h.len fl[x] (List.getElem_mem hx)
  have l2 := h.len fl[y] (List.getElem_mem hy)
  have : fl[x] = fl[y] := by
    apply List.ext_getElem (by omega)
    intro k h1 h2
    have := he k (by omega)
    rw [at2_row e1, at2_row e2, List.getD_eq_getElem?_getD, List.getD_eq_getElem?_getD, List.getElem?_eq_getElem h1, List.getElem?_eq_getElem h2] at this
    exact this
  have hp := List.pairwise_iff_getElem.1 (List.nodup_iff_pairwise_ne.1 h.nd)
  rcases Nat.lt_trichotomy x y with hlt | hlt | hlt
  · exact absurd this (hp x y hx hy hlt)
  · exact hlt
  · exact absurd this.symm (hp y x hy hx hlt)
/-- what is common to two flags -/
def comC (fl : List (List Int)) (a b k : Nat) : Bool := decide (at2 fl a k = at2 fl b k)
/-- the flags a and b are linked -/
def Lnk (fl : List (List Int)) (R a b : Nat) : Prop := Rc (Sc fl R (comC fl a b)) a b
def IsPar (fl : List (List Int)) (R : Nat) (zs : List Int) : Prop :=
  ((∀ a b : Nat, a < b → b < fl.length → Lnk fl R a b) ∧ zs = []) ∨
  ∃ a b : Nat, a < b ∧ b < fl.length ∧ ¬ Lnk fl R a b ∧ (∀ a' b' : Nat, a' < b' → b' < fl.length → (a' < a ∨ (a' = a ∧ b' < b)) → Lnk fl R a' b') ∧ zs = [(a : Int), (b : Int)]
theorem isPar_uniq {fl : List (List Int)} {R : Nat} {zs zs' : List Int} (h : IsPar fl R zs) (h' : IsPar fl R zs') : zs = zs' := by
  rcases h with ⟨h1, rfl⟩ | ⟨a, b, h1, h2, h3, h4, rfl⟩ <;> rcases h' with ⟨g1, rfl⟩ | ⟨c, d, g1, g2, g3, g4, rfl⟩
  · rfl
  · exact absurd (h1 c d g1 g2) g3
  · exact absurd (g1 a b h1 h2) h3
  · have hac : a = c := by
      rcases Nat.lt_trichotomy a c with h | h | h
      · exact absurd (g4 a b h1 h2 (.inl h)) h3
      · exact h
      · exact absurd (h4 c d g1 g2 (.inl h)) g3
    subst hac
    have hbd : b = d := by
      rcases Nat.lt_trichotomy b d with h | h | h
      · exact absurd (g4 a b h1 h2 (.inr ⟨rfl, h⟩)) h3
      · exact h
      · exact absurd (h4 a d g1 g2 (.inr ⟨rfl, h⟩)) g3
    subst hbd
    rfl
open Classical in
/-- the first two flags that are parted, or none -/
noncomputable def parL (fl : List (List Int)) (R : Nat) : List Int := if h : ∃ zs, IsPar fl R zs then h.choose else []
theorem parL_of {fl : List (List Int)} {R : Nat} {zs : List Int} (h : IsPar fl R zs) : parL fl R = zs := by
  have hx : ∃ zs, IsPar fl R zs := ⟨zs, h⟩
  unfold parL
  rw [dif_pos hx]
  exact isPar_uniq hx.choose_spec h
/-- all pairs ahead of (a, b) are linked -/
def ParI (fl : List (List Int)) (R a b : Nat) : Prop := ∀ a' b' : Nat, a' < b' → b' < fl.length → (a' < a ∨ (a' = a ∧ b' < b)) → Lnk fl R a' b'
theorem ParI.zero (fl : List (List Int)) (R : Nat) : ParI fl R 0 1 := fun a' b' h1 h2 h3 => by omega
theorem ParI.first {fl : List (List Int)} {R a : Nat} (h : ParI fl R a (a + 1)) : ParI fl R a (a + 1) := h
theorem ParI.step {fl : List (List Int)} {R a b : Nat} (h : ParI fl R a b) (hl : Lnk fl R a b) : ParI fl R a (b + 1) := fun a' b' h1 h2 h3 => by
  rcases h3 with h3 | ⟨h3, h4⟩
  · exact h a' b' h1 h2 (.inl h3)
  · by_cases e : b' = b
    · subst h3; subst e; exact hl
    · exact h a' b' h1 h2 (.inr ⟨h3, by omega⟩)
theorem ParI.next {fl : List (List Int)} {R a b : Nat} (h : ParI fl R a b) (hb : fl.length ≤ b) : ParI fl R (a + 1) (a + 2) := fun a' b' h1 h2 h3 => by
  rcases h3 with h3 | ⟨h3, h4⟩
  · by_cases e : a' = a
    · exact h a' b' h1 h2 (.inr ⟨e, by omega⟩)
    · exact h a' b' h1 h2 (.inl (by omega))
  · omega
theorem ParI.none {fl : List (List Int)} {R a b : Nat} (h : ParI fl R a b) (ha : fl.length ≤ a) : parL fl R = [] := parL_of (.inl ⟨fun a' b' h1 h2 => h a' b' h1 h2 (.inl (by omega)), rfl⟩)
theorem ParI.some_ {fl : List (List Int)} {R a b : Nat} (h : ParI fl R a b) (h1 : a < b) (h2 : b < fl.length) (h3 : ¬ Lnk fl R a b) : parL fl R = [(a : Int), (b : Int)] := parL_of (.inr ⟨a, b, h1, h2, h3, h, rfl⟩)
/-- in how many of the first k places two lists differ -/
def difN (a b : List Int) : Nat → Nat
  | 0 => 0
  | k + 1 => difN a b k + (if a.getD k 0 = b.getD k 0 then 0 else 1)
theorem difN_le (a b : List Int) : ∀ k, difN a b k ≤ k
  | 0 => Nat.le_refl _
  | k + 1 => by have := difN_le a b k; unfold difN; split <;> omega
theorem difN_zero {a b : List Int} : ∀ {k : Nat}, difN a b k = 0 ↔ ∀ j, j < k → a.getD j 0 = b.getD j 0
  | 0 => ⟨fun _ j hj => by omega, fun _ => rfl⟩
  | k + 1 => by
    unfold difN
    constructor
    · intro h j hj
      by_cases e : a.getD k 0 = b.getD k 0
      · rw [if_pos e] at h
        by_cases ej : j = k
        · subst ej; exact e
        · exact difN_zero.1 (by omega) j (by omega)
      · rw [if_neg e] at h; omega
    · intro h
      rw [if_pos (h k (by omega)), difN_zero.2 (fun j hj => h j (by omega))]
theorem difN_one {a b : List Int} : ∀ {k i : Nat}, i < k → ((difN a b k = 1 ∧ a.getD i 0 ≠ b.getD i 0) ↔ (a.getD i 0 ≠ b.getD i 0 ∧ ∀ j, j < k → j ≠ i → a.getD j 0 = b.getD j 0))
  | 0, i, hi => by omega
  | k + 1, i, hi => by
    unfold difN
    constructor
    · rintro ⟨h, hne⟩
      refine ⟨hne, fun j hj hji => ?_⟩
      by_cases ei : i = k
      · subst ei
        rw [if_neg hne] at h
        exact (difN_zero (k := i)).1 (by omega) j (by omega)
      · have h0 : difN a b k ≠ 0 := fun e => hne (difN_zero.1 e i (by omega))
        by_cases e : a.getD k 0 = b.getD k 0
        · rw [if_pos e] at h
          by_cases ej : j = k
          · subst ej; exact e
          · exact ((difN_one (by omega : i < k)).1 ⟨by omega, hne⟩).2 j (by omega) hji
        · rw [if_neg e] at h; omega
    · rintro ⟨hne, h⟩
      refine ⟨?_, hne⟩
      by_cases ei : i = k
      · subst ei
        rw [if_neg hne, difN_zero.2 (fun j hj => h j (by omega) (by omega))]
      · rw [if_pos (h k (by omega) (fun e => ei e.symm))]
        exact ((difN_one (by omega : i < k)).2 ⟨hne, fun j hj hji => h j (by omega) hji⟩).1
/-- the list of flags that growF gives has each of them once -/
theorem growF_pre (r : Int) (ps : List Int) (xss : List (List Int)) : ∀ (k : Nat) (s : List Int), ∀ t ∈ growF r ps xss k s, s <+: t
  | 0, s, t, h => by rw [growF_zero] at h; simp at h; subst h; exact List.prefix_refl _
  | k + 1, s, t, h => by
    rw [growF_succ] at h
    obtain ⟨x, _, hx⟩ := List.mem_flatMap.1 h
    exact (List.prefix_append s [x]).trans (growF_pre r ps xss k (s ++ [x]) t hx)
theorem nodup_flatMap {α β : Type} {f : α → List β} : ∀ {l : List α}, l.Nodup → (∀ x ∈ l, (f x).Nodup) → (∀ x ∈ l, ∀ y ∈ l, x ≠ y → ∀ z ∈ f x, z ∉ f y) → (l.flatMap f).Nodup
  | [], _, _, _ => by simp
  | a :: l, hn, h1, h2 => by
    obtain ⟨ha, hl⟩ := List.nodup_cons.1 hn
    rw [List.flatMap_cons, List.nodup_append]
    refine ⟨h1 a (by simp), nodup_flatMap hl (fun x hx => h1 x (by simp [hx])) (fun x hx y hy => h2 x (by simp [hx]) y (by simp [hy])), fun z hz w hw e => ?_⟩
    subst e
    obtain ⟨y, hy, hyz⟩ := List.mem_flatMap.1 hw
    exact h2 a (by simp) y (by simp [hy]) (fun e => ha (e ▸ hy)) z hz hyz
theorem growF_nd (r : Int) (ps : List Int) (xss : List (List Int)) : ∀ (k : Nat) (s : List Int), Chn ps s → (growF r ps xss k s).Nodup ∧ ∀ t ∈ growF r ps xss k s, ∀ x ∈ t, 0 ≤ x ∧ x < (ps.length : Nat)
  | 0, s, hc => ⟨by rw [growF_zero]; simp, fun t ht x hx => by rw [growF_zero] at ht; simp at ht; subst ht; exact hc.1 x hx⟩
  | k + 1, s, hc => by
    rw [growF_succ]
    have hnx : (nxL r ps xss s ps.length).Nodup := by
      have key : ∀ m, (nxL r ps xss s m).Nodup ∧ ∀ x ∈ nxL r ps xss s m, x < (m : Nat) := by
        intro m
        induction m with
        | zero =>
          have : nxL r ps xss s 0 = [] := by unfold nxL; split <;> simp [firstL, upL]
          rw [this]; simp
        | succ m ih =>
          rw [nxL_succ hc]
          by_cases e : Nx r ps xss s m
          · rw [if_pos e]
            refine ⟨?_, fun x hx => ?_⟩
            · rw [List.nodup_append]
              refine ⟨ih.1, by simp, fun a ha b hb e2 => ?_⟩
              simp at hb
              subst hb
              have := ih.2 a ha
              omega
            · rcases List.mem_append.1 hx with hx | hx
              · have := ih.2 x hx; omega
              · simp at hx; omega
          · rw [if_neg e, List.append_nil]
            exact ⟨ih.1, fun x hx => by have := ih.2 x hx; omega⟩
      exact (key ps.length).1
    refine ⟨nodup_flatMap hnx (fun x hx => (growF_nd r ps xss k (s ++ [x]) (chn_snoc hc hx).1).1) (fun x hx y hy hxy z hz hz2 => ?_), fun t ht => ?_⟩
    · obtain ⟨t1, e1⟩ := growF_pre r ps xss k (s ++ [x]) z hz
      obtain ⟨t2, e2⟩ := growF_pre r ps xss k (s ++ [y]) z hz2
      rw [← e1] at e2
      simp at e2
      exact hxy e2.1.symm
    · obtain ⟨x, hx, h2⟩ := List.mem_flatMap.1 ht
      exact (growF_nd r ps xss k (s ++ [x]) (chn_snoc hc hx).1).2 t h2
end Go.Proofs.YtebdfhkimnlglaaDoor
