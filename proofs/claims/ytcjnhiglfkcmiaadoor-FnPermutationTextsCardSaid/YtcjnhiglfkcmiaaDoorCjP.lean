/- Plain: the cycles of a permutation are its orbits; conjugate permutations have the same lengths of cycles; conjugating twice. No program in sight. No condition. -/
import Derived.Test.YtcjnhiglfkcmiaaDoorOrbO
import Derived.Test.YtcjnhiglfkcmiaaDoorOrdP
namespace Go.Proofs.YtcjnhiglfkcmiaaDoor
set_option linter.unusedVariables false
set_option maxRecDepth 100000
open Classical
theorem one_sys {p : List Int} (h : isPermP p) : SysOf [p] p.length := by
  intro q hq
  simp at hq
  subst hq
  exact ⟨h.rng, h.nd, rfl⟩
theorem at_mem {p : List Int} {n : Nat} {x : Int} (hl : p.length = n) (h0 : 0 ≤ x) (h1 : x < n) : p[x.toNat]? = some (at' p x) := get?_getD 0 (by omega)
/-- one cycle is one orbit -/
theorem cycGo_cls {p : List Int} {n : Nat} (hs : SysOf [p] n) {i : Nat} (hi : i < n) {O : Int → Prop} (hO : ∀ y, Rch [p] i y → ¬ O y) : ∀ (f : Nat) (bs : List Bool) (x : Int) (c : List Int),
    c.Nodup → (∀ y : Nat, y < n → bs[y]? = some (decide (O y ∨ (y : Int) ∈ c))) → bs.length = n → (∀ y ∈ c, Rch [p] i y) → Rch [p] i x → ((i : Int) ∈ c ∨ (c = [] ∧ x = i)) → (∀ y ∈ c, at' p y ∈ c ∨ at' p y = x) → n < f + c.length →
    ∃ bs' c', cycGo p f bs x c = (bs', c') ∧ c'.Nodup ∧ (∀ y : Nat, y < n → bs'[y]? = some (decide (O y ∨ (y : Int) ∈ c'))) ∧ bs'.length = n ∧ ∀ y, y ∈ c' ↔ Rch [p] i y := by
  obtain ⟨hrng, hnd, hl⟩ := hs p (by simp)
  intro f
  induction f with
  | zero =>
    intro bs x c hc hb hbl hr hx hi0 hcl hn
    exfalso
    have h1 := nodup_sub_len c ((List.range n).map Int.ofNat) hc (fun a ha => by
      obtain ⟨h0, h1⟩ := (hr a ha).rng hs (by omega) (by omega)
      exact mem_ints.2 ⟨h0, h1⟩)
    simp at h1
    omega
  | succ f ih =>
    intro bs x c hc hb hbl hr hx hi0 hcl hn
    obtain ⟨hx0, hx1⟩ := hx.rng hs (by omega) (by omega)
    have hbx := hb x.toNat (by omega)
    rw [Int.toNat_of_nonneg hx0] at hbx
    by_cases hm : x ∈ c
    · rw [decide_eq_true (.inr hm)] at hbx
      refine ⟨bs, c, cycGo_stop hbx, hc, hb, hbl, fun y => ⟨hr y, fun h => ?_⟩⟩
      have hic : (i : Int) ∈ c := by
        rcases hi0 with h | ⟨h, _⟩
        · exact h
        · rw [h] at hm; simp at hm
      induction h with
      | refl => exact hic
      | step hh hp ih2 =>
        simp at hp
        subst hp
        rcases hcl _ ih2 with h | h
        · exact h
        · rw [h]; exact hm
    · have hno : ¬ (O x ∨ x ∈ c) := by
        rintro (h | h)
        · exact hO x hx h
        · exact hm h
      rw [decide_eq_false hno] at hbx
      rw [cycGo_step hbx (at_mem hl hx0 hx1)]
      refine ih (bs.set x.toNat true) (at' p x) (c ++ [x]) ?_ ?_ (by simpa using hbl) ?_ (hx.step (by simp)) ?_ ?_ (by simp; omega)
      · rw [List.nodup_append]
        refine ⟨hc, by simp, fun a ha b hb e => ?_⟩
        simp at hb
        subst hb
        subst e
        exact hm ha
      · intro y hy
        rw [List.getElem?_set]
        by_cases e : x.toNat = y
        · rw [if_pos e, if_pos (by omega)]
          congr 1
          symm
          exact decide_eq_true (.inr (by rw [List.mem_append]; right; simp; omega))
        · rw [if_neg e, hb y hy]
          congr 1
          refine decide_eq_decide.2 ⟨fun h => h.imp id (fun h => by simp [h]), fun h => h.imp id (fun h => ?_)⟩
          rcases List.mem_append.1 h with h | h
          · exact h
          · simp at h; omega
      · intro y hy
        rcases List.mem_append.1 hy with h | h
        · exact hr y h
        · simp at h; subst h; exact hx
      · left
        rcases hi0 with h | ⟨h, h2⟩
        · simp [h]
        · simp [h2]
      · intro y hy
        rcases List.mem_append.1 hy with h | h
        · rcases hcl y h with h | h
          · left; simp [h]
          · left; simp [h]
        · simp at h; subst h; right; rfl
/-- the number of points of an orbit -/
noncomputable def os (p : List Int) (x : Int) : Nat := (bfs [p] p.length x).length
theorem os_of {p : List Int} (hp : isPermP p) {x : Int} (h0 : 0 ≤ x) (h1 : x < (p.length : Nat)) {c : List Int} (hc : c.Nodup) (hm : ∀ y, y ∈ c ↔ Rch [p] x y) : c.length = os p x := by
  have hs := one_sys hp
  have hb := bfs_met hs h0 h1
  exact (perm_of_mem hc hb.nd (fun a => (hm a).trans (bfs_mem hs h0 h1).symm)).length_eq
/-- the least points of orbits -/
noncomputable def roots (p : List Int) (k : Nat) : List Int := ((List.range k).filter (rootB [p])).map Int.ofNat
theorem roots_succ (p : List Int) (k : Nat) : roots p (k + 1) = roots p k ++ (if rootB [p] k = true then [(k : Int)] else []) := by
  unfold roots
  rw [List.range_succ, List.filter_append, List.map_append]
  congr 1
  split <;> simp_all
theorem cycLoop_cls {p : List Int} (hp : isPermP p) : ∀ i, i ≤ p.length → ∃ bs cs, cycLoop p p.length i = (bs, cs) ∧ (∀ y : Nat, y < p.length → bs[y]? = some (decide (Old [p] i y))) ∧ bs.length = p.length ∧ cs.map List.length = (roots p i).map (os p) := by
  have hs := one_sys hp
  intro i
  induction i with
  | zero =>
    intro _
    refine ⟨_, _, rfl, fun y hy => ?_, by simp, by simp [roots]⟩
    have : ¬ Old [p] 0 y := by rintro ⟨j, hj, _⟩; omega
    rw [decide_eq_false this]
    simp [hy]
  | succ i ih =>
    intro hi
    obtain ⟨bs, cs, e, hb, hbl, hc⟩ := ih (by omega)
    by_cases ho : Old [p] i i
    · have hbi := hb i (by omega)
      rw [decide_eq_true ho] at hbi
      have h2 : cycGo p (p.length + 1) bs (i : Int) [] = (bs, []) := cycGo_stop (by simpa using hbi)
      refine ⟨bs, cs, ?_, fun y hy => ?_, hbl, ?_⟩
      · rw [cycLoop_succ e h2, if_pos rfl]
      · rw [hb y hy]
        congr 1
        exact decide_eq_decide.2 (Old.step hs (by omega) ho).symm
      · rw [roots_succ, if_neg (by rw [root_iff]; exact fun h => h ho), List.append_nil]
        exact hc
    · obtain ⟨bq, ys, h2, hnd, hbq, hbql, hmem⟩ := cycGo_cls hs (i := i) (by omega) (O := Old [p] i) (fun y hy => not_old hs (by omega) ho hy) (p.length + 1) bs (i : Int) [] (by simp) (fun y hy => by rw [hb y hy]; simp) hbl (by simp) .refl (.inr ⟨rfl, rfl⟩) (by simp) (by simp)
      have hne : ys ≠ [] := by
        intro h
        have := (hmem i).2 .refl
        rw [h] at this
        simp at this
      refine ⟨bq, cs ++ [ys], ?_, fun y hy => ?_, hbql, ?_⟩
      · rw [cycLoop_succ e h2, if_neg hne]
      · rw [hbq y hy]
        congr 1
        refine decide_eq_decide.2 (Iff.trans ?_ Old.new.symm)
        rw [hmem]
      · rw [roots_succ, if_pos (by rw [root_iff]; exact ho), List.map_append, List.map_append, hc]
        congr 1
        have := os_of hp (by omega) (by omega) hnd hmem
        simp [this]
theorem cycLens_eq {p : List Int} (hp : isPermP p) : cycLens p = (roots p p.length).map (os p) := by
  obtain ⟨bs, cs, e, _, _, hc⟩ := cycLoop_cls hp p.length (Nat.le_refl _)
  unfold cycLens cycAll
  rw [e]
  exact hc
/-- p conjugated by q -/
def conjL (p q : List Int) : List Int := thenL (thenL (invL q) p) q
section
variable {p q : List Int} {n : Nat}
theorem conjL_length (p q : List Int) : (conjL p q).length = q.length := by unfold conjL; rw [thenL_length, thenL_length, invL_length]
theorem conjL_perm (hp : isPermP p) (hq : isPermP q) (hl : p.length = q.length) : isPermP (conjL p q) :=
  thenL_perm (thenL_perm (invL_perm hq) hp (by rw [invL_length]; omega)) hq (by rw [thenL_length, invL_length])
theorem at_rng (hp : isPermP p) {x : Int} (h0 : 0 ≤ x) (h1 : x < (p.length : Nat)) : 0 ≤ at' p x ∧ at' p x < (p.length : Nat) := hp.rng _ (mem_of_get? (at_mem rfl h0 h1))
theorem at_inj (hp : isPermP p) {x y : Int} (h0 : 0 ≤ x) (h1 : x < (p.length : Nat)) (g0 : 0 ≤ y) (g1 : y < (p.length : Nat)) (h : at' p x = at' p y) : x = y := by
  have e1 := idxOf_of_get? hp.nd (at_mem rfl h0 h1)
  have e2 := idxOf_of_get? hp.nd (at_mem rfl g0 g1)
  rw [h, e2] at e1
  omega
theorem at_sur (hp : isPermP p) {z : Int} (h0 : 0 ≤ z) (h1 : z < (p.length : Nat)) : ∃ x : Int, 0 ≤ x ∧ x < (p.length : Nat) ∧ at' p x = z := by
  obtain ⟨k, hk⟩ := List.mem_iff_getElem?.1 (perm_mem rfl hp.rng hp.nd h0 h1)
  have hkl := (List.getElem?_eq_some_iff.1 hk).1
  exact ⟨(k : Int), by omega, by omega, by unfold at'; rw [Int.toNat_natCast]; exact getD_some hk⟩
theorem then_at (hl : p.length = n) {x : Int} (h0 : 0 ≤ x) (h1 : x < n) : at' (thenL p q) x = at' q (at' p x) := by
  have := thenL_get (q := q) (at_mem hl h0 h1)
  unfold at' at *
  exact getD_some this
theorem inv_at (hq : isPermP q) {x : Int} (h0 : 0 ≤ x) (h1 : x < (q.length : Nat)) : at' (invL q) (at' q x) = x := by
  obtain ⟨g0, g1⟩ := at_rng hq h0 h1
  have e := invL_get (p := q) (j := (at' q x).toNat) (by omega)
  rw [Int.toNat_of_nonneg g0, idxOf_of_get? hq.nd (at_mem rfl h0 h1), Int.toNat_of_nonneg h0] at e
  exact getD_some e
theorem conj_at (hp : isPermP p) (hq : isPermP q) (hl : p.length = q.length) {x : Int} (h0 : 0 ≤ x) (h1 : x < (q.length : Nat)) : at' (conjL p q) (at' q x) = at' q (at' p x) := by
  obtain ⟨g0, g1⟩ := at_rng hq h0 h1
  unfold conjL
  rw [then_at (n := q.length) (by rw [thenL_length, invL_length]) g0 g1, then_at (n := q.length) (by rw [invL_length]) g0 g1, inv_at hq h0 h1]
theorem rch_conj (hp : isPermP p) (hq : isPermP q) (hl : p.length = q.length) {x y : Int} (h0 : 0 ≤ x) (h1 : x < (q.length : Nat)) (h : Rch [p] x y) : Rch [conjL p q] (at' q x) (at' q y) := by
  induction h with
  | refl => exact .refl
  | step hh hm ih =>
    simp at hm
    subst hm
    obtain ⟨g0, g1⟩ := hh.rng (one_sys hp) (by omega) (by omega)
    rw [← conj_at hp hq hl g0 (by omega)]
    exact ih.step (by simp)
theorem rch_conj' (hp : isPermP p) (hq : isPermP q) (hl : p.length = q.length) {x z : Int} (h0 : 0 ≤ x) (h1 : x < (q.length : Nat)) (h : Rch [conjL p q] (at' q x) z) : ∃ y, z = at' q y ∧ Rch [p] x y := by
  induction h with
  | refl => exact ⟨x, rfl, .refl⟩
  | step hh hm ih =>
    simp at hm
    subst hm
    obtain ⟨y, rfl, hy⟩ := ih
    obtain ⟨g0, g1⟩ := hy.rng (one_sys hp) (by omega) (by omega)
    exact ⟨at' p y, conj_at hp hq hl g0 (by omega), hy.step (by simp)⟩
theorem os_conj (hp : isPermP p) (hq : isPermP q) (hl : p.length = q.length) {x : Int} (h0 : 0 ≤ x) (h1 : x < (q.length : Nat)) : os (conjL p q) (at' q x) = os p x := by
  have hs := one_sys hp
  have hb := bfs_met hs h0 (show x < (p.length : Nat) by omega)
  obtain ⟨g0, g1⟩ := at_rng hq h0 h1
  have hrng : ∀ y ∈ bfs [p] p.length x, 0 ≤ y ∧ y < (q.length : Nat) := fun y hy => by have := hb.rng y hy; omega
  have h := os_of (conjL_perm hp hq hl) g0 (by rw [conjL_length]; exact g1) (c := (bfs [p] p.length x).map (at' q)) (by
    unfold List.Nodup
    rw [List.pairwise_map]
    refine List.Pairwise.imp_of_mem ?_ hb.nd
    intro a b ha hb2 hne e
    exact hne (at_inj hq (hrng a ha).1 (hrng a ha).2 (hrng b hb2).1 (hrng b hb2).2 e)) (fun z => by
    rw [List.mem_map]
    constructor
    · rintro ⟨y, hy, rfl⟩
      exact rch_conj hp hq hl h0 h1 ((bfs_mem hs h0 (by omega)).1 hy)
    · intro hz
      obtain ⟨y, rfl, hy⟩ := rch_conj' hp hq hl h0 h1 hz
      exact ⟨y, (bfs_mem hs h0 (by omega)).2 hy, rfl⟩)
  rw [List.length_map] at h
  exact h.symm
theorem os_class {c : List Int} (hc : isPermP c) {x y : Int} (h0 : 0 ≤ x) (h1 : x < (c.length : Nat)) (h : Rch [c] x y) : os c x = os c y := by
  have hs := one_sys hc
  obtain ⟨g0, g1⟩ := h.rng hs h0 h1
  have hb := bfs_met hs h0 h1
  exact os_of hc g0 g1 hb.nd (fun z => by
    rw [bfs_mem hs h0 h1]
    exact ⟨fun hz => (h.symm hs h0 h1).trans hz, fun hz => h.trans hz⟩)
theorem roots_mem {c : List Int} {k : Nat} {x : Int} : x ∈ roots c k ↔ 0 ≤ x ∧ x < k ∧ rootB [c] x.toNat = true := by
  unfold roots
  simp only [List.mem_map, List.mem_filter, List.mem_range]
  constructor
  · rintro ⟨a, ⟨h1, h2⟩, rfl⟩
    exact ⟨by simp, by simpa using h1, by simpa using h2⟩
  · rintro ⟨h0, h1, h2⟩
    exact ⟨x.toNat, ⟨by omega, h2⟩, by simp; omega⟩
theorem roots_nodup (c : List Int) (k : Nat) : (roots c k).Nodup := by
  unfold roots List.Nodup
  rw [List.pairwise_map]
  refine List.Pairwise.imp ?_ (List.Pairwise.filter _ List.nodup_range)
  intro a b h e
  exact h (Int.ofNat.inj e)
theorem root_min {c : List Int} {n : Nat} (hs : SysOf [c] n) {x y : Nat} (hx : rootB [c] x = true) (hxn : x < n) (hy : rootB [c] y = true) (hyn : y < n) (h : Rch [c] x y) : x = y := by
  rcases Nat.lt_trichotomy x y with h1 | h1 | h1
  · exact absurd ⟨x, h1, h⟩ (root_iff.1 hy)
  · exact h1
  · exact absurd ⟨y, h1, h.symm hs (by omega) (by omega)⟩ (root_iff.1 hx)
theorem cycLens_conj (hp : isPermP p) (hq : isPermP q) (hl : p.length = q.length) : (cycLens (conjL p q)).Perm (cycLens p) := by
  have hc := conjL_perm hp hq hl
  have hsp := one_sys hp
  have hsc := one_sys hc
  have hcl := conjL_length p q
  rw [hcl] at hsc
  rw [cycLens_eq hc, cycLens_eq hp, hcl]
  have hroot : ∀ y : Nat, y < q.length → rootB [conjL p q] (rootOf [conjL p q] y) = true ∧ rootOf [conjL p q] y < q.length ∧ Rch [conjL p q] (rootOf [conjL p q] y) y := fun y hy =>
    ⟨rootB_rootOf hsc hy, by have := rootOf_le [conjL p q] y; omega, (rootOf_spec [conjL p q] y).1⟩
  have hmap : ((roots p p.length).map fun r => (rootOf [conjL p q] (at' q r).toNat : Int)).Perm (roots (conjL p q) q.length) := by
    refine perm_of_mem ?_ (roots_nodup _ _) (fun z => ?_)
    · unfold List.Nodup
      rw [List.pairwise_map]
      refine List.Pairwise.imp_of_mem ?_ (roots_nodup p p.length)
      intro a b ha hb hne e
      obtain ⟨a0, a1, a2⟩ := roots_mem.1 ha
      obtain ⟨b0, b1, b2⟩ := roots_mem.1 hb
      obtain ⟨qa0, qa1⟩ := at_rng hq a0 (show a < (q.length : Nat) by omega)
      obtain ⟨qb0, qb1⟩ := at_rng hq b0 (show b < (q.length : Nat) by omega)
      obtain ⟨_, ra2, ra3⟩ := hroot (at' q a).toNat (by omega)
      obtain ⟨_, rb2, rb3⟩ := hroot (at' q b).toNat (by omega)
      rw [Int.toNat_of_nonneg qa0] at ra3
      rw [Int.toNat_of_nonneg qb0] at rb3
      have e2 : rootOf [conjL p q] (at' q a).toNat = rootOf [conjL p q] (at' q b).toNat := Int.ofNat.inj e
      rw [e2] at ra3
      have hab : Rch [conjL p q] (at' q a) (at' q b) := (ra3.symm hsc (by omega) (by omega)).trans rb3
      obtain ⟨y, hy, hr⟩ := rch_conj' hp hq hl a0 (by omega) hab
      obtain ⟨y0, y1⟩ := hr.rng hsp a0 (by omega)
      have : b = y := at_inj hq b0 (by omega) y0 (by omega) hy
      subst this
      apply hne
      have := root_min hsp a2 (by omega) b2 (by omega) (by rw [Int.toNat_of_nonneg a0, Int.toNat_of_nonneg b0]; exact hr)
      omega
    · rw [List.mem_map]
      constructor
      · rintro ⟨r, hr, rfl⟩
        obtain ⟨a0, a1, a2⟩ := roots_mem.1 hr
        obtain ⟨qa0, qa1⟩ := at_rng hq a0 (show r < (q.length : Nat) by omega)
        obtain ⟨r1, r2, r3⟩ := hroot (at' q r).toNat (by omega)
        exact roots_mem.2 ⟨by omega, by omega, by rw [Int.toNat_natCast]; exact r1⟩
      · intro hz
        obtain ⟨z0, z1, z2⟩ := roots_mem.1 hz
        obtain ⟨x, x0, x1, rfl⟩ := at_sur hq z0 z1
        have hpr : rootB [p] (rootOf [p] x.toNat) = true := rootB_rootOf hsp (by omega)
        have hpl := rootOf_le [p] x.toNat
        have hpx := (rootOf_spec [p] x.toNat).1
        rw [Int.toNat_of_nonneg x0] at hpx
        refine ⟨(rootOf [p] x.toNat : Int), roots_mem.2 ⟨by omega, by omega, by rw [Int.toNat_natCast]; exact hpr⟩, ?_⟩
        obtain ⟨qr0, qr1⟩ := at_rng hq (show (0 : Int) ≤ (rootOf [p] x.toNat : Int) by omega) (show (rootOf [p] x.toNat : Int) < (q.length : Nat) by omega)
        obtain ⟨r1, r2, r3⟩ := hroot (at' q (rootOf [p] x.toNat : Int)).toNat (by omega)
        rw [Int.toNat_of_nonneg qr0] at r3
        have h2 := rch_conj hp hq hl (by omega) (by omega) hpx
        have := root_min hsc r1 r2 z2 (by omega) (by rw [Int.toNat_of_nonneg z0]; exact r3.trans h2)
        omega
  refine ((hmap.map (os (conjL p q))).symm).trans ?_
  rw [List.map_map]
  have : (roots p p.length).map (os (conjL p q) ∘ fun r => (rootOf [conjL p q] (at' q r).toNat : Int)) = (roots p p.length).map (os p) := by
    refine List.map_congr_left fun r hr => ?_
    obtain ⟨a0, a1, a2⟩ := roots_mem.1 hr
    obtain ⟨qa0, qa1⟩ := at_rng hq a0 (show r < (q.length : Nat) by omega)
    obtain ⟨r1, r2, r3⟩ := hroot (at' q r).toNat (by omega)
    rw [Int.toNat_of_nonneg qa0] at r3
    show os (conjL p q) _ = os p r
    rw [os_class hc (by omega) (by rw [hcl]; omega) r3, os_conj hp hq hl a0 (by omega)]
  rw [this]
theorem lensL_conj (hp : isPermP p) (hq : isPermP q) (hl : p.length = q.length) : lensL (conjL p q) = lensL p := by
  unfold lensL
  exact sorted_unique (((sortL_perm _).trans ((cycLens_conj hp hq hl).map _)).trans (sortL_perm _).symm) (sortL_sorted _) (sortL_sorted _)
theorem conj_conj {r : List Int} (hp : isPermP p) (hq : isPermP q) (hr : isPermP r) (hl : p.length = q.length) (hl2 : q.length = r.length) : conjL (conjL p q) r = conjL p (thenL q r) := by
  have hc := conjL_perm hp hq hl
  have hs := thenL_perm hq hr hl2
  have hsl := thenL_length q r
  have hcl := conjL_length p q
  have h1 := conjL_length (conjL p q) r
  have h2 := conjL_length p (thenL q r)
  apply list_ext_upto r.length (by omega) (by omega)
  intro j hj
  obtain ⟨x, x0, x1, hx⟩ := at_sur hs (z := (j : Int)) (by omega) (by omega)
  have e1 := at_mem (p := conjL (conjL p q) r) h1 (x := (j : Int)) (by omega) (by omega)
  have e2 := at_mem (p := conjL p (thenL q r)) (n := r.length) (by omega) (x := (j : Int)) (by omega) (by omega)
  rw [Int.toNat_natCast] at e1 e2
  rw [e1, e2]
  congr 1
  obtain ⟨q0, q1⟩ := at_rng hq (x := x) x0 (by omega)
  have hp1 := at_rng hp (x := x) x0 (by omega)
  have e3 := conj_at hp hs (by omega) (x := x) x0 (by omega)
  rw [hx] at e3
  rw [e3, then_at (n := q.length) rfl hp1.1 (by omega)]
  rw [← hx, then_at (n := q.length) rfl x0 (by omega), conj_at hc hr (by omega) q0 (by omega), conj_at hp hq hl x0 (by omega)]
end
end Go.Proofs.YtcjnhiglfkcmiaaDoor
