/- Powers and orders of a permutation in plain Lean. -/
import Derived.Test.YtcjnhiglfkcmiaaDoorCjP
import Derived.Test.YtcjnhiglfkcmiaaDoorOrdP
namespace Go.Proofs.YtcjnhiglfkcmiaaDoor
set_option linter.unusedVariables false
theorem leastOf {P : Nat → Prop} (h : ∃ k, P k) : ∃ k, P k ∧ ∀ j, j < k → ¬ P j := by
  obtain ⟨k, hk⟩ := h
  induction k using Nat.strongRecOn with
  | ind k ih =>
    by_cases hex : ∃ j, j < k ∧ P j
    · obtain ⟨j, hj, hp⟩ := hex
      exact ih j hj hp
    · exact ⟨k, hk, fun j hj hp => hex ⟨j, hj, hp⟩⟩
theorem rch_itr {p : List Int} {x y : Int} (h : Rch [p] x y) : ∃ k, y = itr p k x := by
  induction h with
  | refl => exact ⟨0, rfl⟩
  | step hh hm ih =>
    obtain ⟨k, rfl⟩ := ih
    rw [List.mem_singleton.1 hm]
    exact ⟨k + 1, rfl⟩
theorem itr_mul {p : List Int} {K : Nat} {x : Int} (h : itr p K x = x) (a : Nat) : itr p (K * a) x = x := by
  induction a with
  | zero => rfl
  | succ a ih => rw [Nat.mul_succ, itr_add, h, ih]
theorem itr_mod {p : List Int} {K : Nat} {x : Int} (h : itr p K x = x) (m : Nat) : itr p m x = itr p (m % K) x := by
  have e := Nat.mod_add_div m K
  calc itr p m x = itr p (m % K + K * (m / K)) x := by rw [e]
    _ = itr p (m % K) x := by rw [itr_add, itr_mul h]
theorem os_period {p : List Int} (hp : isPermP p) {x : Int} (h0 : 0 ≤ x) (h1 : x < (p.length : Nat)) : 1 ≤ os p x ∧ itr p (os p x) x = x ∧ ∀ j, 1 ≤ j → j < os p x → itr p j x ≠ x := by
  obtain ⟨k0, a1, _, a3⟩ := itr_back (n := p.length) hp.rng hp.nd rfl h0 h1
  obtain ⟨K, ⟨b1, b2⟩, b3⟩ := leastOf (P := fun k => 1 ≤ k ∧ itr p k x = x) ⟨k0, a1, a3⟩
  have hK : ((List.range K).map fun k => itr p k x).length = os p x := by
    apply os_of hp h0 h1
    · rw [List.nodup_iff_pairwise_ne, List.pairwise_map]
      refine List.Pairwise.imp_of_mem ?_ List.pairwise_lt_range
      intro a b ha hb hab e
      have hb := List.mem_range.1 hb
      have e2 : itr p a x = itr p a (itr p (b - a) x) := by rw [← itr_add, show a + (b - a) = b by omega]; exact e
      have g := itr_rng (n := p.length) hp.rng rfl h0 h1 (b - a)
      exact b3 (b - a) (by omega) ⟨by omega, (itr_inj (n := p.length) hp.rng hp.nd rfl a h0 h1 g.1 g.2 e2).symm⟩
    · intro y
      constructor
      · intro h
        obtain ⟨k, _, rfl⟩ := List.mem_map.1 h
        exact Rch.itr_ (by simp) x k
      · intro h
        obtain ⟨k, rfl⟩ := rch_itr h
        exact List.mem_map.2 ⟨k % K, List.mem_range.2 (Nat.mod_lt _ (by omega)), (itr_mod b2 k).symm⟩
  rw [List.length_map, List.length_range] at hK
  subst hK
  exact ⟨b1, b2, fun j h1 h2 e => b3 j h2 ⟨h1, e⟩⟩
theorem itr_iff {p : List Int} (hp : isPermP p) {x : Int} (h0 : 0 ≤ x) (h1 : x < (p.length : Nat)) {m : Nat} : itr p m x = x ↔ os p x ∣ m := by
  obtain ⟨a, b, c⟩ := os_period hp h0 h1
  constructor
  · intro h
    rw [itr_mod b m] at h
    rcases Nat.eq_zero_or_pos (m % os p x) with e | e
    · exact Nat.dvd_of_mod_eq_zero e
    · exact absurd h (c _ e (Nat.mod_lt _ (by omega)))
  · rintro ⟨k, rfl⟩
    exact itr_mul b k
/-- the order divides m exactly where m steps bring each point back -/
theorem ord_iff {p : List Int} (hp : isPermP p) {m : Nat} : lcmL (cycLens p) ∣ m ↔ ∀ x : Int, 0 ≤ x → x < (p.length : Nat) → itr p m x = x := by
  have hs := one_sys hp
  rw [lcmL_dvd, cycLens_eq hp]
  constructor
  · intro h x h0 h1
    rw [itr_iff hp h0 h1]
    obtain ⟨X, rfl⟩ := Int.eq_ofNat_of_zero_le h0
    have hX : X < p.length := by omega
    have hr := rootB_rootOf hs hX
    have hle := rootOf_le [p] X
    have hR := (rootOf_spec [p] X).1
    have e := os_class hp (x := (rootOf [p] X : Int)) (y := (X : Int)) (by omega) (by omega) hR
    rw [← e]
    exact h _ (List.mem_map.2 ⟨_, roots_mem.2 ⟨by omega, by omega, by simpa using hr⟩, rfl⟩)
  · intro h l hl
    obtain ⟨r, hr, rfl⟩ := List.mem_map.1 hl
    obtain ⟨g0, g1, _⟩ := roots_mem.1 hr
    exact (itr_iff hp g0 g1).1 (h r g0 g1)
theorem ord_pos {p : List Int} : 0 < lcmL (cycLens p) := by
  apply lcmL_pos
  intro x hx
  unfold cycLens at hx
  obtain ⟨c, hc, rfl⟩ := List.mem_map.1 hx
  have := ((cycAll_len p).2 c hc).1
  omega
theorem itr_then {q : List Int} {n : Nat} (hr : ∀ x ∈ q, 0 ≤ x ∧ x < n) (hl : q.length = n) {y : Int} (h0 : 0 ≤ y) (h1 : y < n) : ∀ j, itr (thenL q q) j y = itr q (2 * j) y := by
  intro j
  induction j with
  | zero => rfl
  | succ j ih =>
    have g := itr_rng hr hl h0 h1 (2 * j)
    show at' (thenL q q) (itr (thenL q q) j y) = _
    rw [ih, then_at hl g.1 g.2]
    rfl
theorem powGo_at {n : Nat} : ∀ (f k : Nat) (q out : List Int), k < 2 ^ f → isPermP q → q.length = n → isPermP out → out.length = n →
    (isPermP (powGo f q out k) ∧ (powGo f q out k).length = n) ∧ ∀ x : Int, 0 ≤ x → x < n → at' (powGo f q out k) x = itr q k (at' out x) := by
  intro f
  induction f with
  | zero =>
    intro k q out hk hq hql ho hol
    have : k = 0 := by simpa using hk
    subst this
    rw [powGo_stop]
    exact ⟨⟨ho, hol⟩, fun x _ _ => rfl⟩
  | succ f ih =>
    intro k q out hk hq hql ho hol
    rcases Nat.eq_zero_or_pos k with rfl | hk0
    · rw [powGo_stop]
      exact ⟨⟨ho, hol⟩, fun x _ _ => rfl⟩
    · have hk2 : k / 2 < 2 ^ f := by rw [Nat.pow_succ] at hk; omega
      have hqq := thenL_perm hq hq rfl
      have hqr : ∀ x ∈ q, 0 ≤ x ∧ x < n := by rw [← hql]; exact hq.rng
      rcases Nat.mod_two_eq_zero_or_one k with e | e
      · rw [powGo_even hk0 e]
        obtain ⟨h1, h2⟩ := ih (k / 2) (thenL q q) out hk2 hqq (by rw [thenL_length, hql]) ho hol
        refine ⟨h1, fun x g0 g1 => ?_⟩
        have g := at_rng ho g0 (by rw [hol]; exact g1)
        rw [hol] at g
        rw [h2 x g0 g1, itr_then hqr hql g.1 g.2, show 2 * (k / 2) = k by omega]
      · rw [powGo_odd hk0 e]
        have hoq := thenL_perm ho hq (by omega)
        obtain ⟨h1, h2⟩ := ih (k / 2) (thenL q q) (thenL out q) hk2 hqq (by rw [thenL_length, hql]) hoq (by rw [thenL_length, hol])
        refine ⟨h1, fun x g0 g1 => ?_⟩
        have g := at_rng ho g0 (by rw [hol]; exact g1)
        rw [hol] at g
        have g2 := at_rng hq g.1 (by rw [hql]; exact g.2)
        rw [hql] at g2
        rw [h2 x g0 g1, then_at hol g0 g1, itr_then hqr hql g2.1 g2.2, ← itr_succ', show 2 * (k / 2) + 1 = k by omega]
theorem idL_at {n : Nat} {x : Int} (h0 : 0 ≤ x) (h1 : x < n) : at' (idL n) x = x := by
  have := idL_get (n := n) (j := x.toNat) (by omega)
  unfold at'
  rw [getD_some this, Int.toNat_of_nonneg h0]
theorem itr_inv {p : List Int} (hp : isPermP p) {y : Int} (h0 : 0 ≤ y) (h1 : y < (p.length : Nat)) : ∀ j, itr (invL p) j (itr p j y) = y := by
  intro j
  induction j with
  | zero => rfl
  | succ j ih =>
    have g := itr_rng (n := p.length) hp.rng rfl h0 h1 j
    rw [itr_succ']
    show itr (invL p) j (at' (invL p) (at' p (itr p j y))) = y
    rw [inv_at hp g.1 g.2, ih]
theorem itr_ord {p : List Int} (hp : isPermP p) {x : Int} (h0 : 0 ≤ x) (h1 : x < (p.length : Nat)) {a b : Nat} (h : a % lcmL (cycLens p) = b % lcmL (cycLens p)) : itr p a x = itr p b x := by
  have e := (ord_iff hp).1 (Nat.dvd_refl _) x h0 h1
  rw [itr_mod e a, itr_mod e b, h]
theorem powL_ok {p : List Int} (hp : isPermP p) {k : Int} (hk : -1000000000 ≤ k ∧ k ≤ 1000000000) : isPermP (powL p k) ∧ (powL p k).length = p.length := by
  unfold powL
  have hid := idL_perm hp.le
  have hk2 : k.natAbs < 2 ^ 40 := by have : (2 : Nat) ^ 40 = 1099511627776 := by decide
                                     omega
  by_cases hk0 : k < 0
  · rw [if_pos hk0]
    exact (powGo_at (n := p.length) 40 _ _ _ hk2 (invL_perm hp) (invL_length p) hid (idL_length _)).1
  · rw [if_neg hk0]
    exact (powGo_at (n := p.length) 40 _ _ _ hk2 hp rfl hid (idL_length _)).1
theorem pow_at {p : List Int} (hp : isPermP p) {k : Int} (hk : -1000000000 ≤ k ∧ k ≤ 1000000000) {x : Int} (h0 : 0 ≤ x) (h1 : x < (p.length : Nat)) : at' (powL p k) x = itr p (k % (lcmL (cycLens p) : Int)).toNat x := by
  have hid := idL_perm hp.le
  have hk2 : k.natAbs < 2 ^ 40 := by have : (2 : Nat) ^ 40 = 1099511627776 := by decide
                                     omega
  have hD := ord_pos (p := p)
  generalize hDe : lcmL (cycLens p) = D at hD
  unfold powL
  by_cases hk0 : k < 0
  · rw [if_pos hk0, (powGo_at (n := p.length) 40 _ _ _ hk2 (invL_perm hp) (invL_length p) hid (idL_length _)).2 x h0 h1, idL_at h0 h1]
    have hr0 := Int.emod_nonneg k (show (D : Int) ≠ 0 by omega)
    have hdm := Int.mul_ediv_add_emod k D
    generalize hre : (k % (D : Int)).toNat = r
    have hr : k % (D : Int) = (r : Int) := by omega
    rw [hr] at hdm
    have hdv : D ∣ k.natAbs + r := by
      have : ((k.natAbs + r : Nat) : Int) = (D : Int) * (-(k / (D : Int))) := by
        rw [Int.mul_neg]; omega
      exact Int.natCast_dvd_natCast.1 ⟨_, this⟩
    have g := itr_rng (n := p.length) hp.rng rfl h0 h1 r
    have e : itr p k.natAbs (itr p r x) = x := by
      rw [← itr_add]
      exact (ord_iff hp).1 (by rw [hDe]; exact hdv) x h0 h1
    calc itr (invL p) k.natAbs x = itr (invL p) k.natAbs (itr p k.natAbs (itr p r x)) := by rw [e]
      _ = itr p r x := itr_inv hp g.1 g.2 _
  · rw [if_neg hk0, (powGo_at (n := p.length) 40 _ _ _ hk2 hp rfl hid (idL_length _)).2 x h0 h1, idL_at h0 h1]
    apply itr_ord hp h0 h1
    rw [hDe]
    obtain ⟨K, rfl⟩ := Int.eq_ofNat_of_zero_le (show 0 ≤ k by omega)
    rw [show ((K : Int) % (D : Int)).toNat = K % D by rw [← Int.natCast_emod]; exact Int.toNat_natCast _]
    rw [show (K : Int).natAbs = K from Int.natAbs_natCast K, Nat.mod_mod]
theorem at_ext {p q : List Int} (hl : p.length = q.length) (h : ∀ x : Int, 0 ≤ x → x < (p.length : Nat) → at' p x = at' q x) : p = q := by
  apply List.ext_getElem hl
  intro i h1 h2
  have := h (i : Int) (by omega) (by omega)
  unfold at' at this
  simpa [List.getD_eq_getElem?_getD, List.getElem?_eq_getElem h1, List.getElem?_eq_getElem h2] using this
theorem pow_add {p : List Int} (hp : isPermP p) {a b : Int} (ha : -1000000 ≤ a ∧ a ≤ 1000000) (hb : -1000000 ≤ b ∧ b ≤ 1000000) : thenL (powL p a) (powL p b) = powL p (a + b) := by
  have pa := powL_ok hp (k := a) (by omega)
  have pb := powL_ok hp (k := b) (by omega)
  have pab := powL_ok hp (k := a + b) (by omega)
  apply at_ext
  · rw [thenL_length, pa.2, pab.2]
  · intro x h0 h1
    rw [thenL_length, pa.2] at h1
    rw [then_at pa.2 h0 h1, pow_at hp (by omega) h0 h1, pow_at hp (by omega) h0 h1]
    have g := itr_rng (n := p.length) hp.rng rfl h0 h1 (a % (lcmL (cycLens p) : Int)).toNat
    rw [pow_at hp (by omega) g.1 g.2, ← itr_add]
    apply itr_ord hp h0 h1
    have hD := ord_pos (p := p)
    generalize lcmL (cycLens p) = D at hD
    have h1 := Int.emod_nonneg a (show (D : Int) ≠ 0 by omega)
    have h2 := Int.emod_nonneg b (show (D : Int) ≠ 0 by omega)
    have h3 := Int.emod_nonneg (a + b) (show (D : Int) ≠ 0 by omega)
    have e : (((b % (D : Int)).toNat + (a % (D : Int)).toNat : Nat) : Int) % D = (((a + b) % (D : Int)).toNat : Int) % D := by
      rw [Int.natCast_add, Int.toNat_of_nonneg h2, Int.toNat_of_nonneg h1, Int.toNat_of_nonneg h3, Int.emod_emod, Int.add_comm, ← Int.add_emod]
    rw [← Int.natCast_emod, ← Int.natCast_emod] at e
    exact Int.ofNat.inj e
theorem then_inv {p : List Int} (hp : isPermP p) : thenL p (invL p) = idL p.length := by
  apply at_ext
  · rw [thenL_length, idL_length]
  · intro x h0 h1
    rw [thenL_length] at h1
    rw [then_at rfl h0 h1, inv_at hp h0 h1, idL_at h0 h1]
theorem pow_ord {p : List Int} (hp : isPermP p) (h : lcmL (cycLens p) ≤ 1000000000) : powL p (lcmL (cycLens p) : Int) = idL p.length := by
  have pk := powL_ok hp (k := (lcmL (cycLens p) : Int)) (by omega)
  apply at_ext
  · rw [pk.2, idL_length]
  · intro x h0 h1
    rw [pk.2] at h1
    rw [pow_at hp (by omega) h0 h1, idL_at h0 h1, Int.emod_self]
    rfl
theorem pow_less {p : List Int} (hp : isPermP p) (h : lcmL (cycLens p) ≤ 1000000000) {m : Nat} (h0 : 0 < m) (h1 : m < lcmL (cycLens p)) : powL p (m : Int) ≠ idL p.length := by
  intro e
  have hd : lcmL (cycLens p) ∣ m := by
    rw [ord_iff hp]
    intro x g0 g1
    have := pow_at hp (k := (m : Int)) (by omega) g0 g1
    rw [e, idL_at g0 g1, Int.emod_eq_of_lt (by omega) (by omega), Int.toNat_natCast] at this
    exact this.symm
  have := Nat.le_of_dvd h0 hd
  omega
theorem lens_sum {p : List Int} (hp : isPermP p) : (cycLens p).sum = p.length := by
  have hs := one_sys hp
  rw [cycLens_eq hp]
  have hfl : ((roots p p.length).flatMap (bfs [p] p.length)).length = ((roots p p.length).map (os p)).sum := by
    rw [List.length_flatMap]; rfl
  rw [← hfl, ← idL_length p.length]
  apply List.Perm.length_eq
  rw [idL_length]
  apply perm_of_mem
  · rw [List.nodup_iff_pairwise_ne, List.pairwise_flatMap]
    constructor
    · intro a ha
      obtain ⟨g0, g1, _⟩ := roots_mem.1 ha
      rw [← List.nodup_iff_pairwise_ne]
      exact (bfs_met hs g0 g1).nd
    · refine List.Pairwise.imp_of_mem ?_ (List.nodup_iff_pairwise_ne.1 (roots_nodup p p.length))
      intro a b ha hb hab x hx y hy e
      subst e
      obtain ⟨a0, a1, a2⟩ := roots_mem.1 ha
      obtain ⟨b0, b1, b2⟩ := roots_mem.1 hb
      have hxa := (bfs_mem hs a0 a1).1 hx
      have hxb := (bfs_mem hs b0 b1).1 hy
      have hab' := hxa.trans (hxb.symm hs b0 b1)
      obtain ⟨A, rfl⟩ := Int.eq_ofNat_of_zero_le a0
      obtain ⟨B, rfl⟩ := Int.eq_ofNat_of_zero_le b0
      have := root_min hs (x := A) (y := B) (by simpa using a2) (by omega) (by simpa using b2) (by omega) hab'
      exact hab (by rw [this])
  · exact (idL_perm hp.le).nd
  · intro x
    rw [List.mem_flatMap]
    constructor
    · rintro ⟨r, hr, hx⟩
      obtain ⟨g0, g1, _⟩ := roots_mem.1 hr
      exact mem_ints.2 (((bfs_mem hs g0 g1).1 hx).rng hs g0 g1)
    · intro hx
      obtain ⟨h0, h1⟩ := mem_ints.1 hx
      obtain ⟨X, rfl⟩ := Int.eq_ofNat_of_zero_le h0
      have hX : X < p.length := by omega
      have hle := rootOf_le [p] X
      exact ⟨_, roots_mem.2 ⟨by omega, by omega, by simpa using rootB_rootOf hs hX⟩, (bfs_mem hs (by omega) (by omega)).2 (rootOf_spec [p] X).1⟩
end Go.Proofs.YtcjnhiglfkcmiaaDoor
