/- Walks: the least flag of a face, the program's and the reference's. Up to 400 flags. (Merged: IsoP, FsP, FsQ, DistP, FwP, SeqP, SecP, Form, LexS, RenP, FormS, Lst, FaceS, Lw.) -/
import Derived.Test.YtbioelmofceaaaaFormP
import Derived.Test.YtbioelmofceaaaaSub
import Derived.Test.YtbioelmofceaaaaLabP
import Derived.Test.YtbioelmofceaaaaManP
import Derived.Test.YtbioelmofceaaaaLexQ
import Derived.Test.YtbioelmofceaaaaFace
import Derived.Test.YtbioelmofceaaaaMan
import Derived.Test.YtbioelmofceaaaaLawM
import Derived.Test.YtbioelmofceaaaaLexP
import Derived.Test.YtbioelmofceaaaaOrbS
import Derived.Test.YtbioelmofceaaaaPerm2
import Derived.Laws.ResultCell
import Derived.BigRegion
import Derived.Test.YtbioelmofceaaaaLex
import Derived.Test.YtbioelmofceaaaaRun
/- IsoP -/
namespace Go.Proofs.Ytbioelmofceaaaa
set_option linter.unusedVariables false
set_option maxRecDepth 100000
/-- the points of ys (m of them) are carried to points of zs (n of them), row by row -/
structure Iso (ys zs : List (List Int)) (m n : Nat) (φ : Int → Int) : Prop where
  len : ys.length = zs.length
  le : m ≤ n
  rng : ∀ z : Int, 0 ≤ z → z < m → 0 ≤ φ z ∧ φ z < n
  inj : ∀ z u : Int, 0 ≤ z → z < m → 0 ≤ u → u < m → φ z = φ u → z = u
  com : ∀ (j : Nat) (q p : List Int), ys[j]? = some q → zs[j]? = some p → ∀ z : Int, 0 ≤ z → z < m → φ (at' q z) = at' p (φ z)
theorem Iso.sub {ys zs : List (List Int)} {m n : Nat} {φ : Int → Int} (h : Iso ys zs m n φ) (i j : Nat) : Iso (subL ys i j) (subL zs i j) m n φ := by
  refine ⟨by simp [subL, h.len], h.le, h.rng, h.inj, fun k q p hq hp => ?_⟩
  unfold subL at hq hp
  rw [List.getElem?_take] at hq hp
  by_cases e : k < j - i
  · rw [if_pos e, List.getElem?_drop] at hq hp
    exact h.com _ q p hq hp
  · rw [if_neg e] at hq
    exact absurd hq (by simp)
theorem map_mem_iff {φ : Int → Int} {m : Nat} (hi : ∀ z u : Int, 0 ≤ z → z < m → 0 ≤ u → u < m → φ z = φ u → z = u) {out : List Int} (hr : ∀ y ∈ out, 0 ≤ y ∧ y < m) {x : Int} (h0 : 0 ≤ x) (h1 : x < m) : φ x ∈ out.map φ ↔ x ∈ out := by
  refine ⟨fun h => ?_, fun h => List.mem_map_of_mem h⟩
  obtain ⟨y, hy, e⟩ := List.mem_map.1 h
  have := hi y x (hr y hy).1 (hr y hy).2 h0 h1 e
  rwa [← this]
theorem iso_step {m n : Nat} {φ : Int → Int} {y : Int} (h0 : 0 ≤ y) (h1 : y < m) : ∀ (ys zs : List (List Int)) (out : List Int), SysOf ys m → Iso ys zs m n φ → (∀ x ∈ out, 0 ≤ x ∧ x < m) →
    bfsStep zs (φ y) (out.map φ) = (bfsStep ys y out).map φ ∧ ∀ x ∈ bfsStep ys y out, 0 ≤ x ∧ x < m := by
  intro ys
  induction ys with
  | nil =>
    intro zs out _ hI hr
    obtain rfl : zs = [] := by have := hI.len; cases zs with | nil => rfl | cons _ _ => simp at this
    exact ⟨rfl, hr⟩
  | cons q t ih =>
    intro zs out hs hI hr
    cases zs with
    | nil => have := hI.len; simp at this
    | cons p s =>
      have hc := hI.com 0 q p rfl rfl y h0 h1
      have hq := at'_rng (hs q (by simp)).1 (hs q (by simp)).2.2 h0 h1
      have hI' : Iso t s m n φ := ⟨by have := hI.len; simpa using this, hI.le, hI.rng, hI.inj, fun j a b ha hb => hI.com (j + 1) a b (by simpa using ha) (by simpa using hb)⟩
      have hs' : SysOf t m := fun a ha => hs a (by simp [ha])
      have hmem := map_mem_iff hI.inj hr hq.1 hq.2
      have e : bfsStep (p :: s) (φ y) (out.map φ) = bfsStep s (φ y) (if at' p (φ y) ∈ out.map φ then out.map φ else out.map φ ++ [at' p (φ y)]) := rfl
      have e2 : bfsStep (q :: t) y out = bfsStep t y (if at' q y ∈ out then out else out ++ [at' q y]) := rfl
      rw [e, e2, ← hc]
      by_cases hm : at' q y ∈ out
      · rw [if_pos hm, if_pos (hmem.2 hm)]
        exact ih s out hs' hI' hr
      · rw [if_neg hm, if_neg (fun g => hm (hmem.1 g)), show out.map φ ++ [φ (at' q y)] = (out ++ [at' q y]).map φ by simp]
        refine ih s _ hs' hI' ?_
        intro x hx
        rcases List.mem_append.1 hx with g | g
        · exact hr x g
        · rw [List.mem_singleton.1 g]; exact hq
theorem iso_go {m n : Nat} {φ : Int → Int} {ys zs : List (List Int)} (hs : SysOf ys m) (hI : Iso ys zs m n φ) : ∀ (f : Nat) (out : List Int) (i : Nat), (∀ x ∈ out, 0 ≤ x ∧ x < m) → bfsGo zs f (out.map φ) i = (bfsGo ys f out i).map φ := by
  intro f
  induction f with
  | zero => intro out i _; rfl
  | succ f ih =>
    intro out i hr
    cases hx : out[i]? with
    | none =>
      have := List.getElem?_eq_none_iff.1 hx
      rw [bfsGo_stop this, bfsGo_stop (by simpa using this)]
    | some y =>
      have hy := hr y (mem_of_get? hx)
      obtain ⟨e1, e2⟩ := iso_step hy.1 hy.2 ys zs out hs hI hr
      rw [bfsGo_step hx, bfsGo_step (show (out.map φ)[i]? = some (φ y) by simp [hx]), e1]
      exact ih _ _ e2
theorem bfsGo_more {list : List (List Int)} {m : Nat} {x : Int} (hs : SysOf list m) (k : Nat) : ∀ (f : Nat) (out : List Int) (i : Nat), Met list m x out → m < f + i → bfsGo list (f + k) out i = bfsGo list f out i := by
  intro f
  induction f with
  | zero =>
    intro out i h hf
    have := h.len
    rw [bfsGo_stop (by omega), bfsGo_stop (by omega)]
  | succ f ih =>
    intro out i h hf
    cases hx : out[i]? with
    | none =>
      have := List.getElem?_eq_none_iff.1 hx
      rw [bfsGo_stop this, bfsGo_stop this]
    | some y =>
      rw [show f + 1 + k = (f + k) + 1 by omega, bfsGo_step hx, bfsGo_step hx]
      exact ih _ _ (bfsStep_spec hs list out (fun _ g => g) h (mem_of_get? hx)).1 (by omega)
theorem iso_bfs {m n : Nat} {φ : Int → Int} {ys zs : List (List Int)} {x : Int} (hs : SysOf ys m) (hI : Iso ys zs m n φ) (h0 : 0 ≤ x) (h1 : x < m) : bfs zs n (φ x) = (bfs ys m x).map φ := by
  have e := iso_go hs hI (n + 1) [x] 0 (by simpa using ⟨h0, h1⟩)
  unfold bfs
  rw [show ([φ x] : List Int) = [x].map φ from rfl, e]
  have hle := hI.le
  have := bfsGo_more hs (n - m) (m + 1) [x] 0 (Met.one h0 h1) (by omega)
  rw [show m + 1 + (n - m) = n + 1 by omega] at this
  rw [this]
theorem iso_len {m n : Nat} {φ : Int → Int} {ys zs : List (List Int)} {x : Int} (hs : SysOf ys m) (hI : Iso ys zs m n φ) (h0 : 0 ≤ x) (h1 : x < m) : (bfs zs n (φ x)).length = (bfs ys m x).length := by
  rw [iso_bfs hs hI h0 h1, List.length_map]
theorem idxOf_map {φ : Int → Int} {m : Nat} (hi : ∀ z u : Int, 0 ≤ z → z < m → 0 ≤ u → u < m → φ z = φ u → z = u) {x : Int} (h0 : 0 ≤ x) (h1 : x < m) : ∀ out : List Int, (∀ y ∈ out, 0 ≤ y ∧ y < m) → (out.map φ).idxOf (φ x) = out.idxOf x := by
  intro out
  induction out with
  | nil => intro _; rfl
  | cons a t ih =>
    intro hr
    rw [List.map_cons, List.idxOf_cons, List.idxOf_cons, ih (fun y hy => hr y (by simp [hy]))]
    by_cases e : a = x
    · subst e; simp
    · have : φ a ≠ φ x := fun g => e (hi a x (hr a (by simp)).1 (hr a (by simp)).2 h0 h1 g)
      rw [show (φ a == φ x) = false from beq_false_of_ne this, show (a == x) = false from beq_false_of_ne e]
/-- the form from a flag is that from the flag to which it is carried -/
theorem iso_form {m n : Nat} {φ : Int → Int} {ys zs : List (List Int)} {x : Int} (hs : SysOf ys m) (hI : Iso ys zs m n φ) (h0 : 0 ≤ x) (h1 : x < m) : formL zs n (φ x) = formL ys m x := by
  have hm := bfs_met hs h0 h1
  unfold formL
  rw [iso_bfs hs hI h0 h1]
  refine List.ext_getElem? fun j => ?_
  rw [List.getElem?_map, List.getElem?_map]
  by_cases hj : j < ys.length
  · have hj2 : j < zs.length := by have := hI.len; omega
    have e1 := List.getElem?_eq_getElem hj
    have e2 := List.getElem?_eq_getElem hj2
    rw [e1, e2]
    simp only [Option.map_some, Option.some.injEq]
    unfold ixF
    rw [List.map_map]
    refine List.map_congr_left fun f hf => ?_
    have hr := hm.rng f hf
    have hq := hs _ (mem_of_get? e1)
    have hb := at'_rng hq.1 hq.2.2 hr.1 hr.2
    have hc := hI.com j _ _ e1 e2 f hr.1 hr.2
    show ((List.map φ (bfs ys m x)).idxOf (at' zs[j] (φ f)) : Int) = _
    rw [← hc, idxOf_map hI.inj hb.1 hb.2 _ hm.rng]
  · have hj2 : ¬ j < zs.length := by have := hI.len; omega
    rw [List.getElem?_eq_none (by omega), List.getElem?_eq_none (by omega)]
    rfl
theorem iso_rch {m n : Nat} {φ : Int → Int} {ys zs : List (List Int)} (hs : SysOf ys m) (hI : Iso ys zs m n φ) {x y : Int} (h0 : 0 ≤ x) (h1 : x < m) (h : Rch ys x y) : Rch zs (φ x) (φ y) := by
  induction h with
  | refl => exact .refl
  | step hxy hp ih =>
    rename_i y p
    obtain ⟨j, hj⟩ := List.mem_iff_getElem?.1 hp
    have hj2 : j < zs.length := by have := (List.getElem?_eq_some_iff.1 hj).1; have := hI.len; omega
    have hr := hxy.rng hs h0 h1
    rw [hI.com j p _ hj (List.getElem?_eq_getElem hj2) y hr.1 hr.2]
    exact ih.step (List.getElem_mem hj2)
/-- what is reached from a point carried over is carried over -/
theorem iso_rch_back {m n : Nat} {φ : Int → Int} {ys zs : List (List Int)} (hs : SysOf ys m) (hI : Iso ys zs m n φ) {x u : Int} (h0 : 0 ≤ x) (h1 : x < m) (h : Rch zs (φ x) u) : ∃ y, u = φ y ∧ 0 ≤ y ∧ y < m ∧ Rch ys x y := by
  induction h with
  | refl => exact ⟨x, rfl, h0, h1, .refl⟩
  | step hxy hp ih =>
    rename_i u p
    obtain ⟨y, rfl, y0, y1, hy⟩ := ih
    obtain ⟨j, hj⟩ := List.mem_iff_getElem?.1 hp
    have hj2 : j < ys.length := by have := (List.getElem?_eq_some_iff.1 hj).1; have := hI.len; omega
    have e := List.getElem?_eq_getElem hj2
    have hq := hs _ (List.getElem_mem hj2)
    have hb := at'_rng hq.1 hq.2.2 y0 y1
    exact ⟨at' ys[j] y, (hI.com j _ p e hj y y0 y1).symm, hb.1, hb.2, hy.step (List.getElem_mem hj2)⟩
/-- the form from a flag is like what the flag leads to -/
theorem form_iso {xss : List (List Int)} {n : Nat} {x : Int} (hs : SysOf xss n) (h0 : 0 ≤ x) (h1 : x < n) : Iso (formL xss n x) xss (bfs xss n x).length n (fun j => (bfs xss n x).getD j.toNat 0) := by
  have hm := bfs_met hs h0 h1
  have key : ∀ j : Int, 0 ≤ j → j < (bfs xss n x).length → (bfs xss n x)[j.toNat]? = some ((bfs xss n x).getD j.toNat 0) := fun j j0 j1 => get?_getD 0 (by omega)
  refine ⟨formL_length _ _ _, hm.len, fun z z0 z1 => hm.rng _ (mem_of_get? (key z z0 z1)), fun z u z0 z1 u0 u1 e => ?_, fun j q p hq hp z z0 z1 => ?_⟩
  · have a := idxOf_of_get? hm.nd (key z z0 z1)
    have b := idxOf_of_get? hm.nd (key u u0 u1)
    have e : (bfs xss n x).getD z.toNat 0 = (bfs xss n x).getD u.toNat 0 := e
    rw [e, b] at a
    omega
  · unfold formL at hq
    rw [List.getElem?_map, hp] at hq
    simp only [Option.map_some, Option.some.injEq] at hq
    subst hq
    have hk := key z z0 z1
    have hmem := bfs_closed hs h0 h1 (mem_of_get? hk) (mem_of_get? hp)
    have e : at' (ixF (bfs xss n x) p) z = ((bfs xss n x).idxOf (at' p ((bfs xss n x).getD z.toNat 0)) : Int) := by
      unfold at' ixF
      rw [List.getD_eq_getElem?_getD, List.getElem?_map, hk]
      rfl
    show (bfs xss n x).getD (at' (ixF (bfs xss n x) p) z).toNat 0 = _
    rw [e, Int.toNat_natCast]
    exact getD_some (get?_idxOf hmem)
theorem form_sys {xss : List (List Int)} {n : Nat} {x : Int} (hs : SysOf xss n) (h0 : 0 ≤ x) (h1 : x < n) : SysOf (formL xss n x) (bfs xss n x).length := by
  have hm := bfs_met hs h0 h1
  intro q hq
  obtain ⟨p, hp, rfl⟩ := List.mem_map.1 hq
  obtain ⟨p1, p2, p3⟩ := hs p hp
  refine ⟨fun y hy => ?_, ?_, ixF_length _ _⟩
  · obtain ⟨f, hf, rfl⟩ := List.mem_map.1 hy
    have := List.idxOf_lt_length_iff.2 (bfs_closed hs h0 h1 hf hp)
    omega
  · unfold ixF
    rw [List.nodup_iff_pairwise_ne, List.pairwise_map]
    refine List.Pairwise.imp_of_mem ?_ (List.nodup_iff_pairwise_ne.1 hm.nd)
    intro a b ha hb hab e
    have ea := get?_idxOf (bfs_closed hs h0 h1 ha hp)
    have eb := get?_idxOf (bfs_closed hs h0 h1 hb hp)
    have e' : (bfs xss n x).idxOf (at' p a) = (bfs xss n x).idxOf (at' p b) := by omega
    rw [e', eb] at ea
    have := Option.some.inj ea
    exact hab (at'_inj p2 p3 (hm.rng a ha).1 (hm.rng a ha).2 (hm.rng b hb).1 (hm.rng b hb).2 this.symm)
end Go.Proofs.Ytbioelmofceaaaa
/- FsP -/
namespace Go.Proofs.Ytbioelmofceaaaa
set_option linter.unusedVariables false
set_option maxRecDepth 100000
open Classical
/-- each of hs commutes with each of ks -/
def CommL (hs ks : List (List Int)) (n : Nat) : Prop := ∀ p ∈ hs, ∀ q ∈ ks, ∀ z : Int, 0 ≤ z → z < n → at' q (at' p z) = at' p (at' q z)
theorem CommL.symm {hs ks : List (List Int)} {n : Nat} (h : CommL hs ks n) : CommL ks hs n := fun p hp q hq z z0 z1 => (h q hq p hp z z0 z1).symm
/-- a permutation that commutes with all of hs -/
theorem comm_iso {hs : List (List Int)} {q : List Int} {n : Nat} (hq : (∀ x ∈ q, 0 ≤ x ∧ x < n) ∧ q.Nodup ∧ q.length = n) (hc : ∀ p ∈ hs, ∀ z : Int, 0 ≤ z → z < n → at' q (at' p z) = at' p (at' q z)) : Iso hs hs n n (at' q) := by
  refine ⟨rfl, Nat.le_refl _, fun z z0 z1 => at'_rng hq.1 hq.2.2 z0 z1, fun z u z0 z1 u0 u1 e => at'_inj hq.2.1 hq.2.2 z0 z1 u0 u1 e, fun j a b ha hb z z0 z1 => ?_⟩
  rw [ha] at hb
  cases hb
  exact hc _ (mem_of_get? ha) z z0 z1
theorem bfs_same {hs : List (List Int)} {n : Nat} {x y : Int} (hS : SysOf hs n) (h0 : 0 ≤ x) (h1 : x < n) (h : Rch hs x y) : (bfs hs n y).length = (bfs hs n x).length := by
  have hr := h.rng hS h0 h1
  have a := bfs_met hS h0 h1
  have b := bfs_met hS hr.1 hr.2
  have hb := h.symm hS h0 h1
  exact Nat.le_antisymm (nodup_sub_len _ _ b.nd fun z hz => (bfs_mem hS h0 h1).2 (h.trans (b.rch z hz))) (nodup_sub_len _ _ a.nd fun z hz => (bfs_mem hS hr.1 hr.2).2 (hb.trans (a.rch z hz)))
/-- the orbits of hs have one size within an orbit of all -/
theorem orb_size {hs ks ls : List (List Int)} {n : Nat} {x y : Int} (hH : SysOf hs n) (hK : SysOf ks n) (hl : ∀ p ∈ ls, p ∈ hs ∨ p ∈ ks) (hc : CommL hs ks n) (h0 : 0 ≤ x) (h1 : x < n) (h : Rch ls x y) : 0 ≤ y ∧ y < n ∧ (bfs hs n y).length = (bfs hs n x).length := by
  induction h with
  | refl => exact ⟨h0, h1, rfl⟩
  | step hxy hp ih =>
    rename_i y p
    obtain ⟨y0, y1, e⟩ := ih
    rcases hl p hp with g | g
    · have hr := at'_rng (hH p g).1 (hH p g).2.2 y0 y1
      exact ⟨hr.1, hr.2, (bfs_same hH y0 y1 (Rch.refl.step g)).trans e⟩
    · have hr := at'_rng (hK p g).1 (hK p g).2.2 y0 y1
      exact ⟨hr.1, hr.2, (iso_len hH (comm_iso (hK p g) (fun a ha => hc a ha p g)) y0 y1).trans e⟩
/-- first the moves of ks, then those of hs -/
theorem rch_split {hs ks ls : List (List Int)} {n : Nat} {x y : Int} (hH : SysOf hs n) (hK : SysOf ks n) (hl : ∀ p ∈ ls, p ∈ hs ∨ p ∈ ks) (hc : CommL hs ks n) (h0 : 0 ≤ x) (h1 : x < n) (h : Rch ls x y) : ∃ z, Rch ks x z ∧ Rch hs z y := by
  induction h with
  | refl => exact ⟨x, .refl, .refl⟩
  | step hxy hp ih =>
    rename_i y p
    obtain ⟨z, hz1, hz2⟩ := ih
    rcases hl p hp with g | g
    · exact ⟨z, hz1, hz2.step g⟩
    · have hr := hz1.rng hK h0 h1
      exact ⟨at' p z, hz1.step g, iso_rch hH (comm_iso (hK p g) (fun a ha => hc a ha p g)) hr.1 hr.2 hz2⟩
theorem sum_const {l : List Int} {f : Int → List Int} {h : Nat} (hf : ∀ z ∈ l, (f z).length = h) : (l.flatMap f).length = l.length * h := by
  induction l with
  | nil => simp
  | cons a t ih =>
    rw [List.flatMap_cons, List.length_append, hf a (by simp), ih (fun z hz => hf z (by simp [hz])), List.length_cons, Nat.add_mul, Nat.one_mul, Nat.add_comm]
theorem filter_two (p : Int → Bool) (l : List Int) : l.length = (l.filter p).length + (l.filter fun y => !p y).length := by
  induction l with
  | nil => rfl
  | cons a t ih =>
    rw [List.filter_cons, List.filter_cons]
    cases h : p a <;> simp <;> omega
/-- a list that falls into classes of h each -/
theorem part_dvd (R : Int → Int → Prop) (h : Nat) : ∀ (m : Nat) (L : List Int), L.length ≤ m → (∀ x ∈ L, R x x) → (∀ x ∈ L, ∀ y ∈ L, R x y → R y x) → (∀ x ∈ L, ∀ y ∈ L, ∀ z ∈ L, R x y → R y z → R x z) → (∀ x ∈ L, (L.filter fun y => decide (R x y)).length = h) → h ∣ L.length := by
  intro m
  induction m with
  | zero => intro L hm _ _ _ _; rw [List.eq_nil_of_length_eq_zero (l := L) (by omega)]; exact ⟨0, rfl⟩
  | succ m ih =>
    intro L hm hr hs ht hc
    cases L with
    | nil => exact ⟨0, rfl⟩
    | cons a t =>
      have hsplit := filter_two (fun y => decide (R a y)) (a :: t)
      have hca := hc a (by simp)
      have hpos : 1 ≤ ((a :: t).filter fun y => decide (R a y)).length := by
        rw [List.filter_cons, if_pos (decide_eq_true (hr a (by simp)))]
        simp
      have hmem : ∀ {x : Int}, x ∈ ((a :: t).filter fun y => !decide (R a y)) → x ∈ a :: t ∧ ¬ R a x := by
        intro x hx
        rw [List.mem_filter] at hx
        exact ⟨hx.1, by simpa using hx.2⟩
      have := ih ((a :: t).filter fun y => !decide (R a y)) (by omega) (fun x hx => hr x (hmem hx).1) (fun x hx y hy => hs x (hmem hx).1 y (hmem hy).1)
        (fun x hx y hy z hz => ht x (hmem hx).1 y (hmem hy).1 z (hmem hz).1) (fun x hx => by
          rw [List.filter_filter]
          have e : ((a :: t).filter fun y => decide (R x y) && !decide (R a y)) = (a :: t).filter fun y => decide (R x y) := by
            refine List.filter_congr fun y hy => ?_
            by_cases g : R x y
            · have : ¬ R a y := fun g2 => (hmem hx).2 (ht a (by simp) y hy x (hmem hx).1 g2 (hs x (hmem hx).1 y hy g))
              simp [g, this]
            · simp [g]
          rw [e]
          exact hc x (hmem hx).1)
      obtain ⟨k, hk⟩ := this
      refine ⟨k + 1, ?_⟩
      rw [hsplit, hca, hk, Nat.mul_add, Nat.mul_one, Nat.add_comm]
/-- the flags of an orbit of all -/
theorem orb_dvd {hs ks ls : List (List Int)} {n : Nat} {x : Int} (hH : SysOf hs n) (hK : SysOf ks n) (hL : SysOf ls n) (hl : ∀ p ∈ ls, p ∈ hs ∨ p ∈ ks) (hhl : ∀ p ∈ hs, p ∈ ls) (hc : CommL hs ks n) (h0 : 0 ≤ x) (h1 : x < n) : (bfs hs n x).length ∣ (bfs ls n x).length := by
  have hm := bfs_met hL h0 h1
  have up : ∀ a b, Rch hs a b → Rch ls a b := by
    intro a b h
    induction h with
    | refl => exact .refl
    | step _ hp ih => exact ih.step (hhl _ hp)
  refine part_dvd (Rch hs) _ _ (bfs ls n x) (Nat.le_refl _) (fun a _ => .refl) (fun a ha b _ h => h.symm hH (hm.rng a ha).1 (hm.rng a ha).2) (fun a _ b _ c _ g1 g2 => g1.trans g2) (fun a ha => ?_)
  have hr := hm.rng a ha
  have e := (orb_size hH hK hl hc h0 h1 (hm.rch a ha)).2.2
  rw [← e]
  have hb := bfs_met hH hr.1 hr.2
  refine Nat.le_antisymm (nodup_sub_len _ _ (hm.nd.filter _) fun z hz => ?_) (nodup_sub_len _ _ hb.nd fun z hz => ?_)
  · rw [List.mem_filter] at hz
    exact (bfs_mem hH hr.1 hr.2).2 (by simpa using hz.2)
  · rw [List.mem_filter]
    exact ⟨(bfs_mem hL h0 h1).2 ((hm.rch a ha).trans (up _ _ (hb.rch z hz))), by simpa using hb.rch z hz⟩
theorem orb_mul {hs ks ls : List (List Int)} {n : Nat} {x : Int} (hH : SysOf hs n) (hK : SysOf ks n) (hL : SysOf ls n) (hl : ∀ p ∈ ls, p ∈ hs ∨ p ∈ ks) (hc : CommL hs ks n) (hkl : ∀ p ∈ ks, p ∈ ls) (h0 : 0 ≤ x) (h1 : x < n) : (bfs ls n x).length ≤ (bfs ks n x).length * (bfs hs n x).length := by
  have hm := bfs_met hL h0 h1
  have hk := bfs_met hK h0 h1
  have up : ∀ a b, Rch ks a b → Rch ls a b := by
    intro a b h
    induction h with
    | refl => exact .refl
    | step _ hp ih => exact ih.step (hkl _ hp)
  rw [← sum_const (l := bfs ks n x) (f := bfs hs n) (h := (bfs hs n x).length) (fun z hz => (orb_size hH hK hl hc h0 h1 (up _ _ (hk.rch z hz))).2.2)]
  refine nodup_sub_len _ _ hm.nd fun y hy => ?_
  obtain ⟨z, hz1, hz2⟩ := rch_split hH hK hl hc h0 h1 (hm.rch y hy)
  have hzr := hz1.rng hK h0 h1
  exact List.mem_flatMap.2 ⟨z, (bfs_mem hK h0 h1).2 hz1, (bfs_mem hH hzr.1 hzr.2).2 hz2⟩
def TwoR (p : List Int) (a b : Int) : Prop := b = a ∨ b = at' p a
/-- an orbit under a free involution has an even number of points -/
theorem orb_even {tr : List (List Int)} {p : List Int} {n : Nat} {x : Int} (hS : SysOf tr n) (hp : p ∈ tr) (hi : ∀ z : Int, 0 ≤ z → z < n → at' p z ≠ z ∧ at' p (at' p z) = z) (h0 : 0 ≤ x) (h1 : x < n) : 2 ∣ (bfs tr n x).length := by
  have hm := bfs_met hS h0 h1
  refine part_dvd (TwoR p) 2 _ (bfs tr n x) (Nat.le_refl _) (fun a _ => .inl rfl) (fun a ha b _ h => ?_) (fun a ha b _ c _ g1 g2 => ?_) (fun a ha => ?_)
  · have hr := hm.rng a ha
    rcases h with rfl | rfl
    · exact .inl rfl
    · exact .inr (hi a hr.1 hr.2).2.symm
  · have hr := hm.rng a ha
    rcases g1 with rfl | rfl
    · exact g2
    · rcases g2 with rfl | rfl
      · exact .inr rfl
      · exact .inl (hi a hr.1 hr.2).2
  · have hr := hm.rng a ha
    have hne := (hi a hr.1 hr.2).1
    have hb : at' p a ∈ bfs tr n x := (bfs_mem hS h0 h1).2 ((hm.rch a ha).step hp)
    have hnd : [a, at' p a].Nodup := by simp; exact fun e => hne e.symm
    refine Nat.le_antisymm (nodup_sub_len _ [a, at' p a] (hm.nd.filter _) fun z hz => ?_) (nodup_sub_len [a, at' p a] _ hnd fun z hz => ?_)
    · rw [List.mem_filter] at hz
      have : TwoR p a z := of_decide_eq_true hz.2
      unfold TwoR at this
      simpa using this
    · simp only [List.mem_cons, List.not_mem_nil, or_false] at hz
      rw [List.mem_filter]
      rcases hz with rfl | rfl
      · exact ⟨ha, decide_eq_true (show TwoR p z z from .inl rfl)⟩
      · exact ⟨hb, decide_eq_true (show TwoR p a (at' p a) from .inr rfl)⟩
theorem erase_two {xss : List (List Int)} {i : Nat} (p : List Int) : p ∈ xss.eraseIdx i ↔ p ∈ subL xss 0 i ∨ p ∈ subL xss (i + 1) xss.length := by
  rw [List.eraseIdx_eq_take_drop_succ, List.mem_append]
  unfold subL
  rw [List.drop_zero, Nat.sub_zero, List.take_of_length_le (l := xss.drop (i + 1)) (by rw [List.length_drop]; omega)]
end Go.Proofs.Ytbioelmofceaaaa
/- FsQ -/
namespace Go.Proofs.Ytbioelmofceaaaa
set_option linter.unusedVariables false
set_option maxRecDepth 100000
theorem subL_get {xss : List (List Int)} {i j : Nat} {p : List Int} (h : p ∈ subL xss i j) : ∃ k, i ≤ k ∧ k < j ∧ xss[k]? = some p := by
  obtain ⟨k, hk⟩ := List.mem_iff_getElem?.1 h
  unfold subL at hk
  rw [List.getElem?_take] at hk
  by_cases e : k < j - i
  · rw [if_pos e, List.getElem?_drop] at hk
    exact ⟨i + k, by omega, by omega, hk⟩
  · rw [if_neg e] at hk
    exact absurd hk (by simp)
theorem comm_hk {xss : List (List Int)} (hP : ManP xss) (I : Nat) : CommL (subL xss 0 I) (subL xss (I + 1) xss.length) (flg xss) := by
  intro p hp q hq z z0 z1
  obtain ⟨j, _, hj, hjp⟩ := subL_get hp
  obtain ⟨k, hk, _, hkq⟩ := subL_get hq
  have := hP.com j k p q (by omega) hjp hkq
  unfold parB at this
  have := List.all_eq_true.1 this z.toNat (List.mem_range.2 (by omega))
  unfold comB at this
  simp only [Bool.and_eq_true] at this
  have := of_decide_eq_true this.2
  exact this
theorem plc_bfs {list : List (List Int)} {n f : Nat} {y : Int} (hs : SysOf list n) (hf : f < n) (hy : labOf list f = y) : (plc (labL list n) y n).length = (bfs list n (f : Int)).length := by
  have hm := bfs_met hs (x := (f : Int)) (by omega) (by omega)
  have key : ∀ z : Int, z ∈ plc (labL list n) y n ↔ z ∈ bfs list n (f : Int) := by
    intro z
    rw [plc_mem, bfs_mem hs (by omega) (by omega)]
    constructor
    · rintro ⟨z0, z1, e⟩
      obtain ⟨Z, rfl⟩ := Int.eq_ofNat_of_zero_le z0
      rw [Int.toNat_natCast, getD_some (labL_get (by omega)), ← hy] at e
      exact (labOf_eq_iff hs hf (by omega)).1 e
    · intro hz
      have hr := hz.rng hs (by omega) (by omega)
      obtain ⟨Z, rfl⟩ := Int.eq_ofNat_of_zero_le hr.1
      refine ⟨by omega, by omega, ?_⟩
      rw [Int.toNat_natCast, getD_some (labL_get (by omega)), ← hy]
      exact (labOf_eq_iff hs hf (by omega)).2 hz
  exact Nat.le_antisymm (nodup_sub_len _ _ (plc_nodup _ _ _) fun z hz => (key z).1 hz) (nodup_sub_len _ _ hm.nd fun z hz => (key z).2 hz)
theorem flg_form {xss : List (List Int)} {n : Nat} {x : Int} (h : 1 ≤ xss.length) : flg (formL xss n x) = (bfs xss n x).length := by
  obtain ⟨p, hp⟩ : ∃ p, xss[0]? = some p := ⟨_, List.getElem?_eq_getElem (by omega)⟩
  unfold flg formL
  rw [getD_some (x := ixF (bfs xss n x) p) (by rw [List.getElem?_map, hp]; rfl), ixF_length]
theorem bfs_same_mem {hs ks : List (List Int)} {n : Nat} {x : Int} (hH : SysOf hs n) (hK : SysOf ks n) (hm : ∀ p, p ∈ hs ↔ p ∈ ks) (h0 : 0 ≤ x) (h1 : x < n) : (bfs hs n x).length = (bfs ks n x).length := by
  have a := bfs_met hH h0 h1
  have b := bfs_met hK h0 h1
  have up : ∀ (l l' : List (List Int)), (∀ p, p ∈ l → p ∈ l') → ∀ u, Rch l x u → Rch l' x u := by
    intro l l' hll u hu
    induction hu with
    | refl => exact .refl
    | step _ hp ih => exact ih.step (hll _ hp)
  exact Nat.le_antisymm (nodup_sub_len _ _ a.nd fun z hz => (bfs_mem hK h0 h1).2 (up _ _ (fun p => (hm p).1) z (a.rch z hz))) (nodup_sub_len _ _ b.nd fun z hz => (bfs_mem hH h0 h1).2 (up _ _ (fun p => (hm p).2) z (b.rch z hz)))
/-- the numbers of flags of a face, of its maniplex and its coface -/
theorem fs_facts {xss : List (List Int)} (hP : ManP xss) {N I fl : Nat} {y : Int} (hN : flg xss = N) (hI : I < xss.length) (hfl : fl < N) (hy : labOf (xss.eraseIdx I) fl = y) :
    (plc (labL (xss.eraseIdx I) N) y N).length = (bfs (xss.eraseIdx I) N (fl : Int)).length ∧
    (∀ z ∈ plc (labL (xss.eraseIdx I) N) y N, (bfs (subL xss 0 I) N z).length = (bfs (subL xss 0 I) N (fl : Int)).length) ∧
    (bfs (subL xss 0 I) N (fl : Int)).length ∣ (bfs (xss.eraseIdx I) N (fl : Int)).length ∧
    (bfs (subL xss (I + 1) xss.length) N (fl : Int)).length ∣ (bfs (xss.eraseIdx I) N (fl : Int)).length ∧
    (bfs (xss.eraseIdx I) N (fl : Int)).length ≤ (bfs (subL xss (I + 1) xss.length) N (fl : Int)).length * (bfs (subL xss 0 I) N (fl : Int)).length ∧
    (I + 1 = xss.length → (bfs (xss.eraseIdx I) N (fl : Int)).length = (bfs (subL xss 0 I) N (fl : Int)).length) := by
  have hS : SysOf xss N := by rw [← hN]; exact hP.sys
  have hL : SysOf (xss.eraseIdx I) N := fun p hp => hS p (List.mem_of_mem_eraseIdx hp)
  have hH := sysOf_sub hS 0 I
  have hK := sysOf_sub hS (I + 1) xss.length
  have hc : CommL (subL xss 0 I) (subL xss (I + 1) xss.length) N := by rw [← hN]; exact comm_hk hP I
  have hl : ∀ p ∈ xss.eraseIdx I, p ∈ subL xss 0 I ∨ p ∈ subL xss (I + 1) xss.length := fun p hp => (erase_two p).1 hp
  have h0 : (0 : Int) ≤ (fl : Int) := by omega
  have h1 : (fl : Int) < N := by omega
  refine ⟨plc_bfs hL hfl hy, fun z hz => ?_, ?_, ?_, ?_, fun e => ?_⟩
  · obtain ⟨z0, z1, e⟩ := plc_mem.1 hz
    obtain ⟨Z, rfl⟩ := Int.eq_ofNat_of_zero_le z0
    rw [Int.toNat_natCast, getD_some (labL_get (by omega)), ← hy] at e
    exact (orb_size hH hK hl hc h0 h1 ((labOf_eq_iff hL hfl (by omega)).1 e)).2.2
  · exact orb_dvd hH hK hL hl (fun p hp => (erase_two p).2 (.inl hp)) hc h0 h1
  · exact orb_dvd hK hH hL (fun p hp => (hl p hp).symm) (fun p hp => (erase_two p).2 (.inr hp)) hc.symm h0 h1
  · exact orb_mul hH hK hL hl hc (fun p hp => (erase_two p).2 (.inr hp)) h0 h1
  · refine bfs_same_mem hL hH (fun p => ?_) h0 h1
    rw [erase_two]
    have : subL xss (I + 1) xss.length = [] := by unfold subL; rw [e]; simp
    rw [this]
    simp
end Go.Proofs.Ytbioelmofceaaaa
/- DistP -/
namespace Go.Proofs.Ytbioelmofceaaaa
set_option linter.unusedVariables false
set_option maxRecDepth 100000
/-- d at z -/
def dat (d : List Int) (z : Int) : Int := d.getD z.toNat 0
/-- what the move p adds at the point y -/
def dMove (y : Int) (s : List Int × List Int) (p : List Int) : List Int × List Int := if dat s.1 (at' p y) < 0 then (s.1.set (at' p y).toNat (dat s.1 y + 1), s.2 ++ [at' p y]) else s
def dStep (list : List (List Int)) (y : Int) (s : List Int × List Int) : List Int × List Int := list.foldl (dMove y) s
def dGo (list : List (List Int)) : Nat → List Int × List Int → Nat → List Int × List Int
  | 0, s, _ => s
  | f + 1, s, i => match s.2[i]? with
    | none => s
    | some y => dGo list f (dStep list y s) (i + 1)
def dstart (n : Nat) (x : Int) : List Int × List Int := ((List.replicate n (-1)).set x.toNat 0, [x])
def dist (list : List (List Int)) (n : Nat) (x : Int) : List Int := (dGo list (n + 1) (dstart n x) 0).1
theorem dStep_snoc (list : List (List Int)) (p : List Int) (y : Int) (s : List Int × List Int) : dStep (list ++ [p]) y s = dMove y (dStep list y s) p := by
  unfold dStep; rw [List.foldl_append]; rfl
theorem dGo_stop {list : List (List Int)} {f i : Nat} {s : List Int × List Int} (h : s.2.length ≤ i) : dGo list f s i = s := by
  cases f with
  | zero => rfl
  | succ f => simp [dGo, List.getElem?_eq_none h]
theorem dGo_step {list : List (List Int)} {f i : Nat} {s : List Int × List Int} {y : Int} (h : s.2[i]? = some y) : dGo list (f + 1) s i = dGo list f (dStep list y s) (i + 1) := by
  simp [dGo, h]
theorem dat_set_eq {d : List Int} {g : Int} {u : Int} {n : Nat} (hl : d.length = n) (h0 : 0 ≤ g) (h1 : g < n) : dat (d.set g.toNat u) g = u := by
  unfold dat; simp [List.getD, show g.toNat < d.length by omega]
theorem dat_set_ne {d : List Int} {g z : Int} {u : Int} (h0 : 0 ≤ g) (h1 : 0 ≤ z) (h : z ≠ g) : dat (d.set g.toNat u) z = dat d z := by
  unfold dat; simp [List.getD, List.getElem?_set_ne (show g.toNat ≠ z.toNat by omega)]
/-- what holds of the distances while the i-th of the points met is gone through -/
structure DMet (list : List (List Int)) (n : Nat) (x : Int) (d out : List Int) (i : Nat) : Prop where
  met : Met list n x out
  dl : d.length = n
  pos : ∀ z : Int, 0 ≤ z → z < n → (0 ≤ dat d z ↔ z ∈ out)
  neg : ∀ z : Int, 0 ≤ z → z < n → z ∉ out → dat d z = -1
  le : ∀ (j : Nat) z, out[j]? = some z → dat d z ≤ j
  mono : ∀ (j k : Nat) y z, j ≤ k → out[j]? = some y → out[k]? = some z → dat d y ≤ dat d z
  top : ∀ y z, out[i]? = some y → z ∈ out → dat d z ≤ dat d y + 1
  lip : ∀ (j : Nat) y p, j < i → out[j]? = some y → p ∈ list → at' p y ∈ out ∧ dat d (at' p y) ≤ dat d y + 1
  par : ∀ z ∈ out, z = x ∨ ∃ y p, p ∈ list ∧ y ∈ out ∧ z = at' p y ∧ dat d z = dat d y + 1
  zero : dat d x = 0
theorem DMet.start {list : List (List Int)} {n : Nat} {x : Int} (h0 : 0 ≤ x) (h1 : x < n) : DMet list n x (dstart n x).1 (dstart n x).2 0 := by
  have hz : dat (dstart n x).1 x = 0 := by unfold dstart; exact dat_set_eq (n := n) (by simp) h0 h1
  have hneg : ∀ z : Int, 0 ≤ z → z < n → z ≠ x → dat (dstart n x).1 z = -1 := by
    intro z g0 g1 hne
    unfold dstart
    rw [dat_set_ne h0 g0 hne]
    unfold dat
    simp [List.getD, show z.toNat < n by omega]
  have h1x : ∀ (j : Nat) (z : Int), (dstart n x).2[j]? = some z → j = 0 ∧ z = x := by
    intro j z h
    have h : ([x] : List Int)[j]? = some z := h
    have := (List.getElem?_eq_some_iff.1 h).1
    simp at this
    subst this
    simp at h
    exact ⟨rfl, h.symm⟩
  refine ⟨Met.one h0 h1, by simp [dstart], ?_, ?_, ?_, ?_, ?_, ?_, ?_, hz⟩
  · intro z g0 g1
    show _ ↔ z ∈ [x]
    by_cases e : z = x
    · subst e; simp [hz]
    · rw [hneg z g0 g1 e]; simp [e]
  · intro z g0 g1 hm
    exact hneg z g0 g1 (fun e => hm (by subst e; show z ∈ [z]; simp))
  · intro j z h
    obtain ⟨rfl, rfl⟩ := h1x j z h
    omega
  · intro j k y z _ hy hz'
    obtain ⟨_, rfl⟩ := h1x j y hy
    obtain ⟨_, rfl⟩ := h1x k z hz'
    exact Int.le_refl _
  · intro y z hy hz'
    obtain ⟨_, rfl⟩ := h1x 0 y hy
    have hz' : z ∈ [y] := hz'
    simp at hz'
    subst hz'
    omega
  · intro j y p hj
    omega
  · intro z hz'
    have hz' : z ∈ [x] := hz'
    simp at hz'
    exact .inl hz'
theorem DMet.datn {list : List (List Int)} {n : Nat} {x : Int} {d out : List Int} {i : Nat} (h : DMet list n x d out i) {z : Int} (hz : z ∈ out) : 0 ≤ dat d z ∧ dat d z < n := by
  have hr := h.met.rng z hz
  obtain ⟨j, hj⟩ := List.mem_iff_getElem?.1 hz
  have := h.le j z hj
  have := (List.getElem?_eq_some_iff.1 hj).1
  have := h.met.len
  exact ⟨(h.pos z hr.1 hr.2).2 hz, by omega⟩
theorem DMet.datr {list : List (List Int)} {n : Nat} {x : Int} {d out : List Int} {i : Nat} (h : DMet list n x d out i) {z : Int} (g0 : 0 ≤ z) (g1 : z < n) : -1 ≤ dat d z ∧ dat d z < n := by
  by_cases hz : z ∈ out
  · have := h.datn hz; omega
  · have := h.neg z g0 g1 hz; omega
theorem DMet.add {list : List (List Int)} {n : Nat} {x y : Int} {p : List Int} {d out : List Int} {i : Nat} (hs : SysOf list n) (h : DMet list n x d out i) (hy : out[i]? = some y) (hp : p ∈ list) (hn : dat d (at' p y) < 0) :
    DMet list n x (d.set (at' p y).toNat (dat d y + 1)) (out ++ [at' p y]) i := by
  have hym := mem_of_get? hy
  have hyr := h.met.rng y hym
  obtain ⟨g0, g1⟩ := at'_rng (hs p hp).1 (hs p hp).2.2 hyr.1 hyr.2
  have hgo : at' p y ∉ out := fun hm => by have := (h.pos _ g0 g1).2 hm; omega
  have hmet := h.met.add hs hym hp hgo
  generalize hg : at' p y = g at *
  have hdy := h.datn hym
  have hil := (List.getElem?_eq_some_iff.1 hy).1
  have hgg : dat (d.set g.toNat (dat d y + 1)) g = dat d y + 1 := dat_set_eq h.dl g0 g1
  have hold : ∀ z ∈ out, dat (d.set g.toNat (dat d y + 1)) z = dat d z := fun z hz => dat_set_ne g0 (h.met.rng z hz).1 (fun e => hgo (e ▸ hz))
  have hne : ∀ z : Int, 0 ≤ z → z ≠ g → dat (d.set g.toNat (dat d y + 1)) z = dat d z := fun z hz e => dat_set_ne g0 hz e
  have hget : ∀ (j : Nat) z, (out ++ [g])[j]? = some z → (out[j]? = some z ∧ j < out.length) ∨ (j = out.length ∧ z = g) := by
    intro j z hj
    by_cases hlt : j < out.length
    · rw [List.getElem?_append_left hlt] at hj; exact .inl ⟨hj, hlt⟩
    · have := (List.getElem?_eq_some_iff.1 hj).1
      simp at this
      have e : j = out.length := by omega
      subst e
      simp at hj
      exact .inr ⟨rfl, hj.symm⟩
  refine ⟨hmet, by simp [h.dl], ?_, ?_, ?_, ?_, ?_, ?_, ?_, ?_⟩
  · intro z k0 k1
    by_cases e : z = g
    · subst e; rw [hgg]; simp; omega
    · rw [hne z k0 e, h.pos z k0 k1]; simp [e]
  · intro z k0 k1 hm
    rw [List.mem_append] at hm
    have e : z ≠ g := fun e => hm (.inr (by simp [e]))
    rw [hne z k0 e]
    exact h.neg z k0 k1 (fun hz => hm (.inl hz))
  · intro j z hj
    rcases hget j z hj with ⟨hj, _⟩ | ⟨rfl, rfl⟩
    · rw [hold z (mem_of_get? hj)]; exact h.le j z hj
    · rw [hgg]; have := h.le i y hy; omega
  · intro j k y' z hjk hj hk
    rcases hget j y' hj with ⟨hj2, hjl⟩ | ⟨rfl, rfl⟩
    · rw [hold y' (mem_of_get? hj2)]
      rcases hget k z hk with ⟨hk2, _⟩ | ⟨rfl, rfl⟩
      · rw [hold z (mem_of_get? hk2)]; exact h.mono j k y' z hjk hj2 hk2
      · rw [hgg]; exact h.top y y' hy (mem_of_get? hj2)
    · rcases hget k z hk with ⟨hk, _⟩ | ⟨rfl, rfl⟩
      · have := (List.getElem?_eq_some_iff.1 hk).1; omega
      · exact Int.le_refl _
  · intro y' z hy' hz
    rw [List.getElem?_append_left hil, hy] at hy'
    obtain rfl := Option.some.inj hy'
    rw [hold y hym]
    rcases List.mem_append.1 hz with hz | hz
    · rw [hold z hz]; exact h.top y z hy hz
    · simp at hz; subst hz; rw [hgg]; exact Int.le_refl _
  · intro j y' q hj hjy hq
    rw [List.getElem?_append_left (by omega)] at hjy
    obtain ⟨k1, k2⟩ := h.lip j y' q hj hjy hq
    rw [hold _ k1, hold _ (mem_of_get? hjy)]
    exact ⟨List.mem_append_left _ k1, k2⟩
  · intro z hz
    rcases List.mem_append.1 hz with hz | hz
    · rcases h.par z hz with e | ⟨y', q, h1, h2, h3, h4⟩
      · exact .inl e
      · exact .inr ⟨y', q, h1, List.mem_append_left _ h2, h3, by rw [hold z hz, hold y' h2]; exact h4⟩
    · simp at hz
      subst hz
      exact .inr ⟨y, p, hp, List.mem_append_left _ hym, hg.symm, by rw [hgg, hold y hym]⟩
  · rw [hold x h.met.start]; exact h.zero
/-- all moves of the i-th point are done -/
theorem DMet.next {list : List (List Int)} {n : Nat} {x y : Int} {d out : List Int} {i : Nat} (h : DMet list n x d out i) (hy : out[i]? = some y) (hall : ∀ p ∈ list, at' p y ∈ out) : DMet list n x d out (i + 1) := by
  refine ⟨h.met, h.dl, h.pos, h.neg, h.le, h.mono, ?_, ?_, h.par, h.zero⟩
  · intro y' z hy' hz
    have := h.top y z hy hz
    have := h.mono i (i + 1) y y' (by omega) hy hy'
    omega
  · intro j y' p hj hjy hp
    by_cases e : j = i
    · subst e
      rw [hy] at hjy
      obtain rfl := Option.some.inj hjy
      exact ⟨hall p hp, h.top y _ hy (hall p hp)⟩
    · exact h.lip j y' p (by omega) hjy hp
theorem dMove_spec {list : List (List Int)} {n : Nat} {x y : Int} {p : List Int} {s : List Int × List Int} {i : Nat} (hs : SysOf list n) (h : DMet list n x s.1 s.2 i) (hy : s.2[i]? = some y) (hp : p ∈ list) :
    DMet list n x (dMove y s p).1 (dMove y s p).2 i ∧ (dMove y s p).2[i]? = some y ∧ at' p y ∈ (dMove y s p).2 ∧ ∀ z ∈ s.2, z ∈ (dMove y s p).2 := by
  have hil := (List.getElem?_eq_some_iff.1 hy).1
  have hyr := h.met.rng y (mem_of_get? hy)
  obtain ⟨g0, g1⟩ := at'_rng (hs p hp).1 (hs p hp).2.2 hyr.1 hyr.2
  unfold dMove
  by_cases hn : dat s.1 (at' p y) < 0
  · rw [if_pos hn]
    exact ⟨h.add hs hy hp hn, by rw [List.getElem?_append_left hil]; exact hy, by simp, fun z hz => List.mem_append_left _ hz⟩
  · rw [if_neg hn]
    exact ⟨h, hy, (h.pos _ g0 g1).1 (by omega), fun z hz => hz⟩
theorem dStep_spec {list : List (List Int)} {n : Nat} {x y : Int} {i : Nat} (hs : SysOf list n) : ∀ (ps : List (List Int)) (s : List Int × List Int), (∀ p ∈ ps, p ∈ list) → DMet list n x s.1 s.2 i → s.2[i]? = some y →
    DMet list n x (dStep ps y s).1 (dStep ps y s).2 i ∧ (dStep ps y s).2[i]? = some y ∧ (∀ p ∈ ps, at' p y ∈ (dStep ps y s).2) ∧ ∀ z ∈ s.2, z ∈ (dStep ps y s).2 := by
  intro ps
  induction ps with
  | nil => intro s _ h hy; exact ⟨h, hy, by simp, fun z hz => hz⟩
  | cons p t ih =>
    intro s hps h hy
    obtain ⟨h1, h2, h3, h4⟩ := dMove_spec hs h hy (hps p (by simp))
    obtain ⟨k1, k2, k3, k4⟩ := ih (dMove y s p) (fun q hq => hps q (by simp [hq])) h1 h2
    refine ⟨k1, k2, fun q hq => ?_, fun z hz => k4 z (h4 z hz)⟩
    rcases List.mem_cons.1 hq with rfl | hq
    · exact k4 _ h3
    · exact k3 q hq
theorem dStep_next {list : List (List Int)} {n : Nat} {x y : Int} {i : Nat} {s : List Int × List Int} (hs : SysOf list n) (h : DMet list n x s.1 s.2 i) (hy : s.2[i]? = some y) : DMet list n x (dStep list y s).1 (dStep list y s).2 (i + 1) := by
  obtain ⟨h1, h2, h3, _⟩ := dStep_spec hs list s (fun _ h => h) h hy
  exact h1.next h2 h3
theorem dGo_spec {list : List (List Int)} {n : Nat} {x : Int} (hs : SysOf list n) : ∀ (f : Nat) (s : List Int × List Int) (i : Nat), DMet list n x s.1 s.2 i → n < f + i →
    ∃ i', (dGo list f s i).2.length ≤ i' ∧ DMet list n x (dGo list f s i).1 (dGo list f s i).2 i' := by
  intro f
  induction f with
  | zero =>
    intro s i h hf
    have := h.met.len
    exact ⟨i, by show s.2.length ≤ i; omega, h⟩
  | succ f ih =>
    intro s i h hf
    cases hx : s.2[i]? with
    | none =>
      have := List.getElem?_eq_none_iff.1 hx
      rw [dGo_stop this]
      exact ⟨i, this, h⟩
    | some y =>
      rw [dGo_step hx]
      exact ih _ _ (dStep_next hs h hx) (by omega)
/-- what holds of the distances of a connected system -/
structure DFin (list : List (List Int)) (n : Nat) (x : Int) (d : List Int) : Prop where
  dl : d.length = n
  rng : ∀ z : Int, 0 ≤ z → z < n → 0 ≤ dat d z ∧ dat d z < n
  lip : ∀ (z : Int) p, 0 ≤ z → z < n → p ∈ list → dat d (at' p z) ≤ dat d z + 1
  par : ∀ z : Int, 0 ≤ z → z < n → z ≠ x → ∃ (y : Int) (p : List Int), p ∈ list ∧ 0 ≤ y ∧ y < n ∧ z = at' p y ∧ dat d z = dat d y + 1
  zero : dat d x = 0
/-- all points are met from each point -/
def Conn (list : List (List Int)) (n : Nat) : Prop := ∀ x z : Int, 0 ≤ x → x < n → 0 ≤ z → z < n → Rch list x z
theorem dGo_closed {list : List (List Int)} {n : Nat} {x : Int} {d out : List Int} {i : Nat} (h : DMet list n x d out i) (hl : out.length ≤ i) {z : Int} (hz : Rch list x z) : z ∈ out := by
  induction hz with
  | refl => exact h.met.start
  | step _ hp ih =>
    obtain ⟨j, hj⟩ := List.mem_iff_getElem?.1 ih
    exact (h.lip j _ _ (by have := (List.getElem?_eq_some_iff.1 hj).1; omega) hj hp).1
theorem dist_fin {list : List (List Int)} {n : Nat} {x : Int} (hs : SysOf list n) (hc : Conn list n) (h0 : 0 ≤ x) (h1 : x < n) : DFin list n x (dist list n x) := by
  obtain ⟨i, hi, h⟩ := dGo_spec hs (n + 1) (dstart n x) 0 (DMet.start h0 h1) (by omega)
  unfold dist
  generalize dGo list (n + 1) (dstart n x) 0 = s at *
  have hall : ∀ z : Int, 0 ≤ z → z < n → z ∈ s.2 := fun z g0 g1 => dGo_closed h hi (hc x z h0 h1 g0 g1)
  refine ⟨h.dl, fun z g0 g1 => h.datn (hall z g0 g1), fun z p g0 g1 hp => ?_, fun z g0 g1 hne => ?_, h.zero⟩
  · obtain ⟨j, hj⟩ := List.mem_iff_getElem?.1 (hall z g0 g1)
    exact (h.lip j z p (by have := (List.getElem?_eq_some_iff.1 hj).1; omega) hj hp).2
  · rcases h.par z (hall z g0 g1) with e | ⟨y, p, h2, h3, h4, h5⟩
    · exact absurd e hne
    · have := h.met.rng y h3
      exact ⟨y, p, h2, this.1, this.2, h4, h5⟩
theorem dist_length {list : List (List Int)} {n : Nat} {x : Int} (hs : SysOf list n) (h0 : 0 ≤ x) (h1 : x < n) : (dist list n x).length = n := by
  obtain ⟨i, hi, h⟩ := dGo_spec hs (n + 1) (dstart n x) 0 (DMet.start h0 h1) (by omega)
  exact h.dl
theorem dist_rng {list : List (List Int)} {n : Nat} {x : Int} (hs : SysOf list n) (h0 : 0 ≤ x) (h1 : x < n) : ∀ u ∈ dist list n x, -1 ≤ u ∧ u < n := by
  obtain ⟨i, hi, h⟩ := dGo_spec hs (n + 1) (dstart n x) 0 (DMet.start h0 h1) (by omega)
  intro u hu
  obtain ⟨j, hj⟩ := List.mem_iff_getElem?.1 hu
  have hlt := (List.getElem?_eq_some_iff.1 hj).1
  have := h.dl
  have e : dat (dist list n x) (j : Int) = u := by unfold dat; rw [Int.toNat_natCast]; exact getD_some hj
  have := h.datr (z := (j : Int)) (by omega) (by unfold dist at hlt; omega)
  unfold dist at e
  rw [e] at this
  exact this
theorem ManP.conn {xss : List (List Int)} (h : ManP xss) : Conn xss (flg xss) := by
  have h1 := h.f2
  have hs := h.sys
  have hlen := (conn_iff hs (by omega)).1 h.con
  have hm := bfs_met hs (show (0 : Int) ≤ 0 by omega) (show (0 : Int) < flg xss by omega)
  have hz : ∀ z : Int, 0 ≤ z → z < flg xss → Rch xss 0 z := by
    intro z g0 g1
    have : z ∈ bfs xss (flg xss) 0 := mem_of_full hm.nd (fun a ha => mem_ints.2 (hm.rng a ha)) (by simp [hlen]) (mem_ints.2 ⟨g0, g1⟩)
    exact hm.rch z this
  intro x z x0 x1 z0 z1
  exact ((hz x x0 x1).symm hs (by omega) (by omega)).trans (hz z z0 z1)
end Go.Proofs.Ytbioelmofceaaaa
/- FwP -/
namespace Go.Proofs.Ytbioelmofceaaaa
set_option linter.unusedVariables false
set_option maxRecDepth 100000
theorem all_take_succ' {α : Type} {xs : List α} {k : Nat} {x : α} {f : α → Bool} (h : xs[k]? = some x) : (xs.take (k + 1)).all f = ((xs.take k).all f && f x) := by
  rw [take_succ_of h, List.all_append]; simp
/-- the first move that leads nearer -/
def nearB (D : List Int) (f : Int) (p : List Int) : Bool := decide (dat D (at' p f) < dat D f)
def stepK (xss : List (List Int)) (D : List Int) (f : Int) : Nat := xss.findIdx (nearB D f)
def fwL (xss : List (List Int)) (D : List Int) : Nat → Int → List Int
  | 0, _ => []
  | d + 1, f => (stepK xss D f : Int) :: fwL xss D d (at' (xss.getD (stepK xss D f) []) f)
theorem fwL_length (xss : List (List Int)) (D : List Int) : ∀ (d : Nat) (f : Int), (fwL xss D d f).length = d := by
  intro d
  induction d with
  | zero => intro f; rfl
  | succ d ih => intro f; unfold fwL; rw [List.length_cons, ih]
/-- each move is its own inverse -/
def Invo (xss : List (List Int)) (n : Nat) : Prop := ∀ p ∈ xss, ∀ z : Int, 0 ≤ z → z < n → at' p (at' p z) = z
theorem near_iff {xss : List (List Int)} {n : Nat} {x f : Int} {D p : List Int} (hs : SysOf xss n) (hi : Invo xss n) (h : DFin xss n x D) (h0 : 0 ≤ f) (h1 : f < n) (hp : p ∈ xss) : dat D (at' p f) < dat D f ↔ dat D (at' p f) = dat D f - 1 := by
  have hr := at'_rng (hs p hp).1 (hs p hp).2.2 h0 h1
  have h2 := h.lip (at' p f) p hr.1 hr.2 hp
  rw [hi p hp f h0 h1] at h2
  constructor
  · intro h3; omega
  · intro h3; omega
theorem near_ex {xss : List (List Int)} {n : Nat} {x f : Int} {D : List Int} (hs : SysOf xss n) (hi : Invo xss n) (h : DFin xss n x D) (h0 : 0 ≤ f) (h1 : f < n) (hne : f ≠ x) : ∃ p ∈ xss, nearB D f p = true := by
  obtain ⟨y, p, hp, y0, y1, e, hd⟩ := h.par f h0 h1 hne
  refine ⟨p, hp, ?_⟩
  unfold nearB
  rw [e, hi p hp y y0 y1, ← e]
  exact decide_eq_true (by omega)
theorem dist_zero {xss : List (List Int)} {n : Nat} {x f : Int} {D : List Int} (h : DFin xss n x D) (h0 : 0 ≤ f) (h1 : f < n) : f = x ↔ dat D f = 0 := by
  constructor
  · rintro rfl; exact h.zero
  · intro hd
    by_cases e : f = x
    · exact e
    · obtain ⟨y, p, _, y0, y1, _, hd2⟩ := h.par f h0 h1 e
      have := h.rng y y0 y1
      omega
theorem stepK_eq {xss : List (List Int)} {D p : List Int} {f : Int} {k : Nat} (hp : xss[k]? = some p) (hn : nearB D f p = true) (hall : (xss.take k).all (fun q => !(nearB D f q)) = true) : stepK xss D f = k := by
  have hk := (List.getElem?_eq_some_iff.1 hp).1
  have hpe := (List.getElem?_eq_some_iff.1 hp).2
  unfold stepK
  rw [List.findIdx_eq hk]
  refine ⟨by rw [hpe]; exact hn, fun j hj => ?_⟩
  have := List.all_eq_true.1 hall (xss[j]) (by rw [List.mem_take_iff_getElem]; exact ⟨j, by omega, rfl⟩)
  simpa using this
theorem fwL_step {xss : List (List Int)} {D p : List Int} {f : Int} {k d : Nat} (hp : xss[k]? = some p) (hk : stepK xss D f = k) : fwL xss D (d + 1) f = (k : Int) :: fwL xss D d (at' p f) := by
  show (stepK xss D f : Int) :: fwL xss D d (at' (xss.getD (stepK xss D f) []) f) = _
  rw [hk, getD_some hp]
theorem ManP.invo {xss : List (List Int)} (h : ManP xss) : Invo xss (flg xss) := by
  intro p hp z z0 z1
  obtain ⟨_, hf, hl⟩ := mvB_iff.1 (h.mv p hp)
  unfold freeB at hf
  have h1 := (of_decide_eq_true hf z.toNat (by omega)).2
  rw [Int.toNat_of_nonneg z0] at h1
  exact h1
end Go.Proofs.Ytbioelmofceaaaa
/- SeqP -/
namespace Go.Proofs.Ytbioelmofceaaaa
set_option linter.unusedVariables false
set_option maxRecDepth 100000
theorem bfs_head {list : List (List Int)} {n : Nat} {x : Int} : (bfs list n x)[0]? = some x := by
  have key : ∀ (f : Nat) (out : List Int) (i : Nat), out[0]? = some x → (bfsGo list f out i)[0]? = some x := by
    intro f
    induction f with
    | zero => intro out i h; exact h
    | succ f ih =>
      intro out i h
      cases hx : out[i]? with
      | none =>
        rw [bfsGo_stop (List.getElem?_eq_none_iff.1 hx)]
        exact h
      | some y =>
        rw [bfsGo_step hx]
        refine ih _ _ ?_
        have : ∀ (ps : List (List Int)) (o : List Int), o[0]? = some x → (bfsStep ps y o)[0]? = some x := by
          intro ps
          induction ps with
          | nil => intro o ho; exact ho
          | cons p t ih2 =>
            intro o ho
            show (bfsStep t y (if at' p y ∈ o then o else o ++ [at' p y]))[0]? = some x
            refine ih2 _ ?_
            by_cases hm : at' p y ∈ o
            · rw [if_pos hm]; exact ho
            · rw [if_neg hm, List.getElem?_append_left (List.getElem?_eq_some_iff.1 ho).1]; exact ho
        exact this list out h
  exact key _ _ _ rfl
/-- what is carried over from a form -/
def phi (xss : List (List Int)) (n : Nat) (x : Int) (j : Int) : Int := (bfs xss n x).getD j.toNat 0
theorem phi_zero {xss : List (List Int)} {n : Nat} {x : Int} : phi xss n x 0 = x := getD_some bfs_head
theorem form_iso' {xss : List (List Int)} {n : Nat} {x : Int} (hs : SysOf xss n) (h0 : 0 ≤ x) (h1 : x < n) : Iso (formL xss n x) xss (bfs xss n x).length n (phi xss n x) := form_iso hs h0 h1
theorem free_iff {p : List Int} {n : Nat} (hl : p.length = n) : freeB p = true ↔ ∀ z : Int, 0 ≤ z → z < n → at' p z ≠ z ∧ at' p (at' p z) = z := by
  unfold freeB
  rw [decide_eq_true_iff]
  constructor
  · intro h z z0 z1
    have := h z.toNat (by omega)
    rw [Int.toNat_of_nonneg z0] at this
    exact this
  · intro h i hi
    have := h (i : Int) (by omega) (by omega)
    unfold at' at this
    rw [Int.toNat_natCast] at this
    exact this
theorem com_iff {a b : List Int} {n : Nat} : parB n a b = true ↔ ∀ z : Int, 0 ≤ z → z < n → at' a z ≠ at' b z ∧ at' b (at' a z) = at' a (at' b z) := by
  unfold parB comB
  rw [List.all_eq_true]
  constructor
  · intro h z z0 z1
    have := h z.toNat (List.mem_range.2 (by omega))
    simp only [Bool.and_eq_true, decide_eq_true_eq] at this
    exact this
  · intro h f hf
    have := h (f : Int) (by omega) (by have := List.mem_range.1 hf; omega)
    simp only [Bool.and_eq_true, decide_eq_true_eq]
    unfold at' at this
    rw [Int.toNat_natCast] at this
    exact this
/-- a section of a maniplex is a maniplex -/
theorem sec_man {xss : List (List Int)} (hP : ManP xss) {N I J : Nat} {f : Int} (hN : flg xss = N) (hIJ : I < J) (hJ : J ≤ xss.length) (f0 : 0 ≤ f) (f1 : f < N) : ManP (formL (subL xss I J) N f) ∧ flg (formL (subL xss I J) N f) = (bfs (subL xss I J) N f).length := by
  have hS : SysOf xss N := by rw [← hN]; exact hP.sys
  have hT := sysOf_sub hS I J
  have hTl := subL_length (xss := xss) hJ (by omega : I ≤ J)
  have hfl := flg_form (xss := subL xss I J) (n := N) (x := f) (by omega)
  have hI := form_iso' hT f0 f1
  have hF := form_sys hT f0 f1
  have hm := bfs_met hT f0 f1
  have hM400 : (bfs (subL xss I J) N f).length ≤ 400 := by have := hm.len; have := hP.f4; omega
  have hmem : ∀ p ∈ subL xss I J, p ∈ xss := fun p hp => List.mem_of_mem_drop (List.mem_of_mem_take hp)
  have hfree : ∀ p ∈ subL xss I J, ∀ z : Int, 0 ≤ z → z < N → at' p z ≠ z ∧ at' p (at' p z) = z := by
    intro p hp
    obtain ⟨_, h2, h3⟩ := mvB_iff.1 (hP.mv p (hmem p hp))
    rw [hN] at h3
    exact (free_iff h3).1 h2
  obtain ⟨p0, hp0⟩ : ∃ p, (subL xss I J)[0]? = some p := ⟨_, List.getElem?_eq_getElem (by omega)⟩
  have hM2 : 2 ≤ (bfs (subL xss I J) N f).length := by
    have hne := (hfree p0 (mem_of_get? hp0) f f0 f1).1
    have hb : at' p0 f ∈ bfs (subL xss I J) N f := bfs_closed hT f0 f1 hm.start (mem_of_get? hp0)
    exact nodup_sub_len [f, at' p0 f] _ (by simp; exact fun e => hne e.symm) (fun z hz => by
      simp only [List.mem_cons, List.not_mem_nil, or_false] at hz
      rcases hz with rfl | rfl
      · exact hm.start
      · exact hb)
  have hrow : ∀ (j : Nat) q, (formL (subL xss I J) N f)[j]? = some q → ∃ p, (subL xss I J)[j]? = some p ∧ ∀ z : Int, 0 ≤ z → z < (bfs (subL xss I J) N f).length → phi (subL xss I J) N f (at' q z) = at' p (phi (subL xss I J) N f z) := by
    intro j q hq
    have hj : j < (subL xss I J).length := by have := (List.getElem?_eq_some_iff.1 hq).1; rw [formL_length] at this; exact this
    exact ⟨_, List.getElem?_eq_getElem hj, hI.com j q _ hq (List.getElem?_eq_getElem hj)⟩
  refine ⟨⟨by rw [formL_length]; omega, by rw [formL_length]; have := hP.r5; omega, by rw [hfl]; exact hM2, by rw [hfl]; exact hM400, fun q hq => ?_, fun i k a b hik ha hb => ?_, ?_⟩, hfl⟩
  · rw [hfl, mvB_iff]
    obtain ⟨q1, q2, q3⟩ := hF q hq
    refine ⟨⟨by omega, by rw [q3]; exact q1, q2⟩, (free_iff q3).2 (fun z z0 z1 => ?_), q3⟩
    obtain ⟨j, hj⟩ := List.mem_iff_getElem?.1 hq
    obtain ⟨p, hp, hc⟩ := hrow j q hj
    have hr := at'_rng q1 q3 z0 z1
    have hzr := hI.rng z z0 z1
    obtain ⟨h1, h2⟩ := hfree p (mem_of_get? hp) _ hzr.1 hzr.2
    have e1 := hc z z0 z1
    have e2 := hc _ hr.1 hr.2
    have hr2 := at'_rng q1 q3 hr.1 hr.2
    refine ⟨fun e => ?_, ?_⟩
    · rw [e] at e1
      exact h1 e1.symm
    · refine hI.inj _ _ hr2.1 hr2.2 z0 z1 ?_
      rw [e2, e1]
      exact h2
  · rw [hfl, com_iff]
    intro z z0 z1
    obtain ⟨p, hp, hc⟩ := hrow i a ha
    obtain ⟨q, hq, hd⟩ := hrow k b hb
    have ha' := hF a (mem_of_get? ha)
    have hb' := hF b (mem_of_get? hb)
    have ra := at'_rng ha'.1 ha'.2.2 z0 z1
    have rb := at'_rng hb'.1 hb'.2.2 z0 z1
    have hzr := hI.rng z z0 z1
    have hp2 : xss[I + i]? = some p := by
      unfold subL at hp
      rw [List.getElem?_take] at hp
      by_cases e : i < J - I
      · rw [if_pos e, List.getElem?_drop] at hp; exact hp
      · rw [if_neg e] at hp; exact absurd hp (by simp)
    have hq2 : xss[I + k]? = some q := by
      unfold subL at hq
      rw [List.getElem?_take] at hq
      by_cases e : k < J - I
      · rw [if_pos e, List.getElem?_drop] at hq; exact hq
      · rw [if_neg e] at hq; exact absurd hq (by simp)
    have hcm := hP.com (I + i) (I + k) p q (by omega) hp2 hq2
    rw [hN] at hcm
    obtain ⟨h1, h2⟩ := com_iff.1 hcm _ hzr.1 hzr.2
    have ea := hc z z0 z1
    have eb := hd z z0 z1
    have eba := hd _ ra.1 ra.2
    have eab := hc _ rb.1 rb.2
    have rba := at'_rng hb'.1 hb'.2.2 ra.1 ra.2
    have rab := at'_rng ha'.1 ha'.2.2 rb.1 rb.2
    refine ⟨fun e => ?_, ?_⟩
    · rw [e, eb] at ea
      exact h1 ea.symm
    · refine hI.inj _ _ rba.1 rba.2 rab.1 rab.2 ?_
      rw [eba, eab, ea, eb]
      exact h2
  · rw [hfl, conn_iff hF (by omega)]
    have := iso_len hF hI (x := 0) (by omega) (by omega)
    rw [phi_zero] at this
    exact this.symm
theorem subL_sub {xss : List (List Int)} {I J a b : Nat} (h : I + b ≤ J) : subL (subL xss I J) a b = subL xss (I + a) (I + b) := by
  unfold subL
  rw [List.drop_take, List.drop_drop, List.take_take]
  congr 1
  omega
/-- a section of a section is a section -/
theorem sec_sec {xss : List (List Int)} {N I J a b : Nat} {f : Int} (hS : SysOf xss N) (h : I + b ≤ J) (f0 : 0 ≤ f) (f1 : f < N) : formL (subL (formL (subL xss I J) N f) a b) (bfs (subL xss I J) N f).length 0 = formL (subL xss (I + a) (I + b)) N f := by
  have hT := sysOf_sub hS I J
  have hF := form_sys hT f0 f1
  have hpos : 1 ≤ (bfs (subL xss I J) N f).length := List.length_pos_of_mem (bfs_met hT f0 f1).start
  have := iso_form (sysOf_sub hF a b) ((form_iso' hT f0 f1).sub a b) (x := 0) (by omega) (by omega)
  rw [phi_zero, subL_sub h] at this
  exact this.symm
/-- a form is its own form -/
theorem form_form {xss : List (List Int)} {N : Nat} {f : Int} (hS : SysOf xss N) (f0 : 0 ≤ f) (f1 : f < N) : formL (formL xss N f) (bfs xss N f).length 0 = formL xss N f := by
  have hF := form_sys hS f0 f1
  have hpos : 1 ≤ (bfs xss N f).length := List.length_pos_of_mem (bfs_met hS f0 f1).start
  have := iso_form hF (form_iso' hS f0 f1) (x := 0) (by omega) (by omega)
  rw [phi_zero] at this
  exact this.symm
end Go.Proofs.Ytbioelmofceaaaa
/- SecP -/
namespace Go.Proofs.Ytbioelmofceaaaa
set_option linter.unusedVariables false
/-- each number of an orbit is that of its root -/
theorem lab_hit {ys : List (List Int)} : ∀ (n c : Nat), c < cntR ys n → ∃ r : Nat, r < n ∧ rootB ys r = true ∧ cntR ys r = c
  | 0, c, h => by simp [cntR] at h
  | n + 1, c, h => by
    rw [cntR_succ] at h
    by_cases e : c < cntR ys n
    · obtain ⟨r, h1, h2, h3⟩ := lab_hit n c e
      exact ⟨r, by omega, h2, h3⟩
    · by_cases hr : rootB ys n = true
      · rw [if_pos hr] at h
        exact ⟨n, by omega, hr, by omega⟩
      · rw [if_neg hr] at h
        omega
theorem idx_lab {ys : List (List Int)} {n c : Nat} (hs : SysOf ys n) (hc : c < cntR ys n) : ∃ r : Nat, r < n ∧ idxI (labL ys n) (c : Int) = r ∧ labOf ys r = c := by
  obtain ⟨r, h1, h2, h3⟩ := lab_hit n c hc
  have hl : labOf ys r = (c : Int) := by rw [((labOf_le hs h1).2).2 h2, h3]
  have hg : (labL ys n)[r]? = some (c : Int) := by rw [labL_get h1, hl]
  have hm : (c : Int) ∈ labL ys n := List.mem_of_getElem? hg
  have hk := List.idxOf_lt_length_iff.2 hm
  rw [labL_length] at hk
  refine ⟨(labL ys n).idxOf (c : Int), hk, by unfold idxI; rw [if_pos hm], ?_⟩
  have h4 : (labL ys n)[(labL ys n).idxOf (c : Int)]? = some (c : Int) := get?_idxOf hm
  rw [labL_get hk] at h4
  exact Option.some.inj h4
/-- the least form of the section at a flag -/
noncomputable def frmL (ys : List (List Int)) (N : Nat) (x : Int) : List (List Int) := leastGo (formL ys N x) (flg (formL ys N x)) (flg (formL ys N x))
/-- the least forms of the sections, one for each orbit -/
noncomputable def ownC (ys : List (List Int)) (N : Nat) : List (List (List Int)) := (List.range (cntR ys N)).map fun (c : Nat) => frmL ys N (idxI (labL ys N) (c : Int))
theorem ownC_length (ys : List (List Int)) (N : Nat) : (ownC ys N).length = cntR ys N := by simp [ownC]
theorem ownC_get {ys : List (List Int)} {N c : Nat} (h : c < cntR ys N) : (ownC ys N)[c]? = some (frmL ys N (idxI (labL ys N) (c : Int))) := by simp [ownC, h]
end Go.Proofs.Ytbioelmofceaaaa
/- Form -/
namespace Go.Proofs.Ytbioelmofceaaaa
open Go.RowKit
set_option linter.unusedVariables false
set_option maxRecDepth 100000
set_option maxHeartbeats 4000000 in
theorem numberedFrom_any (n : Nat) (A : Option Addr) (m c : Nat) (xss : List (List Int)) (x : Int) (w : World) {lo hi : Nat} (h : RS w lo hi A m xss) (hhi : hi ≤ w.heap.size) (hm0 : 0 < m) (hn : n ≤ 400) (hs : SysOf xss n) (hx0 : 0 ≤ x) (hx1 : x < n) :
    Calls Try.prog 97 #[.slice A m c, .int .i64 x] w fun e w' => ∃ (A1 : Option Addr) (n1 c1 : Nat), e = .returned (.slice A1 n1 c1) ∧ Own w' w.heap.size w'.heap.size 2 A1 n1 c1 ((bfs xss n x).map (Value.int .i64)) ∧ Below w.heap.size w w' := by
  obtain ⟨i0, hi0, hz0, hz1, hz2⟩ := info_parts infoB
  obtain ⟨j0, hj0, hy0, hy1, hy2⟩ := info_parts infoI
  have hm := h.max
  have hl := h.len
  obtain ⟨x, rfl⟩ : ∃ q : Nat, x = q := ⟨x.toNat, by omega⟩
  obtain ⟨b0, o0, A0, n0, c0, p0, hA0, _, hb0, hp0, hc0, hr0⟩ := h.at_ (k := 0) (by omega)
  rw [Nat.add_zero] at hc0
  have hn0 : n0 = n := by rw [← hr0.len]; exact (hs p0 (mem_of_get? hp0)).2.2
  subst hn0
  subst hA0
  clear hp0 hr0
  replace hs := Lib.hid hs
  replace hl := Lib.hid hl
  go_enter Try.func97, Try.ntmps97
  go_wp2_with (at_make; refine wpList_make_full _ rfl _ _ 80 rfl w.heap.size 4 i0 (.bool false) 1 Try.underlying80 hi0 hz0 hz1 _ _ _ _ n0 rfl rfl (by simp) (by simp) ?c1 ?c2 (by simp) ?_)
  case c1 => rw [hz2]; omega
  case c2 => simp only [maxLen]; omega
  intro w1 hown hg
  have hb1 : Below w.heap.size w w1 := (Below.refl _ _).grown hg (by simp) (by simp)
  have hs1 := hb1.size
  have hfr := hown.frozenAt x
  have hcx : w1.cell? ⟨w.heap.size, x, none⟩ = some (.bool false) := by rw [hown.cellAt x (by omega)]; simp [toList_madeCells_one, List.getElem?_replicate]; try omega
  go_wp2_with fail
  have hset := hown.stored x (.bool true)
  have ho2 := (own_lit1 (w1.setCell ⟨w.heap.size, x, none⟩ (.bool true)) 2 (x : Int) (lo := w.heap.size) (by simp; omega)).1
  rw [World.size_setCell] at ho2
  have hb2 : Below w.heap.size w ((w1.setCell ⟨w.heap.size, x, none⟩ (.bool true)).alloc (.cells #[.int .i64 (x : Int)] 2)) := (hb1.setCell (by simp) _).alloc (by simp; omega) _
  have hset1 : ((w1.setCell ⟨w.heap.size, x, none⟩ (.bool true)).alloc (.cells #[.int .i64 (x : Int)] 2)).ownsRow w.heap.size 4 1 (.slice (some ⟨w.heap.size, 0, none⟩) n0 n0) n0 (((List.replicate n0 false).set x true).map Value.bool) := by
    have := hset.1.alloc (.cells #[.int .i64 (x : Int)] 2)
    rw [List.map_set]
    simpa [toList_madeCells_one, Value.cells] using this
  clear hset hown hg hb1 hcx hfr hc0
  go_loopw [6, 7] (fun ov jv wr => ∃ (j : Nat) (ys : List Int) (A1 : Option Addr) (c1 : Nat) (bs : List Bool), j ≤ ys.length ∧ ys.length ≤ n0 ∧ ov = .slice A1 ys.length c1 ∧ jv = .int .i64 j ∧ Hid (bfsGo xss (n0 + 1 - j) ys j = bfs xss n0 x) ∧ Hid (Met xss n0 x ys) ∧ Hid (∀ z : Nat, z < n0 → bs[z]? = some (decide ((z : Int) ∈ ys))) ∧
      wr.ownsRow w.heap.size 4 1 (.slice (some ⟨w.heap.size, 0, none⟩) n0 n0) n0 (bs.map Value.bool) ∧ wr.ownsRow w.heap.size 2 1 (.slice A1 ys.length c1) ys.length (ys.map (Value.int .i64)) ∧ Below w.heap.size w wr) (fun _ jv _ => n0 - (intOf jv).toNat)
  case atStart =>
    refine ⟨0, [(x : Int)], _, 1, _, by simp, by simp; omega, rfl, rfl, Lib.hid rfl, Lib.hid (Met.one hx0 hx1), Lib.hid fun z hz => ?_, hset1, ho2, hb2⟩
    by_cases e : x = z
    · subst e; simp [show x < n0 by omega]
    · have hne : ¬ (z : Int) = x := by omega
      rw [List.getElem?_set_ne e]; simp [hz, hne]
  case round =>
    clear hset1 ho2 hb2
    obtain ⟨j, ys, A1, c1, bs, hj, hyn, rfl, rfl, heq, hmet, hbs, hsn, ho, hb⟩ := hrel
    have hmq := hb.size
    by_cases hlt : j < ys.length
    · obtain ⟨g, y, rfl, _, _, _, hy, _, _⟩ := (Own.of_row ho).atI hlt
      have hyr := hmet.out.rng y (mem_of_get? hy)
      obtain ⟨y, rfl⟩ : ∃ q : Nat, y = q := ⟨y.toNat, by omega⟩
      replace hy := Lib.hid hy
      go_wp2_with fail
      obtain ⟨wo, hwo⟩ : ∃ wo : World, wo = wr := ⟨_, rfl⟩
      go_loopw [6, 29] (fun ov kv wq => ∃ (k : Nat) (zs : List Int) (A2 : Option Addr) (c2 : Nat) (bs : List Bool), k ≤ m ∧ zs.length ≤ n0 ∧ ov = .slice A2 zs.length c2 ∧ kv = .int .i64 k ∧ Hid (zs = bfsStep (xss.take k) y ys) ∧ Hid (Met xss n0 x zs) ∧ Hid (zs[j]? = some (y : Int)) ∧ Hid (∀ z : Nat, z < n0 → bs[z]? = some (decide ((z : Int) ∈ zs))) ∧
          wq.ownsRow w.heap.size 4 1 (.slice (some ⟨w.heap.size, 0, none⟩) n0 n0) n0 (bs.map Value.bool) ∧ wq.ownsRow w.heap.size 2 1 (.slice A2 zs.length c2) zs.length (zs.map (Value.int .i64)) ∧ Below w.heap.size w wq) (fun _ kv _ => m - (intOf kv).toNat)
      case atStart => exact ⟨0, ys, _, c1, bs, by omega, hyn, rfl, rfl, Lib.hid rfl, hmet, hy, hbs, hsn, ho, hb⟩
      case round =>
        clear hsn ho hb hbs hwo
        obtain ⟨k, zs, A2, c2, bs, hk, hzn, rfl, rfl, hzs, hmz, hzy, hbs, hsn, ho, hb⟩ := hrel
        have hjz : j < zs.length := (List.getElem?_eq_some_iff.1 hzy.out).1
        by_cases hkm : k < m
        · obtain ⟨bb, oo, Ak, nk, ck, p, hA, _, hbb, hp, hpc, hpr⟩ := (h.below hb hhi).at_ hkm
          injection hA with hA
          injection hA with hA1 hA2 _
          subst hA1; subst hA2
          have hpm := mem_of_get? hp
          obtain ⟨hpr0, hpn, hpl⟩ := hs.out p hpm
          have hnk := hpr.len
          have hynk : y < nk := by omega
          obtain ⟨bp, oq, v, rfl, _, hbp, hv, hvc⟩ := hpr.at_ hynk
          have hva : at' p y = v := by unfold at'; rw [Int.toNat_natCast]; exact getD_some hv
          obtain ⟨hv0, hv1⟩ := hpr0 v (mem_of_get? hv)
          obtain ⟨v, rfl⟩ : ∃ q : Nat, v = q := ⟨v.toNat, by omega⟩
          obtain ⟨gz, y', rfl, hgz1, hgz2, hgz3, hy', hyc, _⟩ := (Own.of_row ho).atI hjz
          have e : y' = y := by rw [hzy.out] at hy'; exact (Option.some.inj hy').symm
          subst e
          clear hy'
          have htk := take_succ_of hp
          have hbv := hbs.out v (by omega)
          have hsc : wr.cell? ⟨w.heap.size, v, none⟩ = some (.bool (decide ((v : Int) ∈ zs))) := by
            rw [hsn.cellAt v (by omega), List.getElem?_map, hbv]; rfl
          have hsf := hsn.frozenAt v
          replace hbv := Lib.hid hbv
          replace hp := Lib.hid hp
          replace hv := Lib.hid hv
          replace hpr0 := Lib.hid hpr0
          have hvn : v < n0 := by omega
          by_cases hmem : (v : Int) ∈ zs
          · have hst : zs = bfsStep (xss.take (k + 1)) y ys := by
              rw [htk, bfsStep_snoc, hva, ← hzs.out, if_pos hmem]
            replace hst := Lib.hid hst
            rw [decide_eq_true hmem] at hsc
            replace htk := Lib.hid htk
            replace hva := Lib.hid hva
            replace hmem := Lib.hid hmem
            replace hpl := Lib.hid hpl
            go_wp2_with fail
            go_roundw
            case measure => simp [intOf]; omega
            case rel => exact ⟨k + 1, zs, _, c2, bs, by omega, hzn, rfl, by go_num, hst, hmz, hzy, hbs, hsn, ho, hb⟩
          · have hst : zs ++ [(v : Int)] = bfsStep (xss.take (k + 1)) y ys := by
              rw [htk, bfsStep_snoc, hva, ← hzs.out, if_neg hmem]
            replace hst := Lib.hid hst
            have hmz2 : Met xss n0 x (zs ++ [(v : Int)]) := by
              have := hmz.out.add hs.out (mem_of_get? hzy.out) hpm (by rw [hva]; exact hmem)
              rwa [hva] at this
            have hzn2 := hmz2.len
            rw [List.length_append, List.length_singleton] at hzn2
            replace hmz2 := Lib.hid hmz2
            rw [decide_eq_false hmem] at hsc
            replace htk := Lib.hid htk
            replace hva := Lib.hid hva
            replace hmem := Lib.hid hmem
            replace hpl := Lib.hid hpl
            have hset := hsn.stored v (.bool true)
            have ho' := own_kept_ty ho hsn (by decide) hset.2
            have hss : (wr.setCell ⟨w.heap.size, v, none⟩ (.bool true)).heap.size = wr.heap.size := World.size_setCell _ _ _
            have hsize := hb.size
            replace hss := Lib.hid hss
            go_wp2_with (at_builtin; refine wpList_append1 (wr.setCell ⟨w.heap.size, v, none⟩ (.bool true)) rfl (.tmp 48) (.tmp 50) 22 rfl w.heap.size 2 j0 (.int .i64 0) 8 Try.underlying22 hj0 hy0 hy1 hy2 rfl (by omega) _ zs.length c2 _ (.int .i64 v) rfl ho' _ rfl (World.size_setCell _ _ _).symm rfl (by omega) (by rw [hss.out]; exact hsize) ?_)
            intro g4 c4 w2 ho2 hg2 hlo2 hlt2 hor2
            have hb4 : Below w.heap.size w w2 := (hb.setCell (p := ⟨w.heap.size, v, none⟩) (by simp) (.bool true)).grown hg2 (by rw [hss.out]; exact hsize) (fun q hq => by have := (ho.lt q hq).1; omega)
            have hsn4 : w2.ownsRow w.heap.size 4 1 (.slice (some ⟨w.heap.size, 0, none⟩) n0 n0) n0 ((bs.set v true).map Value.bool) :=
              own_kept_ty (by rw [List.map_set]; exact hset.1) ho' (by decide) hg2
            clear hset ho' ho hsn hb hpc hvc hyc hsc hsf hpr hg2
            go_wp2_with fail
            go_roundw
            case measure => simp [intOf]; omega
            case rel =>
              refine ⟨k + 1, zs ++ [(v : Int)], _, c4, bs.set v true, by omega, by simp; omega, by rw [List.length_append]; rfl, by go_num, hst, hmz2, Lib.hid ?_, Lib.hid fun z hz => ?_, hsn4, by simpa using ho2, hb4⟩
              · rw [List.getElem?_append_left hjz]; exact hzy.out
              · by_cases e : v = z
                · subst e
                  have := (List.getElem?_eq_some_iff.1 hbv.out).1
                  simp [this]
                · rw [List.getElem?_set_ne e, hbs.out z hz]
                  have : ¬ (z : Int) = v := by omega
                  simp [this]
        · have hkm' : k = m := by omega
          subst hkm'
          go_wp2_with fail
          go_roundw
          case measure => simp [intOf]; omega
          case rel =>
            refine ⟨j + 1, zs, A2, c2, bs, by omega, hzn, rfl, by go_num, Lib.hid ?_, hmz, hbs, hsn, ho, hb⟩
            have h1 := heq.out
            rw [show n0 + 1 - j = (n0 - j) + 1 by omega, bfsGo_step hy.out] at h1
            have h2 := hzs.out
            rw [List.take_of_length_le (by have := hl.out; omega)] at h2
            rw [← h1, h2, show n0 + 1 - (j + 1) = n0 - j by omega]
    · go_wp2_with fail
      go_ret
      refine ⟨A1, ys.length, c1, rfl, ?_, hb⟩
      have h1 := heq.out
      rw [bfsGo_stop (by omega)] at h1
      rw [← h1]
      exact Own.of_row ho
set_option maxHeartbeats 8000000 in
theorem formFrom_any (n : Nat) (A : Option Addr) (m c : Nat) (xss : List (List Int)) (x : Int) (w : World) {lo hi : Nat} (h : RS w lo hi A m xss) (hhi : hi ≤ w.heap.size) (hm0 : 0 < m) (hm5 : m ≤ 20) (hn : n ≤ 400) (hs : SysOf xss n) (hx0 : 0 ≤ x) (hx1 : x < n) :
    Calls Try.prog 74 #[.slice A m c, .int .i64 x] w fun e w' => ∃ (A1 : Option Addr) (c1 : Nat), e = .returned (.agg #[.slice A1 m c1]) ∧ OwnS w' w.heap.size w'.heap.size 22 2 A1 m c1 (formL xss n x) ∧ Below w.heap.size w w' := by
  obtain ⟨j0, hj0, hy0, hy1, hy2⟩ := info_parts infoI
  obtain ⟨s0, hs0, hu0, hu1, hu2⟩ := info_parts infoS
  have hl := h.len
  have hnf := numberedFrom_any n A m c xss x (w.alloc (.cells #[.slice none 0 0] 38)) (rs_alloc h hhi _) (by simp; omega) hm0 hn hs hx0 hx1
  have hmet := bfs_met hs hx0 hx1
  have hclo : ∀ y ∈ bfs xss n x, ∀ p ∈ xss, at' p y ∈ bfs xss n x := fun y hy p hp => bfs_closed hs hx0 hx1 hy hp
  have hfl : formL xss n x = xss.map (ixF (bfs xss n x)) := rfl
  rw [hfl]
  generalize bfs xss n x = ord at *
  have hol := hmet.len
  replace hfl := Lib.hid hfl
  replace hmet := Lib.hid hmet
  replace hclo := Lib.hid hclo
  replace hs := Lib.hid hs
  go_enter Try.func74, Try.ntmps74
  go_wp2_with fail
  ((with_reducible refine hnf.mono ?_); rintro e w1 ⟨A5, n5, c5, rfl, o5, f1⟩)
  have B1 : Below w.heap.size w w1 := ((Below.refl _ _).alloc (Nat.le_refl _) _).trans (f1.mono (by simp))
  have g4 : w1.heap[w.heap.size]? = some (.cells #[.slice none 0 0] 38 (0, 0)) := (f1.block _ (by simp)).trans (heap_new _ _ _ rfl)
  have z1 : w.heap.size + 1 ≤ w1.heap.size := by have := f1.size; simpa using this
  have e5 := o5.lenI
  subst e5
  clear f1 hnf
  obtain ⟨b0, o0, A0, n0, c0, p0, rfl, _, _, hp0, hc0, hr0⟩ := (h.below B1 hhi).at_ hm0
  rw [Nat.add_zero] at hc0
  have hn0 : n0 = n := by rw [← hr0.len]; exact (hs.out p0 (mem_of_get? hp0)).2.2
  subst hn0
  clear hp0 hr0
  go_wp2_with (at_make; refine wpList_make_full _ rfl _ _ 22 rfl w1.heap.size 2 j0 (.int .i64 0) 1 Try.underlying22 hj0 hy0 hy1 _ _ _ _ n0 rfl rfl rfl rfl ?c1 ?c2 (Nat.le_refl _) ?_)
  case c1 => rw [hy2]; omega
  case c2 => simp only [maxLen]; omega
  intro w2 hown hg
  have B2 : Below w1.heap.size w1 w2 := (Below.refl _ _).grown hg (Nat.le_refl _) (by simp)
  have z2 : w1.heap.size < w2.heap.size := (hown.lt w1.heap.size (by simp [Value.ownBlock])).2
  have o6 : Own w2 w1.heap.size w2.heap.size 2 (some ⟨w1.heap.size, 0, none⟩) n0 n0 ((List.replicate n0 0).map (Value.int .i64)) := by
    have := Own.of_row hown
    simpa [toList_madeCells_one, Value.cells] using this
  clear hown hg hc0
  go_wp2_with fail
  go_loopw [25] (fun kv wq => ∃ (k : Nat) (ns : List Int), k ≤ ord.length ∧ kv = .int .i64 k ∧ Hid (NumI ord n0 k ns) ∧ Own wq w1.heap.size w2.heap.size 2 (some ⟨w1.heap.size, 0, none⟩) n0 n0 (ns.map (Value.int .i64)) ∧ w2.heap.size ≤ wq.heap.size ∧ Below w1.heap.size w1 wq) (fun kv _ => ord.length - (intOf kv).toNat)
  case atStart => exact ⟨0, _, by omega, rfl, Lib.hid (NumI.zero ord n0), o6, Nat.le_refl _, B2⟩
  case round =>
    clear o6 B2
    obtain ⟨k, ns, hk, rfl, hns, ho, hz, hb⟩ := hrel
    by_cases hlt : k < ord.length
    · obtain ⟨b5, f, rfl, _, _, _, hf, hcf, _⟩ := (o5.below hb (Nat.le_refl _)).atI hlt
      obtain ⟨hf0, hf1⟩ := hmet.out.rng f (mem_of_get? hf)
      obtain ⟨f, rfl⟩ : ∃ q : Nat, f = q := ⟨f.toNat, by omega⟩
      have hcn := ho.cellI (hns.out.2 f (by omega))
      have hfr := ho.frz f
      have hfn : f < n0 := by omega
      have hst := hns.out.step hmet.out.nd hf
      replace hst := Lib.hid hst
      replace hf := Lib.hid hf
      generalize (if (f : Int) ∈ ord.take k then (ord.idxOf (f : Int) : Int) else 0) = old at *
      go_wp2_with fail
      go_roundw
      case measure => simp [intOf]; omega
      case rel => exact ⟨k + 1, ns.set f (k : Int), by omega, by go_num, hst, ho.setI (k : Int), by simp; omega, hb.setCell (by simp) _⟩
    · have hko : k = ord.length := by omega
      subst hko
      have hnum : ∀ z : Nat, z < n0 → (z : Int) ∈ ord → ns[z]? = some (ord.idxOf (z : Int) : Int) := fun z hz' hm => hns.out.get hz' hm
      replace hnum := Lib.hid hnum
      go_wp2_with fail
      obtain ⟨w3, rfl⟩ : ∃ w3 : World, w3 = wr := ⟨_, rfl⟩
      have g9 : (w3.alloc (.cells #[.slice none 0 0] 38)).heap[w3.heap.size]? = some (.cells #[.slice none 0 0] 38 (0, 0)) := heap_new _ _ _ rfl
      go_loopw [37] (fun kv wq => ∃ (k : Nat) (vs : List Value) (A2 : Option Addr) (c2 : Nat), k ≤ m ∧ vs.length = k ∧ kv = .int .i64 k ∧ wq.heap[w3.heap.size]? = some (.cells #[.slice A2 k c2] 38 (0, 0)) ∧
          Own wq (w3.heap.size + 1) wq.heap.size 22 A2 k c2 vs ∧ RowsOwn wq (w3.heap.size + 1) wq.heap.size 2 vs ((xss.take k).map (ixF ord)) ∧ w3.heap.size + 1 ≤ wq.heap.size ∧ Below w3.heap.size w3 wq) (fun kv _ => m - (intOf kv).toNat)
      case atStart => exact ⟨0, [], none, 0, by omega, rfl, rfl, g9, Own.nil, by simpa using RowsOwn.nil, by simp, (Below.refl _ _).alloc (Nat.le_refl _) _⟩
      case round =>
        clear g9
        obtain ⟨k, vs, A2, c2, hk, hvk, rfl, g9, ho9, hrows, hz9, hb9⟩ := hrel
        have C9 : wr.cell? ⟨w3.heap.size, 0, none⟩ = some (.slice A2 k c2) := by rw [cell_of_row _ _ _ _ _ _ g9]; rfl
        have F9 : wr.frozen? ⟨w3.heap.size, 0, none⟩ = false := frozen_of_row _ _ _ _ _ g9
        have hbw : Below w1.heap.size w1 wr := hb.trans (hb9.mono (by omega))
        have ho6 := ho.below hb9 hz
        by_cases hkm : k < m
        · obtain ⟨bb, oo, Ak, nk, ck, p, e, _, _, hp, hpc, hpr⟩ := ((h.below B1 hhi).below hbw (by omega)).at_ hkm
          injection e with e
          injection e with e1 e2 _
          subst e1; subst e2
          have hpm := mem_of_get? hp
          obtain ⟨hpr0, hpn, hpl⟩ := hs.out p hpm
          have hnk := hpr.len
          have hkk : nk = n0 := by omega
          subst hkk
          have htk := take_succ_of hp
          replace hp := Lib.hid hp
          replace htk := Lib.hid htk
          replace hpr0 := Lib.hid hpr0
          replace hpl := Lib.hid hpl
          replace g9 := Lib.hid g9
          have hnk1 := hpr.max
          go_wp2_with fail
          obtain ⟨wo, rfl⟩ : ∃ wo : World, wo = wr := ⟨_, rfl⟩
          go_loopw [12, 43] (fun lv kv wq => ∃ (j : Nat) (ys : List Int) (A3 : Option Addr) (c3 : Nat), j ≤ ord.length ∧ ys.length = j ∧ lv = .slice A3 j c3 ∧ kv = .int .i64 j ∧ Hid (ys = (ixF ord p).take j) ∧ Own wq wo.heap.size wq.heap.size 2 A3 j c3 (ys.map (Value.int .i64)) ∧ wo.heap.size ≤ wq.heap.size ∧ Below wo.heap.size wo wq) (fun _ kv _ => ord.length - (intOf kv).toNat)
          case atStart => exact ⟨0, [], none, 0, by omega, rfl, rfl, rfl, Lib.hid rfl, Own.nil, Nat.le_refl _, Below.refl _ _⟩
          case round =>
            obtain ⟨j, ys, A3, c3, hj, hyl, rfl, rfl, hys, ho3, hz3, hb3⟩ := hrel
            by_cases hjo : j < ord.length
            · obtain ⟨b5, f, hA5, _, _, _, hf, hcf, _⟩ := ((o5.below hbw (Nat.le_refl _)).below hb3 (by omega)).atI hjo
              subst hA5
              have hfm := mem_of_get? hf
              obtain ⟨hf0, hf1⟩ := hmet.out.rng f hfm
              obtain ⟨f, rfl⟩ : ∃ q : Nat, f = q := ⟨f.toNat, by omega⟩
              have hfn : f < nk := by omega
              obtain ⟨bp, oq, v, rfl, _, _, hv, hvc⟩ := (hpr.below hb3 (by omega)).at_ hfn
              have hva : at' p f = v := by unfold at'; rw [Int.toNat_natCast]; exact getD_some hv
              have hvo := hclo.out _ hfm p hpm
              rw [hva] at hvo
              obtain ⟨hv0, hv1⟩ := hpr0.out v (mem_of_get? hv)
              obtain ⟨v, rfl⟩ : ∃ q : Nat, v = q := ⟨v.toNat, by omega⟩
              have hvn : v < nk := by omega
              have hcn := (ho6.below hb3 (by omega)).cellI (hnum.out v hvn hvo)
              have hst : ys ++ [(ord.idxOf (v : Int) : Int)] = (ixF ord p).take (j + 1) := by
                rw [take_succ_of (x := (ord.idxOf (v : Int) : Int)) (by simp [ixF, hf, hva]), ← hys.out]
              replace hst := Lib.hid hst
              replace hf := Lib.hid hf
              replace hfm := Lib.hid hfm
              replace hv := Lib.hid hv
              replace hva := Lib.hid hva
              replace hvo := Lib.hid hvo
              generalize (ord.idxOf (v : Int) : Int) = u at *
              go_wp2_with (at_builtin; refine wpList_append1 wr rfl (.tmp 47) (.tmp 55) 22 rfl wo.heap.size 2 j0 (.int .i64 0) 8 Try.underlying22 hj0 hy0 hy1 hy2 rfl (by omega) A3 j c3 _ (.int .i64 u) rfl ho3.1 _ rfl rfl rfl (by omega) hz3 ?_)
              intro g4 c4 w5 ho5 hg5 hlo5 hlt5 hor5
              have hb5 : Below wo.heap.size wo w5 := hb3.grown hg5 hz3 (fun q hq => by have := (ho3.1.lt q hq).1; omega)
              have hz5 := hg5.size
              clear hcf hvc hcn ho3 hb3 hg5
              go_wp2_with fail
              go_roundw
              case measure => simp [intOf]; omega
              case rel => exact ⟨j + 1, ys ++ [u], _, c4, by omega, by simp; omega, rfl, by go_num, hst, by simpa using Own.of_row ho5, by omega, hb5⟩
            · have hjo' : j = ord.length := by omega
              subst hjo'
              have hyf : ys = ixF ord p := by have := hys.out; rwa [List.take_of_length_le (by rw [ixF_length]; exact Nat.le_refl _)] at this
              have ho9' := ho9.below hb3 (Nat.le_refl _)
              have hrows' := hrows.keep (Same.of_below hb3 (Nat.le_refl _))
              have g9' := (hb3.block w3.heap.size (by omega)).trans g9.out
              have C9' : wr.cell? ⟨w3.heap.size, 0, none⟩ = some (.slice A2 k c2) := by rw [cell_of_row _ _ _ _ _ _ g9']; rfl
              have F9' : wr.frozen? ⟨w3.heap.size, 0, none⟩ = false := frozen_of_row _ _ _ _ _ g9'
              replace g9' := Lib.hid g9'
              replace hyf := Lib.hid hyf
              replace hyl := Lib.hid hyl
              go_wp2_with (at_builtin; refine wpList_append1 wr rfl (.tmp 59) (.tmp 61) 23 rfl (w3.heap.size + 1) 22 s0 (.slice none 0 0) 24 Try.underlying23 hs0 hu0 hu1 hu2 rfl (by omega) A2 k c2 _ (.slice A3 ord.length c3) rfl ho9'.1 _ rfl rfl rfl (by omega) (by omega) ?_)
              intro g4 c4 w5 ho5 hg5 hlo5 hlt5 hor5
              have g5 := (hg5.block w3.heap.size (by omega) (fun e => by have := (ho9'.1.lt _ e.symm).1; omega)).trans g9'.out
              have C5 : w5.cell? ⟨w3.heap.size, 0, none⟩ = some (.slice A2 k c2) := by rw [cell_of_row _ _ _ _ _ _ g5]; rfl
              have F5 : w5.frozen? ⟨w3.heap.size, 0, none⟩ = false := frozen_of_row _ _ _ _ _ g5
              have hrw5 := (hrows'.kept_ty ho9'.1 (by decide) hg5).snoc (ho3.kept_ty ho9'.1 (by decide) hg5) (by omega) hz3
              have hz5 := hg5.size
              have hb5 : Below w3.heap.size w3 w5 := (hb9.trans (hb3.mono (by omega))).grown hg5 (by omega) (fun q hq => by have := (ho9'.1.lt q hq).1; omega)
              have ho5' := Own.of_row ho5
              replace g5 := Lib.hid g5
              clear C9 F9 C9' F9' ho9 ho9' hrows hrows' ho3 hg5 ho5
              go_wp2_with fail
              go_roundw
              case measure => simp [intOf]; omega
              case rel =>
                refine ⟨k + 1, vs ++ [.slice A3 ord.length c3], _, c4, by omega, by simp; omega, by go_num, ?_, (ho5'.far (.inl (by simp)) _).more (Nat.le_refl _) (by simp), ?_, by simp; omega, hb5.setCell (by simp) _⟩
                · have := heap_setCell_same _ _ 0 _ _ (Value.slice (some ⟨g4, 0, none⟩) (k + 1) c4) g5.out
                  simpa using this
                · rw [htk.out, List.map_append, List.map_singleton, ← hyf.out]
                  exact (hrw5.keep (same_set _ _ _ _ _ (.inl (by simp)))).more (Nat.le_refl _) (by simp; omega)
        · have hkm' : k = m := by omega
          subst hkm'
          have g4' := (hbw.block w.heap.size (by omega)).trans g4
          have C4 : wr.cell? ⟨w.heap.size, 0, none⟩ = some (.slice none 0 0) := by rw [cell_of_row _ _ _ _ _ _ g4']; rfl
          have F4 : wr.frozen? ⟨w.heap.size, 0, none⟩ = false := frozen_of_row _ _ _ _ _ g4'
          replace g4' := Lib.hid g4'
          replace g9 := Lib.hid g9
          replace g4 := Lib.hid g4
          go_wp2_with fail
          have g2 := heap_setCell_same _ _ 0 _ _ (Value.slice A2 k c2) g4'.out
          (try simp only [Exit.inBlock, Exit.then])
          refine bodyPost_ret (v := .agg #[.slice A2 k c2]) ?_ rfl ?_
          · exact results_cell_row rfl _ _ w.heap.size 38 #[.slice A2 k c2] (0, 0) _ rfl (by simpa using g2) Try.underlying38 rfl (by kernel_rfl)
          · have e : xss.take k = xss := List.take_of_length_le (by omega)
            rw [e] at hrows
            refine ⟨A2, c2, rfl, ⟨vs, ?_, ?_⟩, (B1.trans (hbw.mono (by omega))).setCell (by simp) _⟩
            · exact (ho9.keep (same_set _ _ _ _ _ (.inl (by simp; omega)))).more (by omega) (by simp)
            · exact (hrows.keep (same_set _ _ _ _ _ (.inl (by simp; omega)))).more (by omega) (by simp)
end Go.Proofs.Ytbioelmofceaaaa
/- LexS -/
namespace Go.Proofs.Ytbioelmofceaaaa
open Go.RowKit
set_option linter.unusedVariables false
set_option maxRecDepth 100000
set_option maxHeartbeats 2000000 in
theorem l01Same_any (A : Option Addr) (n c : Nat) (xs : List Int) (A' : Option Addr) (n' c' : Nat) (ys : List Int) (w : World) {lo hi lo' hi' : Nat} (h : RI w lo hi A n xs) (hhi : hi ≤ w.heap.size) (h' : RI w lo' hi' A' n' ys) (hhi' : hi' ≤ w.heap.size) :
    Calls Try.prog 146 #[.slice A n c, .slice A' n' c'] w fun e w' => e = .returned (.bool (decide (xs = ys))) ∧ Below w.heap.size w w' := by
  have hm := h.max
  have hm' := h'.max
  have hl := h.len
  have hl' := h'.len
  by_cases hn : n = n'
  · subst hn
    have hd : ((n : Int) != (n : Int)) = false := by simp
    replace hl := Lib.hid hl
    replace hl' := Lib.hid hl'
    go_enter Try.func146, Try.ntmps146
    go_wp2_with fail
    go_loopw [5] (fun kv wq => ∃ k : Nat, k ≤ n ∧ kv = .int .i64 k ∧ Hid (∀ j, j < k → xs[j]? = ys[j]?) ∧ Below w.heap.size w wq) (fun kv _ => n - (intOf kv).toNat)
    case atStart => exact ⟨0, by omega, rfl, Lib.hid (fun j hj => by omega), Below.refl _ _⟩
    case round =>
      obtain ⟨k, hk, rfl, hall, hb⟩ := hrel
      by_cases hlt : k < n
      · obtain ⟨b, o, x, rfl, _, _, hx, hcx⟩ := (h.below hb hhi).at_ hlt
        obtain ⟨b', o', y, rfl, _, _, hy, hcy⟩ := (h'.below hb hhi').at_ hlt
        by_cases hxy : x = y
        · subst hxy
          have hne : (x != x) = false := by simp
          have hall2 : ∀ j, j < k + 1 → xs[j]? = ys[j]? := fun j hj => by
            by_cases e : j = k
            · subst e; rw [hx, hy]
            · exact hall.out j (by omega)
          replace hall2 := Lib.hid hall2
          replace hx := Lib.hid hx
          replace hy := Lib.hid hy
          go_wp2_with fail
          go_quiet (fail)
          go_wp2_with fail
          go_roundw
          case measure => simp [intOf]; omega
          case rel => exact ⟨k + 1, by omega, by go_num, hall2, below_dn hb _⟩
        · have hne : (x != y) = true := by simpa using hxy
          have hF : decide (xs = ys) = false := decide_eq_false (fun e => by rw [e, hy] at hx; exact hxy (Option.some.inj hx).symm)
          replace hF := Lib.hid hF
          replace hx := Lib.hid hx
          replace hy := Lib.hid hy
          replace hxy := Lib.hid hxy
          go_wp2_with fail
          go_quiet (fail)
          go_wp2_with fail
          go_ret
          exact ⟨ret_bool hF.out.symm, below_dn hb _⟩
      · have hkn : k = n := by omega
        subst hkn
        have hF : decide (xs = ys) = true := decide_eq_true (list_ext_upto k (by have := hl.out; omega) (by have := hl'.out; omega) hall.out)
        replace hF := Lib.hid hF
        go_wp2_with fail
        go_ret
        exact ⟨ret_bool (by first | exact hF.out.symm | (rw [hF.out]; simp; omega)), hb⟩
  · have hd : ((n : Int) != (n' : Int)) = true := by simp; omega
    have hF : decide (xs = ys) = false := decide_eq_false (fun e => by subst e; omega)
    replace hF := Lib.hid hF
    replace hl := Lib.hid hl
    replace hl' := Lib.hid hl'
    replace hn := Lib.hid hn
    go_enter Try.func146, Try.ntmps146
    go_wp2_with fail
    go_ret
    exact ⟨ret_bool hF.out.symm, Below.refl _ _⟩
set_option maxHeartbeats 4000000 in
theorem l01Less_any (A : Option Addr) (n c : Nat) (xs : List Int) (A' : Option Addr) (n' c' : Nat) (ys : List Int) (w : World) {lo hi lo' hi' : Nat} (h : RI w lo hi A n xs) (hhi : hi ≤ w.heap.size) (h' : RI w lo' hi' A' n' ys) (hhi' : hi' ≤ w.heap.size) :
    Calls Try.prog 147 #[.slice A n c, .slice A' n' c'] w fun e w' => e = .returned (.bool (decide (cmpL xs ys < 0))) ∧ Below w.heap.size w w' := by
  have hm := h.max
  have hm' := h'.max
  have hl := Lib.hid h.len
  have hl' := Lib.hid h'.len
  go_enter Try.func147, Try.ntmps147
  go_wp2_with fail
  go_loopw [5] (fun kv wq => ∃ k : Nat, k ≤ n ∧ k ≤ n' ∧ kv = .int .i64 k ∧ Hid (cmpL (xs.drop k) (ys.drop k) = cmpL xs ys) ∧ Below w.heap.size w wq) (fun kv _ => n - (intOf kv).toNat)
  case atStart => exact ⟨0, by omega, by omega, rfl, Lib.hid rfl, Below.refl _ _⟩
  case round =>
    obtain ⟨k, hk, hk', rfl, heq, hb⟩ := hrel
    by_cases hlt : k < n
    · by_cases hlt' : k < n'
      · obtain ⟨b, o, x, rfl, _, hbu, hx, hcx⟩ := (h.below hb hhi).at_ hlt
        obtain ⟨b', o', y, rfl, _, hbu', hy, hcy⟩ := (h'.below hb hhi').at_ hlt'
        have hst := cmpL_step hx hy
        rw [heq.out] at hst
        replace hx := Lib.hid hx
        replace hy := Lib.hid hy
        by_cases hxy : x = y
        · subst hxy
          have hne : (x != x) = false := by simp
          rw [if_neg (by omega), if_neg (by omega)] at hst
          replace hst := Lib.hid hst
          go_wp2_with fail
          go_quiet (fail)
          go_wp2_with fail
          go_roundw
          case measure => simp [intOf]; omega
          case rel => exact ⟨k + 1, by omega, by omega, by go_num, Lib.hid hst.out.symm, below_dn hb _⟩
        · have hne : (x != y) = true := by simpa using hxy
          have hF : decide (cmpL xs ys < 0) = decide (x < y) := by
            rw [hst]
            by_cases h1 : x < y
            · simp [h1]
            · rw [if_neg h1, if_pos (by omega)]; simp [h1]
          replace hF := Lib.hid hF
          replace hst := Lib.hid hst
          replace hxy := Lib.hid hxy
          go_wp2_with fail
          go_quiet (fail)
          go_wp2_with fail
          go_quiet (fail)
          go_wp2_with fail
          go_ret
          exact ⟨ret_bool hF.out.symm, below_dn (below_dn hb _) _⟩
      · obtain ⟨b, o, x, hAe, _, _, hx, _⟩ := (h.below hb hhi).at_ hlt
        have hst := cmpL_short (b := ys) hx (by have := hl'.out; omega)
        rw [heq.out] at hst
        have hF : decide (cmpL xs ys < 0) = false := by rw [hst]; rfl
        have hnl : decide ((n : Int) < (n' : Int)) = false := by simp; omega
        clear hAe
        replace hF := Lib.hid hF
        replace hst := Lib.hid hst
        replace hx := Lib.hid hx
        go_wp2_with fail
        go_ret
        exact ⟨ret_bool (by first | exact hF.out.symm | (rw [hF.out]; simp; omega)), hb⟩
    · have hkn : k = n := by omega
      subst hkn
      by_cases hlt' : k < n'
      · have hst := cmpL_long (a := xs) (b := ys) (k := k) (by have := hl.out; omega) (by have := hl'.out; omega)
        rw [heq.out] at hst
        have hF : decide (cmpL xs ys < 0) = true := by rw [hst]; rfl
        have hnl : decide ((k : Int) < (n' : Int)) = true := by simp; omega
        replace hF := Lib.hid hF
        replace hst := Lib.hid hst
        go_wp2_with fail
        go_ret
        exact ⟨ret_bool (by first | exact hF.out.symm | (rw [hF.out]; simp; omega)), hb⟩
      · have hst := cmpL_end (a := xs) (b := ys) (k := k) (by have := hl.out; omega) (by have := hl'.out; omega)
        rw [heq.out] at hst
        have hF : decide (cmpL xs ys < 0) = false := by rw [hst]; rfl
        have hnl : decide ((k : Int) < (n' : Int)) = false := by simp; omega
        replace hF := Lib.hid hF
        replace hst := Lib.hid hst
        go_wp2_with fail
        go_ret
        exact ⟨ret_bool (by first | exact hF.out.symm | (rw [hF.out]; simp; omega)), hb⟩
set_option maxHeartbeats 4000000 in
theorem l01Less2_any (A : Option Addr) (n c : Nat) (xs : List (List Int)) (A' : Option Addr) (n' c' : Nat) (ys : List (List Int)) (w : World) {lo hi lo' hi' : Nat} (h : RS w lo hi A n xs) (hhi : hi ≤ w.heap.size) (h' : RS w lo' hi' A' n' ys) (hhi' : hi' ≤ w.heap.size) :
    Calls Try.prog 129 #[.slice A n c, .slice A' n' c'] w fun e w' => e = .returned (.bool (decide (cmp2 xs ys < 0))) ∧ Below w.heap.size w w' := by
  have hm := h.max
  have hm' := h'.max
  have hl := Lib.hid h.len
  have hl' := Lib.hid h'.len
  go_enter Try.func129, Try.ntmps129
  go_wp2_with fail
  go_loopw [5] (fun kv wq => ∃ k : Nat, k ≤ n ∧ k ≤ n' ∧ kv = .int .i64 k ∧ Hid (cmp2 (xs.drop k) (ys.drop k) = cmp2 xs ys) ∧ Below w.heap.size w wq) (fun kv _ => n - (intOf kv).toNat)
  case atStart => exact ⟨0, by omega, by omega, rfl, Lib.hid rfl, Below.refl _ _⟩
  case round =>
    obtain ⟨k, hk, hk', rfl, heq, hb⟩ := hrel
    by_cases hlt : k < n
    · by_cases hlt' : k < n'
      · obtain ⟨b, o, Ak, nk, ck, x, rfl, _, hbu, hx, hcx, hrx⟩ := (h.below hb hhi).at_ hlt
        obtain ⟨b', o', Ak', nk', ck', y, rfl, _, hbu', hy, hcy, hry⟩ := (h'.below hb hhi').at_ hlt'
        have hst := cmp2_step hx hy
        rw [heq.out] at hst
        replace hx := Lib.hid hx
        replace hy := Lib.hid hy
        have hhb : hi ≤ wr.heap.size := Nat.le_trans hhi hb.size
        have hhb' : hi' ≤ wr.heap.size := Nat.le_trans hhi' hb.size
        haveI := Since.ne wr
        have u1 : ∀ u : Since wr, u.val.cell? ⟨b, o + k, none⟩ = some (.slice Ak nk ck) := fun u => (u.ok.cell (p := ⟨b, o + k, none⟩) (by simp; omega)).trans hcx
        have u2 : ∀ u : Since wr, u.val.cell? ⟨b', o' + k, none⟩ = some (.slice Ak' nk' ck') := fun u => (u.ok.cell (p := ⟨b', o' + k, none⟩) (by simp; omega)).trans hcy
        have hpn : 0 < n := by omega
        have hpn2 : ¬ n = 0 := by omega
        have hpn3 : 0 < n' := by omega
        have hpn4 : ¬ n' = 0 := by omega
        by_cases hxy : x = y
        · have hsm : decide (x = y) = true := decide_eq_true hxy
          rw [if_pos ((cmpL_zero x y).2 hxy)] at hst
          replace hst := Lib.hid hst
          replace hxy := Lib.hid hxy
          replace hsm := Lib.hid hsm
          go_wp2_with fail
          refine wp_region_since_lit (by kernel_rfl) (by kernel_rfl) ?_
          repeat (go_big_quiet_step ((go_at_call 146; refine since_call (hsm.out ▸ l01Same_any _ _ _ x _ _ _ y _ (hrx.below (Since.ok _) hhb) ?_ (hry.below (Since.ok _) hhb') ?_); exact Nat.le_trans hhb (Since.ok _).size; exact Nat.le_trans hhb' (Since.ok _).size)))
          refine wpQuiet_nil ?_
          intro w2 hw2
          have hb2 : Below wr.heap.size wr w2 := by obtain ⟨u, hu⟩ := hw2; rw [hu]; exact u.ok
          clear hw2 u1 u2
          have hbz := hb.size
          have hb3 := below_then hb hb2 hbz
          go_wp2_with fail
          go_roundw
          case measure => simp [intOf]; omega
          case rel => exact ⟨k + 1, by omega, by omega, by go_num, Lib.hid hst.out.symm, hb3⟩
        · have hsm : decide (x = y) = false := decide_eq_false hxy
          rw [if_neg (fun e => hxy ((cmpL_zero x y).1 e))] at hst
          have hF : decide (cmp2 xs ys < 0) = decide (cmpL x y < 0) := by rw [hst]
          replace hF := Lib.hid hF
          replace hst := Lib.hid hst
          replace hxy := Lib.hid hxy
          replace hsm := Lib.hid hsm
          go_wp2_with fail
          refine wp_region_since_lit (by kernel_rfl) (by kernel_rfl) ?_
          repeat (go_big_quiet_step ((go_at_call 146; refine since_call (hsm.out ▸ l01Same_any _ _ _ x _ _ _ y _ (hrx.below (Since.ok _) hhb) ?_ (hry.below (Since.ok _) hhb') ?_); exact Nat.le_trans hhb (Since.ok _).size; exact Nat.le_trans hhb' (Since.ok _).size)))
          refine wpQuiet_nil ?_
          intro w2 hw2
          have hb2 : Below wr.heap.size wr w2 := by obtain ⟨u, hu⟩ := hw2; rw [hu]; exact u.ok
          clear hw2 u1 u2
          have hbz := hb.size
          have hb3 := below_then hb hb2 hbz
          have hz2 := hb2.size
          have hrx2 := hrx.below hb2 hhb
          have hry2 := hry.below hb2 hhb'
          have hcx2 := (hb2.cell (p := ⟨b, o + k, none⟩) (by simp; omega)).trans hcx
          have hcy2 := (hb2.cell (p := ⟨b', o' + k, none⟩) (by simp; omega)).trans hcy
          have hhc : hi ≤ w2.heap.size := by omega
          have hhc' : hi' ≤ w2.heap.size := by omega
          haveI := Since.ne w2
          have u1 : ∀ u : Since w2, u.val.cell? ⟨b, o + k, none⟩ = some (.slice Ak nk ck) := fun u => (u.ok.cell (p := ⟨b, o + k, none⟩) (by simp; omega)).trans hcx2
          have u2 : ∀ u : Since w2, u.val.cell? ⟨b', o' + k, none⟩ = some (.slice Ak' nk' ck') := fun u => (u.ok.cell (p := ⟨b', o' + k, none⟩) (by simp; omega)).trans hcy2
          go_wp2_with fail
          refine wp_region_since_lit (by kernel_rfl) (by kernel_rfl) ?_
          repeat (go_big_quiet_step ((go_at_call 147; refine since_call (l01Less_any _ _ _ x _ _ _ y _ (hrx2.below (Since.ok _) hhc) ?_ (hry2.below (Since.ok _) hhc') ?_); exact Nat.le_trans hhc (Since.ok _).size; exact Nat.le_trans hhc' (Since.ok _).size)))
          refine wpQuiet_nil ?_
          intro w3 hw3
          have hb4 : Below w2.heap.size w2 w3 := by obtain ⟨u, hu⟩ := hw3; rw [hu]; exact u.ok
          clear hw3 u1 u2
          go_wp2_with fail
          go_ret
          exact ⟨ret_bool hF.out.symm, below_then hb3 hb4 (by omega)⟩
      · obtain ⟨b, o, Ak, nk, ck, x, hAe, _, _, hx, _, _⟩ := (h.below hb hhi).at_ hlt
        have hst := cmp2_short (b := ys) hx (by have := hl'.out; omega)
        rw [heq.out] at hst
        have hF : decide (cmp2 xs ys < 0) = false := by rw [hst]; rfl
        have hnl : decide ((n : Int) < (n' : Int)) = false := by simp; omega
        clear hAe
        replace hF := Lib.hid hF
        replace hst := Lib.hid hst
        replace hx := Lib.hid hx
        go_wp2_with fail
        go_ret
        exact ⟨ret_bool (by first | exact hF.out.symm | (rw [hF.out]; simp; omega)), hb⟩
    · have hkn : k = n := by omega
      subst hkn
      by_cases hlt' : k < n'
      · have hst := cmp2_long (a := xs) (b := ys) (k := k) (by have := hl.out; omega) (by have := hl'.out; omega)
        rw [heq.out] at hst
        have hF : decide (cmp2 xs ys < 0) = true := by rw [hst]; rfl
        have hnl : decide ((k : Int) < (n' : Int)) = true := by simp; omega
        replace hF := Lib.hid hF
        replace hst := Lib.hid hst
        go_wp2_with fail
        go_ret
        exact ⟨ret_bool (by first | exact hF.out.symm | (rw [hF.out]; simp; omega)), hb⟩
      · have hst := cmp2_end (a := xs) (b := ys) (k := k) (by have := hl.out; omega) (by have := hl'.out; omega)
        rw [heq.out] at hst
        have hF : decide (cmp2 xs ys < 0) = false := by rw [hst]; rfl
        have hnl : decide ((k : Int) < (n' : Int)) = false := by simp; omega
        replace hF := Lib.hid hF
        replace hst := Lib.hid hst
        go_wp2_with fail
        go_ret
        exact ⟨ret_bool (by first | exact hF.out.symm | (rw [hF.out]; simp; omega)), hb⟩
end Go.Proofs.Ytbioelmofceaaaa
/- RenP -/
namespace Go.Proofs.Ytbioelmofceaaaa
set_option linter.unusedVariables false
set_option maxRecDepth 100000
/-- the move M when the flag i has become the flag p[i] -/
def renL (p M : List Int) : List Int := thenL (thenL (invL p) M) p
theorem renL_length (p M : List Int) : (renL p M).length = p.length := by simp [renL, thenL_length, invL_length]
theorem renL_get {p M : List Int} {z : Nat} (hz : z < p.length) : (renL p M)[z]? = some (at' p (at' M (p.idxOf (z : Int) : Int))) := by
  unfold renL
  rw [thenL_get (thenL_get (invL_get hz))]
  rfl
/-- the first f flags are laid -/
def RenI (p M : List Int) (n f : Nat) (mv : List Int) : Prop := mv.length = n ∧ ∀ z : Nat, z < n → mv[z]? = some (if p.idxOf (z : Int) < f then at' p (at' M (p.idxOf (z : Int) : Int)) else 0)
theorem RenI.zero (p M : List Int) (n : Nat) : RenI p M n 0 (List.replicate n 0) := ⟨by simp, fun z hz => by simp [hz]⟩
theorem RenI.step {p M mv : List Int} {n f g : Nat} (h : RenI p M n f mv) (hnd : p.Nodup) (hmem : ∀ z : Nat, z < n → (z : Int) ∈ p) (hg : p[f]? = some (g : Int)) (hgn : g < n) : RenI p M n (f + 1) (mv.set g (at' p (at' M (f : Int)))) := by
  have hix := idxOf_of_get? hnd hg
  refine ⟨by simp [h.1], fun z hz => ?_⟩
  by_cases e : z = g
  · subst e
    rw [hix, if_pos (by omega)]
    simp [h.1, hz]
  · rw [List.getElem?_set_ne (by omega), h.2 z hz]
    have hne : p.idxOf (z : Int) ≠ f := by
      intro e2
      have h1 := get?_idxOf (hmem z hz)
      rw [e2, hg] at h1
      have := Option.some.inj h1
      omega
    by_cases hlt : p.idxOf (z : Int) < f
    · rw [if_pos hlt, if_pos (by omega)]
    · rw [if_neg hlt, if_neg (by omega)]
theorem RenI.end_ {p M mv : List Int} {n : Nat} (h : RenI p M n n mv) (hl : p.length = n) (hmem : ∀ z : Nat, z < n → (z : Int) ∈ p) : mv = renL p M := by
  refine List.ext_getElem? fun z => ?_
  by_cases hz : z < n
  · rw [h.2 z hz, renL_get (by omega), if_pos]
    have := List.idxOf_lt_length_of_mem (hmem z hz)
    omega
  · rw [List.getElem?_eq_none (by have := h.1; omega), List.getElem?_eq_none (by rw [renL_length]; omega)]
/-- an order of all flags -/
theorem ren_ix {ord M : List Int} {n : Nat} (hp : isPermP ord) (hl : ord.length = n) (hM : M.length = n) (hr : ∀ x ∈ M, 0 ≤ x ∧ x < n) : renL (invL ord) M = ixF ord M := by
  have hip := invL_perm hp
  have hil : (invL ord).length = n := by rw [invL_length]; exact hl
  refine List.ext_getElem? fun z => ?_
  by_cases hz : z < n
  · have hoz := get?_getD (xs := ord) (k := z) 0 (by omega)
    have hor := hp.get (k := z) (by omega)
    generalize ord.getD z 0 = y at *
    obtain ⟨y, rfl⟩ : ∃ q : Nat, y = q := ⟨y.toNat, by omega⟩
    have hinv : (invL ord)[y]? = some (z : Int) := by rw [invL_get (by omega), idxOf_of_get? hp.nd hoz]
    have hix := idxOf_of_get? hip.nd hinv
    rw [renL_get (by omega), hix]
    unfold ixF
    rw [List.getElem?_map, hoz]
    show some _ = some (ord.idxOf (at' M (y : Int)) : Int)
    have hv := hr (at' M (y : Int)) (mem_of_get? (get?_getD 0 (by rw [Int.toNat_natCast]; omega)))
    generalize at' M (y : Int) = v at *
    obtain ⟨v, rfl⟩ : ∃ q : Nat, v = q := ⟨v.toNat, by omega⟩
    unfold at'
    rw [Int.toNat_natCast, getD_some (invL_get (p := ord) (j := v) (by omega))]
  · rw [List.getElem?_eq_none (by rw [renL_length]; omega), List.getElem?_eq_none (by rw [ixF_length]; omega)]
theorem ord_perm {list : List (List Int)} {n : Nat} {x : Int} (hs : SysOf list n) (hc : Conn list n) (hn : n ≤ 400) (h0 : 0 ≤ x) (h1 : x < n) : isPermP (bfs list n x) ∧ (bfs list n x).length = n := by
  have hm := bfs_met hs h0 h1
  have hle := hm.len
  have hge : n ≤ (bfs list n x).length := by
    have := nodup_sub_len ((List.range n).map Int.ofNat) (bfs list n x) (by
      rw [List.nodup_iff_pairwise_ne, List.pairwise_map]
      refine List.pairwise_lt_range.imp ?_
      intro a b h e
      have e : (a : Int) = b := e
      have : a < b := h
      omega) (fun a ha => by obtain ⟨g1, g2⟩ := mem_ints.1 ha; exact (bfs_mem hs h0 h1).2 (hc x a h0 h1 g1 g2))
    simpa using this
  have hl : (bfs list n x).length = n := by omega
  exact ⟨⟨by omega, fun y hy => by rw [hl]; exact hm.rng y hy, hm.nd⟩, hl⟩
theorem perm_nums {p : List Int} {n : Nat} (hp : isPermP p) (hl : p.length = n) : ∀ z : Nat, z < n → (z : Int) ∈ p :=
  fun z hz => perm_mem hl (by have := hp.rng; rwa [hl] at this) hp.nd (by omega) (by omega)
/-- the form is the renumbered maniplex -/
theorem form_ren {xss : List (List Int)} {n : Nat} {x : Int} (hs : SysOf xss n) (hc : Conn xss n) (hn : n ≤ 400) (h0 : 0 ≤ x) (h1 : x < n) : formL xss n x = xss.map (renL (invL (bfs xss n x))) := by
  obtain ⟨h2, h3⟩ := ord_perm hs hc hn h0 h1
  unfold formL
  refine List.map_congr_left fun p hp => ?_
  rw [ren_ix h2 h3 (hs p hp).2.2 (hs p hp).1]
end Go.Proofs.Ytbioelmofceaaaa
/- FormS -/
namespace Go.Proofs.Ytbioelmofceaaaa
open Go.RowKit
set_option linter.unusedVariables false
set_option maxRecDepth 100000
theorem results_cell_row2 {P : Program} {fn : Func} {p u : Tmp} {ty : TypeId} (h : fn.results = #[.cell p ty, .tmp u]) (tmps : Array Value) (w : World) (g : Nat) (t : TypeId) (cs : Array Value) (fr : Nat × Nat) (d : TypeDesc)
    (hp : tmps.getD p undef = .pointer (some ⟨g, 0, none⟩)) (hg : w.heap[g]? = some (.cells cs t fr))
    (hu : P.underlying ty = some d) (hd : (match d with | .struct _ | .array _ _ => true | _ => false) = true) (hi : (P.info? ty).map (·.size) = some cs.size) (v : Value) (hv : tmps.getD u undef = v) :
    (results fn tmps).run P w = .ok (.tuple #[.agg cs, v]) w := by
  rw [results_cell_tmp h, hp, hv]
  simp [asAddr, run_loadVar_row w g t ty cs fr d hg hu hd hi, Result.andThen]
set_option maxHeartbeats 8000000 in
theorem l02Renumber_any (A : Option Addr) (m c : Nat) (xss : List (List Int)) (A' : Option Addr) (n c' : Nat) (p : List Int) (w : World) {lo hi lo' hi' : Nat} (h : RS w lo hi A m xss) (hhi : hi ≤ w.heap.size) (h' : RI w lo' hi' A' n p) (hhi' : hi' ≤ w.heap.size) (hm5 : m ≤ 20) (hs : SysOf xss n) (hp : isPermP p) :
    Calls Try.prog 144 #[.agg #[.slice A m c], .slice A' n c'] w fun e w' => ∃ (A1 : Option Addr) (c1 : Nat), e = .returned (.agg #[.slice A1 m c1]) ∧ OwnS w' w.heap.size w'.heap.size 22 2 A1 m c1 (xss.map (renL p)) ∧ Below w.heap.size w w' := by
  obtain ⟨j0, hj0, hy0, hy1, hy2⟩ := info_parts infoI
  obtain ⟨s0, hs0, hu0, hu1, hu2⟩ := info_parts infoS
  have hl := h.len
  have hpl := h'.len
  have hnums := perm_nums hp hpl
  have hn4 := hp.le
  rw [hpl] at hn4
  replace hnums := Lib.hid hnums
  replace hp := Lib.hid hp
  replace hs := Lib.hid hs
  replace hpl := Lib.hid hpl
  go_enter Try.func144, Try.ntmps144
  go_wp2_with fail
  go_loopw [6] (fun kv wq => ∃ (k : Nat) (vs : List Value) (A2 : Option Addr) (c2 : Nat), k ≤ m ∧ vs.length = k ∧ kv = .int .i64 k ∧ wq.heap[w.heap.size]? = some (.cells #[.slice A m c] 38 (0, 0)) ∧ wq.heap[w.heap.size + 1]? = some (.cells #[.slice none 0 0] 38 (0, 0)) ∧ wq.heap[w.heap.size + 1 + 1]? = some (.cells #[.slice A2 k c2] 38 (0, 0)) ∧
      Own wq (w.heap.size + 3) wq.heap.size 22 A2 k c2 vs ∧ RowsOwn wq (w.heap.size + 3) wq.heap.size 2 vs ((xss.take k).map (renL p)) ∧ w.heap.size + 3 ≤ wq.heap.size ∧ Below w.heap.size w wq) (fun kv _ => m - (intOf kv).toNat)
  case atStart =>
    refine ⟨0, [], none, 0, by omega, rfl, rfl, ?_, ?_, ?_, Own.nil, by simpa using RowsOwn.nil, by simp, ?_⟩
    · exact ((Below.heap_alloc _ _ _ (by simp; omega)).trans (Below.heap_alloc _ _ _ (by simp))).trans (heap_new _ _ _ rfl)
    · exact (Below.heap_alloc _ _ _ (by simp)).trans (heap_new _ _ _ (by simp))
    · exact heap_new _ _ _ (by simp)
    · exact (((Below.refl _ _).alloc (Nat.le_refl _) _).alloc (by simp) _).alloc (by simp; omega) _
  case round =>
    obtain ⟨k, vs, A2, c2, hk, hvk, rfl, g0, g1, g9, ho9, hrows, hz9, hb9⟩ := hrel
    have C0 : wr.cell? ⟨w.heap.size, 0, none⟩ = some (.slice A m c) := by rw [cell_of_row _ _ _ _ _ _ g0]; rfl
    have C9 : wr.cell? ⟨w.heap.size + 1 + 1, 0, none⟩ = some (.slice A2 k c2) := by rw [cell_of_row _ _ _ _ _ _ g9]; rfl
    have F9 : wr.frozen? ⟨w.heap.size + 1 + 1, 0, none⟩ = false := frozen_of_row _ _ _ _ _ g9
    have hm1 := h.max
    have hn1 := h'.max
    by_cases hkm : k < m
    · obtain ⟨bb, oo, Ak, nk, ck, M, rfl, _, _, hM, hMc, hMr⟩ := (h.below hb9 hhi).at_ hkm
      have hMm := mem_of_get? hM
      obtain ⟨hM0, hMn, hMl⟩ := hs.out M hMm
      have hnk := hMr.len
      have hkk : nk = n := by omega
      subst hkk
      have htk := take_succ_of hM
      replace hM := Lib.hid hM
      replace htk := Lib.hid htk
      replace hM0 := Lib.hid hM0
      replace hMl := Lib.hid hMl
      replace g0 := Lib.hid g0
      replace g1 := Lib.hid g1
      replace g9 := Lib.hid g9
      obtain ⟨wo, rfl⟩ : ∃ wo : World, wo = wr := ⟨_, rfl⟩
      go_wp2_with (at_make; refine wpList_make_full _ rfl _ _ 22 rfl wo.heap.size 2 j0 (.int .i64 0) 1 Try.underlying22 hj0 hy0 hy1 _ _ _ _ nk rfl rfl rfl rfl ?c1 ?c2 (Nat.le_refl _) ?_)
      case c1 => rw [hy2]; omega
      case c2 => simp only [maxLen]; omega
      intro w2 hown hg
      have B2 : Below wo.heap.size wo w2 := (Below.refl _ _).grown hg (Nat.le_refl _) (by simp)
      have z2 : wo.heap.size < w2.heap.size := (hown.lt wo.heap.size (by simp [Value.ownBlock])).2
      have o6 : Own w2 wo.heap.size w2.heap.size 2 (some ⟨wo.heap.size, 0, none⟩) nk nk ((List.replicate nk 0).map (Value.int .i64)) := by
        have := Own.of_row hown
        simpa [toList_madeCells_one, Value.cells] using this
      clear hown hg
      go_wp2_with fail
      go_loopw [8] (fun kv wq => ∃ (f : Nat) (mv : List Int), f ≤ nk ∧ kv = .int .i64 f ∧ Hid (RenI p M nk f mv) ∧ Own wq wo.heap.size w2.heap.size 2 (some ⟨wo.heap.size, 0, none⟩) nk nk (mv.map (Value.int .i64)) ∧ w2.heap.size ≤ wq.heap.size ∧ Below wo.heap.size wo wq) (fun kv _ => nk - (intOf kv).toNat)
      case atStart => exact ⟨0, _, by omega, rfl, Lib.hid (RenI.zero p M nk), o6, Nat.le_refl _, B2⟩
      case round =>
        clear o6 B2
        obtain ⟨f, mv, hf, rfl, hmv, ho6, hz6, hb6⟩ := hrel
        have hbw := hb9.trans (hb6.mono (by omega))
        by_cases hlt : f < nk
        · have C0' := (hb6.cell (p := ⟨w.heap.size, 0, none⟩) (by simp; omega)).trans C0
          have hMc' := (hb6.cell (p := ⟨bb, oo + k, none⟩) (by simp; omega)).trans hMc
          obtain ⟨bp, oq, v, rfl, _, _, hv, hvc⟩ := (hMr.below hb6 (by omega)).at_ hlt
          have hva : at' M f = v := by unfold at'; rw [Int.toNat_natCast]; exact getD_some hv
          obtain ⟨hv0, hv1⟩ := hM0.out v (mem_of_get? hv)
          obtain ⟨v, rfl⟩ : ∃ q : Nat, v = q := ⟨v.toNat, by omega⟩
          have hvn : v < nk := by omega
          obtain ⟨b7, o7, g, rfl, _, _, hg, hgc⟩ := (h'.below hbw hhi').at_ hlt
          have hgr := hp.out.rng g (mem_of_get? hg)
          rw [hpl.out] at hgr
          obtain ⟨g, rfl⟩ : ∃ q : Nat, g = q := ⟨g.toNat, by omega⟩
          have hgn : g < nk := by omega
          obtain ⟨b8, o8, u, e8, _, _, hu, huc⟩ := (h'.below hbw hhi').at_ hvn
          injection e8 with e8
          injection e8 with e1 e2 _
          subst e1; subst e2
          have hua : at' p v = u := by unfold at'; rw [Int.toNat_natCast]; exact getD_some hu
          have hst := hmv.out.step hp.out.nd hnums.out hg hgn
          rw [hva, hua] at hst
          have hcm := ho6.cellI (hmv.out.2 g hgn)
          have hfm := ho6.frz g
          replace hst := Lib.hid hst
          replace hg := Lib.hid hg
          replace hv := Lib.hid hv
          replace hu := Lib.hid hu
          replace hva := Lib.hid hva
          replace hua := Lib.hid hua
          generalize (if p.idxOf (g : Int) < f then at' p (at' M (p.idxOf (g : Int) : Int)) else 0) = old at *
          go_wp2_with fail
          go_region
          go_wp2_with fail
          go_roundw
          case measure => simp [intOf]; omega
          case rel => exact ⟨f + 1, mv.set g u, by omega, by go_num, hst, (ho6.setI u).keep (fun _ _ _ => rfl), by simp; omega, below_drew (hb6.setCell (p := ⟨wo.heap.size, g, none⟩) (by simp) _)⟩
        · have hfn : f = nk := by omega
          subst hfn
          have hmf := hmv.out.end_ hpl.out hnums.out
          have g9' := (hb6.block (w.heap.size + 1 + 1) (by omega)).trans g9.out
          have C9' : wr.cell? ⟨w.heap.size + 1 + 1, 0, none⟩ = some (.slice A2 k c2) := by rw [cell_of_row _ _ _ _ _ _ g9']; rfl
          have F9' : wr.frozen? ⟨w.heap.size + 1 + 1, 0, none⟩ = false := frozen_of_row _ _ _ _ _ g9'
          have ho9' := ho9.below hb6 (Nat.le_refl _)
          have hrows' := hrows.keep (Same.of_below hb6 (Nat.le_refl _))
          replace g9' := Lib.hid g9'
          replace hmf := Lib.hid hmf
          go_wp2_with (at_builtin; refine wpList_append1 wr rfl (.tmp 44) (.tmp 46) 23 rfl (w.heap.size + 3) 22 s0 (.slice none 0 0) 24 Try.underlying23 hs0 hu0 hu1 hu2 rfl (by omega) A2 k c2 _ (.slice (some ⟨wo.heap.size, 0, none⟩) f f) rfl ho9'.1 _ rfl rfl rfl (by omega) (by omega) ?_)
          intro g4 c4 w5 ho5 hg5 hlo5 hlt5 hor5
          have g5 := (hg5.block (w.heap.size + 1 + 1) (by omega) (fun e => by have := (ho9'.1.lt _ e.symm).1; omega)).trans g9'.out
          have C5 : w5.cell? ⟨w.heap.size + 1 + 1, 0, none⟩ = some (.slice A2 k c2) := by rw [cell_of_row _ _ _ _ _ _ g5]; rfl
          have F5 : w5.frozen? ⟨w.heap.size + 1 + 1, 0, none⟩ = false := frozen_of_row _ _ _ _ _ g5
          have hrw5 := (hrows'.kept_ty ho9'.1 (by decide) hg5).snoc (ho6.kept_ty ho9'.1 (by decide) hg5) (by omega) (by omega)
          have hz5 := hg5.size
          have hb5 : Below w.heap.size w w5 := hbw.grown hg5 (by omega) (fun q hq => by have := (ho9'.1.lt q hq).1; omega)
          have g05 := (hg5.block w.heap.size (by omega) (fun e => by have := (ho9'.1.lt _ e.symm).1; omega)).trans ((hb6.block w.heap.size (by omega)).trans g0.out)
          have g15 := (hg5.block (w.heap.size + 1) (by omega) (fun e => by have := (ho9'.1.lt _ e.symm).1; omega)).trans ((hb6.block (w.heap.size + 1) (by omega)).trans g1.out)
          have ho5' := Own.of_row ho5
          replace g5 := Lib.hid g5
          replace g05 := Lib.hid g05
          replace g15 := Lib.hid g15
          clear C9 F9 C9' F9' ho9 ho9' hrows hrows' hg5 ho5
          go_wp2_with fail
          go_roundw
          case measure => simp [intOf]; omega
          case rel =>
            refine ⟨k + 1, vs ++ [.slice (some ⟨wo.heap.size, 0, none⟩) f f], _, c4, by omega, by simp; omega, by go_num, ?_, ?_, ?_, (ho5'.far (.inl (by simp)) _).more (Nat.le_refl _) (by simp), ?_, by simp; omega, hb5.setCell (by simp; omega) _⟩
            · exact (heap_setCell_other _ _ _ _ (by simp; omega)).trans g05.out
            · exact (heap_setCell_other _ _ _ _ (by simp)).trans g15.out
            · have := heap_setCell_same _ _ 0 _ _ (Value.slice (some ⟨g4, 0, none⟩) (k + 1) c4) g5.out
              simpa using this
            · rw [htk.out, List.map_append, List.map_singleton, ← hmf.out]
              exact (hrw5.keep (same_set _ _ _ _ _ (.inl (by simp)))).more (Nat.le_refl _) (by simp; omega)
    · have hkm' : k = m := by omega
      subst hkm'
      have C1 : wr.cell? ⟨w.heap.size + 1, 0, none⟩ = some (.slice none 0 0) := by rw [cell_of_row _ _ _ _ _ _ g1]; rfl
      have F1 : wr.frozen? ⟨w.heap.size + 1, 0, none⟩ = false := frozen_of_row _ _ _ _ _ g1
      replace g1 := Lib.hid g1
      replace g9 := Lib.hid g9
      replace g0 := Lib.hid g0
      go_wp2_with fail
      have g2 := heap_setCell_same _ _ 0 _ _ (Value.slice A2 k c2) g1.out
      (try simp only [Exit.inBlock, Exit.then])
      refine bodyPost_ret (v := .agg #[.slice A2 k c2]) ?_ rfl ?_
      · exact results_cell_row rfl _ _ (w.heap.size + 1) 38 #[.slice A2 k c2] (0, 0) _ rfl (by simpa using g2) Try.underlying38 rfl (by kernel_rfl)
      · have e : xss.take k = xss := List.take_of_length_le (by omega)
        rw [e] at hrows
        refine ⟨A2, c2, rfl, ⟨vs, ?_, ?_⟩, hb9.setCell (by simp) _⟩
        · exact (ho9.keep (same_set _ _ _ _ _ (.inl (by simp)))).more (by omega) (by simp)
        · exact (hrows.keep (same_set _ _ _ _ _ (.inl (by simp)))).more (by omega) (by simp)
theorem l02Numbers_any (A : Option Addr) (n c : Nat) (xss : List (List Int)) (x : Int) (w : World) {lo hi : Nat} (h : RS w lo hi A n xss) (hhi : hi ≤ w.heap.size) (N : Nat) (h4 : N ≤ 400) (hs : SysOf xss N) (hcon : Conn xss N) (hx0 : 0 ≤ x) (hx1 : x < N) :
    Calls Try.prog 145 #[.agg #[.slice A n c], .int .i64 x] w fun e w' => ∃ A1, e = .returned (.slice A1 N N) ∧ Own w' w.heap.size w'.heap.size 2 A1 N N ((invL (bfs xss N x)).map (Value.int .i64)) ∧ Below w.heap.size w w' := by
  have hR := rs_alloc h hhi (.cells #[.slice A n c] 38)
  have hB : Below w.heap.size w (w.alloc (.cells #[.slice A n c] 38)) := (Below.refl _ _).alloc (Nat.le_refl _) _
  obtain ⟨hpp, hpl⟩ := ord_perm hs hcon h4 hx0 hx1
  have ho := l01Orbit_any N A n c xss x _ hR (by simp; omega) h4 hs hx0 hx1
  have hrg := hpp.rng
  have hnd := hpp.nd
  rw [hpl] at hrg
  generalize bfs xss N x = ord at *
  replace hs := Lib.hid hs
  replace hpp := Lib.hid hpp
  replace hrg := Lib.hid hrg
  replace hnd := Lib.hid hnd
  go_enter Try.func145, Try.ntmps145
  go_wp2_with fail
  ((with_reducible refine ho.mono ?_); rintro e w2 ⟨A2, n2, c2, rfl, o2, f2⟩)
  have B2 : Below w.heap.size w w2 := hB.trans (f2.mono (by simp))
  have e2 : n2 = N := by rw [← o2.lenI]; exact hpl
  subst e2
  replace hpl := Lib.hid hpl
  have z2 := B2.size
  clear ho
  go_wp2_with fail
  ((with_reducible refine (l01Back_any A2 n2 c2 ord _ _ _ o2.ri (Nat.le_refl _) (by omega) hrg.out hnd.out).mono ?_); rintro e w3 ⟨A3, rfl, o3, f3⟩)
  go_wp2_with fail
  go_ret
  exact ⟨A3, rfl, o3.more z2 (Nat.le_refl _), below_then B2 f3 z2⟩
set_option maxHeartbeats 4000000 in
theorem l02Form_any (A : Option Addr) (n c : Nat) (xss : List (List Int)) (x : Int) (w : World) {lo hi : Nat} (h : RS w lo hi A n xss) (hhi : hi ≤ w.heap.size) (hn : 0 < n) (hn5 : n ≤ 20) (N : Nat) (hN : flg xss = N) (h4 : N ≤ 400) (hs : SysOf xss N) (hcon : Conn xss N) (hx0 : 0 ≤ x) (hx1 : x < N) :
    Calls Try.prog 128 #[.agg #[.slice A n c], .int .i64 x] w fun e w' => ∃ (A1 : Option Addr) (c1 : Nat), e = .returned (.agg #[.slice A1 n c1]) ∧ OwnS w' w.heap.size w'.heap.size 22 2 A1 n c1 (formL xss N x) ∧ Below w.heap.size w w' := by
  have hR := rs_alloc (rs_alloc h hhi (.cells #[.slice A n c] 38)) (by simp; omega) (.cells #[.slice none 0 0] 38)
  have hC : ((w.alloc (.cells #[.slice A n c] 38)).alloc (.cells #[.slice none 0 0] 38)).cell? ⟨w.heap.size, 0, none⟩ = some (.slice A n c) := (al_old _ _ _ _ (by simp)).trans (al_new _ _ _ _ rfl)
  have hQ : ((w.alloc (.cells #[.slice A n c] 38)).alloc (.cells #[.slice none 0 0] 38)).heap[w.heap.size + 1]? = some (.cells #[.slice none 0 0] 38 (0, 0)) := heap_new _ _ _ (by simp)
  have hB : Below w.heap.size w ((w.alloc (.cells #[.slice A n c] 38)).alloc (.cells #[.slice none 0 0] 38)) := ((Below.refl _ _).alloc (Nat.le_refl _) _).alloc (by simp) _
  obtain ⟨hpp, hpl⟩ := ord_perm hs hcon h4 hx0 hx1
  have hip := invL_perm hpp
  rw [form_ren hs hcon h4 hx0 hx1]
  have hnums := fun (w' : World) R1 hh => l02Numbers_any A n c xss x (lo := lo) (hi := hi) w' R1 hh N h4 hs hcon hx0 hx1
  generalize invL (bfs xss N x) = inv at *
  replace hs := Lib.hid hs
  replace hip := Lib.hid hip
  replace hpp := Lib.hid hpp
  replace hpl := Lib.hid hpl
  replace hcon := Lib.hid hcon
  go_enter Try.func128, Try.ntmps128
  go_wp2_with fail
  obtain ⟨W1, hW⟩ : ∃ W1 : World, (w.alloc (.cells #[.slice A n c] 38)).alloc (.cells #[.slice none 0 0] 38) = W1 := ⟨_, rfl⟩
  have hz1 : W1.heap.size = w.heap.size + 2 := by rw [← hW]; simp
  rw [hW] at hR hC hQ hB ⊢
  replace hQ := Lib.hid hQ
  clear hW h
  have hT := hnums W1.drew (rs_drew hR) (show _ ≤ W1.heap.size by omega)
  replace hnums := Lib.hid hnums
  go_region_with (first
    | (go_at_call 145; refine hT.mono ?_; rintro e w3 ⟨A3, rfl, o3, f3⟩; have f3 : Below W1.heap.size W1 w3 := ⟨f3.os, f3.tape, f3.output, f3.size, f3.block⟩; have y3 := f3.size; have D3 := (f3.cell (p := ⟨w.heap.size, 0, none⟩) (by simp; omega)).trans hC; have qa := l02Renumber_any A n c xss A3 N N inv w3 (hR.below f3 (by omega)) (by omega) o3.ri (Nat.le_refl _) hn5 hs.out hip.out)
    | (go_at_call 144; refine qa.mono ?_; rintro e w4 ⟨A4, c4, rfl, o4, f4⟩; have B4 : Below W1.heap.size W1 w4 := below_then f3 f4 (by omega); have Q4 := (B4.block (w.heap.size + 1) (by omega)).trans hQ.out; have C4 : w4.cell? ⟨w.heap.size + 1, 0, none⟩ = some (.slice none 0 0) := (cell_of_row _ _ _ _ _ _ Q4).trans rfl; have F4 : w4.frozen? ⟨w.heap.size + 1, 0, none⟩ = false := frozen_of_row _ _ _ _ _ Q4; replace Q4 := Lib.hid Q4))
  all_goals
    go_wp2_with fail
    have g2 := heap_setCell_same _ _ 0 _ _ (Value.slice A4 n c4) Q4.out
    (try simp only [Exit.inBlock, Exit.then])
    refine bodyPost_ret (v := .agg #[.slice A4 n c4]) ?_ rfl ?_
    · exact results_cell_row rfl _ _ (w.heap.size + 1) 38 #[.slice A4 n c4] (0, 0) _ rfl (by simpa using g2) Try.underlying38 rfl (by kernel_rfl)
    · exact ⟨A4, c4, rfl, (o4.keep (same_set _ _ _ _ _ (.inl (by simp; omega)))).more (by omega) (by simp), (hB.trans (B4.mono (by omega))).setCell (by simp) _⟩
end Go.Proofs.Ytbioelmofceaaaa
/- Lst -/
namespace Go.Proofs.Ytbioelmofceaaaa
open Go.RowKit
set_option linter.unusedVariables false
set_option maxRecDepth 100000
set_option maxHeartbeats 4000000 in
theorem leastForm_any (N : Nat) (A : Option Addr) (n c : Nat) (xss : List (List Int)) (w : World) {lo hi : Nat} (h : RS w lo hi A n xss) (hhi : hi ≤ w.heap.size) (hn : 0 < n) (hn5 : n ≤ 20) (hN : flg xss = N) (hN0 : 0 < N) (h4 : N ≤ 400) (hs : SysOf xss N) :
    Calls Try.prog 73 #[.agg #[.slice A n c]] w fun e w' => ∃ (A1 : Option Addr) (c1 : Nat), e = .returned (.agg #[.slice A1 n c1]) ∧ OwnS w' w.heap.size w'.heap.size 22 2 A1 n c1 (leastGo xss N N) ∧ Below w.heap.size w w' := by
  have hm := h.max
  have hR := rs_alloc (rs_alloc h hhi (.cells #[.slice A n c] 38)) (by simp; omega) (.cells #[.slice none 0 0] 38)
  have hC : ((w.alloc (.cells #[.slice A n c] 38)).alloc (.cells #[.slice none 0 0] 38)).cell? ⟨w.heap.size, 0, none⟩ = some (.slice A n c) := (al_old _ _ _ _ (by simp)).trans (al_new _ _ _ _ rfl)
  have hQ : ((w.alloc (.cells #[.slice A n c] 38)).alloc (.cells #[.slice none 0 0] 38)).heap[w.heap.size + 1]? = some (.cells #[.slice none 0 0] 38 (0, 0)) := heap_new _ _ _ (by simp)
  have hB : Below w.heap.size w ((w.alloc (.cells #[.slice A n c] 38)).alloc (.cells #[.slice none 0 0] 38)) := ((Below.refl _ _).alloc (Nat.le_refl _) _).alloc (by simp) _
  replace hs := Lib.hid hs
  replace hN := Lib.hid hN
  go_enter Try.func73, Try.ntmps73
  go_wp2_with fail
  obtain ⟨W1, hW⟩ : ∃ W1 : World, (w.alloc (.cells #[.slice A n c] 38)).alloc (.cells #[.slice none 0 0] 38) = W1 := ⟨_, rfl⟩
  have hz1 : W1.heap.size = w.heap.size + 2 := by rw [← hW]; simp
  rw [hW] at hR hC hB hQ ⊢
  replace hQ := Lib.hid hQ
  clear hW h
  ((with_reducible refine (formFrom_any N A n c xss 0 _ hR (by omega) hn hn5 h4 hs.out (by omega) (by omega)).mono ?_); rintro e w2 ⟨A2, c2, rfl, o2, f2⟩)
  have z2 := f2.size
  go_wp2_with fail
  obtain ⟨W3, hW3⟩ : ∃ W3 : World, w2.alloc (.cells #[.slice A2 n c2] 38) = W3 := ⟨_, rfl⟩
  have B3 : Below W1.heap.size W1 (w2.alloc (.cells #[.slice A2 n c2] 38)) := f2.alloc (by omega) _
  have L3 : (w2.alloc (.cells #[.slice A2 n c2] 38)).heap[w2.heap.size]? = some (.cells #[.slice A2 n c2] 38 (0, 0)) := heap_new _ _ _ rfl
  have o3 : OwnS (w2.alloc (.cells #[.slice A2 n c2] 38)) W1.heap.size w2.heap.size 22 2 A2 n c2 (formL xss N 0) := o2.keep (same_alloc _ _ _ _ (Nat.le_refl _))
  have z3 : (w2.alloc (.cells #[.slice A2 n c2] 38)).heap.size = w2.heap.size + 1 := by simp
  rw [hW3] at B3 L3 o3 z3 ⊢
  clear hW3
  replace L3 := Lib.hid L3
  have C3 := (B3.cell (p := ⟨w.heap.size, 0, none⟩) (by simp; omega)).trans hC
  ((with_reducible refine (flags_any _ A n c xss _ C3 (hR.below B3 (by omega)) hn).mono ?_); rintro e w' ⟨rfl, rfl⟩)
  rw [hN.out]
  go_wp2_with fail
  go_loopw [10] (fun kv wq => ∃ (k : Nat) (A3 : Option Addr) (c3 lo3 hi3 : Nat), 0 ≤ k ∧ k ≤ N ∧ kv = .int .i64 k ∧ Below W1.heap.size W1 wq ∧ w2.heap.size + 1 ≤ wq.heap.size ∧ Hid (wq.heap[w2.heap.size]? = some (.cells #[.slice A3 n c3] 38 (0, 0))) ∧ OwnS wq lo3 hi3 22 2 A3 n c3 (leastGo xss N k) ∧ W1.heap.size ≤ lo3 ∧ hi3 ≤ wq.heap.size ∧ (hi3 ≤ w2.heap.size ∨ w2.heap.size < lo3)) (fun kv _ => N - (intOf kv).toNat)
  case atStart => exact ⟨0, A2, c2, W1.heap.size, w2.heap.size, by omega, by omega, by go_num, B3, by omega, L3, o3, by omega, by omega, .inl (Nat.le_refl _)⟩
  case round =>
    obtain ⟨k, A3, c3, lo3, hi3, hk0, hk, rfl, hb, hzw, hL, ho, hl1, hl2, hl3⟩ := hrel
    have y1 := hb.size
    have Ck := (hb.cell (p := ⟨w.heap.size, 0, none⟩) (by simp; omega)).trans hC
    have Rk := hR.below hb (by omega)
    by_cases hlt : k < N
    · have hst := leastGo_succ xss N k
      unfold minF at hst
      replace hst := Lib.hid hst
      go_wp2_with fail
      ((with_reducible refine (formFrom_any N A n c xss (k : Int) _ Rk (by omega) hn hn5 h4 hs.out (by omega) (by omega)).mono ?_); rintro e w4 ⟨A4, c4, rfl, o4, f4⟩)
      have y4 := f4.size
      have B5 : Below W1.heap.size W1 (w4.alloc (.cells #[.slice A4 n c4] 38)) := (below_then hb f4 (by omega)).alloc (by omega) _
      have b5 : Below wr.heap.size wr (w4.alloc (.cells #[.slice A4 n c4] 38)) := f4.alloc (by omega) _
      have M5 : (w4.alloc (.cells #[.slice A4 n c4] 38)).heap[w4.heap.size]? = some (.cells #[.slice A4 n c4] 38 (0, 0)) := heap_new _ _ _ rfl
      have o5 : OwnS (w4.alloc (.cells #[.slice A4 n c4] 38)) wr.heap.size w4.heap.size 22 2 A4 n c4 (formL xss N (k : Int)) := o4.keep (same_alloc _ _ _ _ (Nat.le_refl _))
      have z5 : (w4.alloc (.cells #[.slice A4 n c4] 38)).heap.size = w4.heap.size + 1 := by simp
      have L5 := (b5.block w2.heap.size (by omega)).trans hL.out
      have p5 := ho.below b5 (by omega)
      have l5C : (w4.alloc (.cells #[.slice A4 n c4] 38)).cell? ⟨w2.heap.size, 0, none⟩ = some (.slice A3 n c3) := (cell_of_row _ _ _ _ _ _ L5).trans rfl
      have l5F : (w4.alloc (.cells #[.slice A4 n c4] 38)).frozen? ⟨w2.heap.size, 0, none⟩ = false := frozen_of_row _ _ _ _ _ L5
      replace L5 := Lib.hid L5
      replace M5 := Lib.hid M5
      go_wp2_with fail
      obtain ⟨W5, hW5⟩ : ∃ W5 : World, w4.alloc (.cells #[.slice A4 n c4] 38) = W5 := ⟨_, rfl⟩
      rw [hW5] at B5 b5 M5 o5 z5 L5 p5 ⊢
      clear hW5 l5C l5F
      ((with_reducible refine (compareM_any A4 n c4 _ A3 n c3 _ _ o5.rs (by omega) p5.rs (by omega)).mono ?_); rintro e w6 ⟨rfl, f6⟩)
      have y6 := f6.size
      have L6 := (f6.block w2.heap.size (by omega)).trans L5.out
      have M6 := (f6.block w4.heap.size (by omega)).trans M5.out
      have l6C : w6.cell? ⟨w2.heap.size, 0, none⟩ = some (.slice A3 n c3) := (cell_of_row _ _ _ _ _ _ L6).trans rfl
      have l6F : w6.frozen? ⟨w2.heap.size, 0, none⟩ = false := frozen_of_row _ _ _ _ _ L6
      have m6C : w6.cell? ⟨w4.heap.size, 0, none⟩ = some (.slice A4 n c4) := (cell_of_row _ _ _ _ _ _ M6).trans rfl
      have m6F : w6.frozen? ⟨w4.heap.size, 0, none⟩ = false := frozen_of_row _ _ _ _ _ M6
      replace L6 := Lib.hid L6
      replace M6 := Lib.hid M6
      have B6 : Below W1.heap.size W1 w6 := below_then B5 f6 (by omega)
      by_cases hc : cmp2 (formL xss N (k : Int)) (leastGo xss N k) < 0
      · have hd : decide (cmp2 (formL xss N (k : Int)) (leastGo xss N k) < 0) = true := decide_eq_true hc
        replace hst := hst.out
        rw [if_pos hc] at hst
        replace hst := Lib.hid hst
        replace hc := Lib.hid hc
        have o6 := (o5.below f6 (by omega)).keep (same_set w6 ⟨w2.heap.size, 0, none⟩ (Value.slice A4 n c4) _ _ (.inl (by simp; omega)))
        rw [← hst.out] at o6
        have S6 := heap_setCell_same _ _ 0 _ _ (Value.slice A4 n c4) L6.out
        replace S6 := Lib.hid S6
        have B7 := B6.setCell (p := ⟨w2.heap.size, 0, none⟩) (by simp; omega) (Value.slice A4 n c4)
        generalize cmp2 (formL xss N (k : Int)) (leastGo xss N k) = cv at hd ⊢
        go_wp2_with fail
        go_roundw
        case measure => simp [intOf]; omega
        case rel => exact ⟨k + 1, A4, c4, wr.heap.size, w4.heap.size, by omega, by omega, by go_num, B7, by simp; omega, Lib.hid (by simpa using S6.out), o6, by omega, by simp; omega, .inr (by omega)⟩
      · have hd : decide (cmp2 (formL xss N (k : Int)) (leastGo xss N k) < 0) = false := decide_eq_false hc
        replace hst := hst.out
        rw [if_neg hc] at hst
        replace hst := Lib.hid hst
        replace hc := Lib.hid hc
        have p6 := p5.below f6 (by omega)
        rw [← hst.out] at p6
        generalize cmp2 (formL xss N (k : Int)) (leastGo xss N k) = cv at hd ⊢
        go_wp2_with fail
        go_roundw
        case measure => simp [intOf]; omega
        case rel => exact ⟨k + 1, A3, c3, lo3, hi3, by omega, by omega, by go_num, B6, by omega, L6, p6, by omega, by omega, hl3⟩
    · have hkn : k = N := by omega
      subst hkn
      have Qk := (hb.block (w.heap.size + 1) (by omega)).trans hQ.out
      have qC : wr.cell? ⟨w.heap.size + 1, 0, none⟩ = some (.slice none 0 0) := (cell_of_row _ _ _ _ _ _ Qk).trans rfl
      have qF : wr.frozen? ⟨w.heap.size + 1, 0, none⟩ = false := frozen_of_row _ _ _ _ _ Qk
      have lC : wr.cell? ⟨w2.heap.size, 0, none⟩ = some (.slice A3 n c3) := (cell_of_row _ _ _ _ _ _ hL.out).trans rfl
      have lF : wr.frozen? ⟨w2.heap.size, 0, none⟩ = false := frozen_of_row _ _ _ _ _ hL.out
      replace Qk := Lib.hid Qk
      go_wp2_with fail
      have g2 := heap_setCell_same _ _ 0 _ _ (Value.slice A3 n c3) Qk.out
      (try simp only [Exit.inBlock, Exit.then])
      refine bodyPost_ret (v := .agg #[.slice A3 n c3]) ?_ rfl ?_
      · exact results_cell_row rfl _ _ (w.heap.size + 1) 38 #[.slice A3 n c3] (0, 0) _ rfl (by simpa using g2) Try.underlying38 rfl (by kernel_rfl)
      · exact ⟨A3, c3, rfl, (ho.keep (same_set _ _ _ _ _ (.inl (by simp; omega)))).more (by omega) (by simp; omega), (hB.trans (hb.mono (by omega))).setCell (by simp) _⟩
set_option maxHeartbeats 4000000 in
theorem l02Least_any (N : Nat) (A : Option Addr) (n c : Nat) (xss : List (List Int)) (w : World) {lo hi : Nat} (h : RS w lo hi A n xss) (hhi : hi ≤ w.heap.size) (hn : 0 < n) (hn5 : n ≤ 20) (hN : flg xss = N) (hN0 : 0 < N) (h4 : N ≤ 400) (hs : SysOf xss N) (hcon : Conn xss N) :
    Calls Try.prog 107 #[.agg #[.slice A n c]] w fun e w' => ∃ (A1 : Option Addr) (c1 : Nat), e = .returned (.agg #[.slice A1 n c1]) ∧ OwnS w' w.heap.size w'.heap.size 22 2 A1 n c1 (leastGo xss N N) ∧ Below w.heap.size w w' := by
  have hm := h.max
  have hR := rs_alloc (rs_alloc h hhi (.cells #[.slice A n c] 38)) (by simp; omega) (.cells #[.slice none 0 0] 38)
  have hC : ((w.alloc (.cells #[.slice A n c] 38)).alloc (.cells #[.slice none 0 0] 38)).cell? ⟨w.heap.size, 0, none⟩ = some (.slice A n c) := (al_old _ _ _ _ (by simp)).trans (al_new _ _ _ _ rfl)
  have hQ : ((w.alloc (.cells #[.slice A n c] 38)).alloc (.cells #[.slice none 0 0] 38)).heap[w.heap.size + 1]? = some (.cells #[.slice none 0 0] 38 (0, 0)) := heap_new _ _ _ (by simp)
  have hB : Below w.heap.size w ((w.alloc (.cells #[.slice A n c] 38)).alloc (.cells #[.slice none 0 0] 38)) := ((Below.refl _ _).alloc (Nat.le_refl _) _).alloc (by simp) _
  replace hs := Lib.hid hs
  replace hN := Lib.hid hN
  replace hcon := Lib.hid hcon
  go_enter Try.func107, Try.ntmps107
  go_wp2_with fail
  obtain ⟨W1, hW⟩ : ∃ W1 : World, (w.alloc (.cells #[.slice A n c] 38)).alloc (.cells #[.slice none 0 0] 38) = W1 := ⟨_, rfl⟩
  have hz1 : W1.heap.size = w.heap.size + 2 := by rw [← hW]; simp
  rw [hW] at hR hC hB hQ ⊢
  replace hQ := Lib.hid hQ
  clear hW h
  ((with_reducible refine (l02Form_any A n c xss 0 _ hR (by omega) hn hn5 N hN.out h4 hs.out hcon.out (by omega) (by omega)).mono ?_); rintro e w2 ⟨A2, c2, rfl, o2, f2⟩)
  have z2 := f2.size
  skip
  have B3 : Below W1.heap.size W1 (w2.alloc (.cells #[.slice A2 n c2] 38)) := f2.alloc (by omega) _
  have L3 : (w2.alloc (.cells #[.slice A2 n c2] 38)).heap[w2.heap.size]? = some (.cells #[.slice A2 n c2] 38 (0, 0)) := heap_new _ _ _ rfl
  have o3 : OwnS (w2.alloc (.cells #[.slice A2 n c2] 38)) W1.heap.size w2.heap.size 22 2 A2 n c2 (formL xss N 0) := o2.keep (same_alloc _ _ _ _ (Nat.le_refl _))
  have z3 : (w2.alloc (.cells #[.slice A2 n c2] 38)).heap.size = w2.heap.size + 1 := by simp
  replace L3 := Lib.hid L3
  go_wp2_with fail
  go_loopw [4] (fun kv wq => ∃ (k : Nat) (A3 : Option Addr) (c3 lo3 hi3 : Nat), 1 ≤ k ∧ k ≤ N ∧ kv = .int .i64 k ∧ Below W1.heap.size W1 wq ∧ w2.heap.size + 1 ≤ wq.heap.size ∧ Hid (wq.heap[w2.heap.size]? = some (.cells #[.slice A3 n c3] 38 (0, 0))) ∧ OwnS wq lo3 hi3 22 2 A3 n c3 (leastGo xss N k) ∧ W1.heap.size ≤ lo3 ∧ hi3 ≤ wq.heap.size ∧ (hi3 ≤ w2.heap.size ∨ w2.heap.size < lo3)) (fun kv _ => N - (intOf kv).toNat)
  case atStart => exact ⟨1, A2, c2, W1.heap.size, w2.heap.size, by omega, by omega, by go_num, B3, by omega, L3, (leastGo_one xss N).symm ▸ o3, by omega, by omega, .inl (Nat.le_refl _)⟩
  case round =>
    obtain ⟨k, A3, c3, lo3, hi3, hk0, hk, rfl, hb, hzw, hL, ho, hl1, hl2, hl3⟩ := hrel
    have y1 := hb.size
    have Ck := (hb.cell (p := ⟨w.heap.size, 0, none⟩) (by simp; omega)).trans hC
    have Rk := hR.below hb (by omega)
    go_wp2_with fail
    ((with_reducible refine (l02Flags_any A n c xss _ Rk (by omega) hn).mono ?_); rintro e w3 ⟨rfl, f3⟩)
    rw [hN.out]
    have y3 := f3.size
    have hb3 : Below W1.heap.size W1 w3 := below_then hb f3 (by omega)
    have C3 := (hb3.cell (p := ⟨w.heap.size, 0, none⟩) (by simp; omega)).trans hC
    have R3 := hR.below hb3 (by omega)
    have hL3 := (f3.block w2.heap.size (by omega)).trans hL.out
    have ho3 := ho.below f3 hl2
    replace hL3 := Lib.hid hL3
    clear Ck Rk hL ho hb f3
    by_cases hlt : k < N
    · have hst := leastGo_succ xss N k
      unfold minF at hst
      replace hst := Lib.hid hst
      go_wp2_with fail
      ((with_reducible refine (l02Form_any A n c xss (k : Int) _ R3 (by omega) hn hn5 N hN.out h4 hs.out hcon.out (by omega) (by omega)).mono ?_); rintro e w4 ⟨A4, c4, rfl, o4, f4⟩)
      have y4 := f4.size
      have B5 : Below W1.heap.size W1 (w4.alloc (.cells #[.slice A4 n c4] 38)) := (below_then hb3 f4 (by omega)).alloc (by omega) _
      have b5 : Below w3.heap.size w3 (w4.alloc (.cells #[.slice A4 n c4] 38)) := f4.alloc (by omega) _
      have M5 : (w4.alloc (.cells #[.slice A4 n c4] 38)).heap[w4.heap.size]? = some (.cells #[.slice A4 n c4] 38 (0, 0)) := heap_new _ _ _ rfl
      have o5 : OwnS (w4.alloc (.cells #[.slice A4 n c4] 38)) w3.heap.size w4.heap.size 22 2 A4 n c4 (formL xss N (k : Int)) := o4.keep (same_alloc _ _ _ _ (Nat.le_refl _))
      have z5 : (w4.alloc (.cells #[.slice A4 n c4] 38)).heap.size = w4.heap.size + 1 := by simp
      have L5 := (b5.block w2.heap.size (by omega)).trans hL3.out
      have p5 := ho3.below b5 (by omega)
      have l5C : (w4.alloc (.cells #[.slice A4 n c4] 38)).cell? ⟨w2.heap.size, 0, none⟩ = some (.slice A3 n c3) := (cell_of_row _ _ _ _ _ _ L5).trans rfl
      have l5F : (w4.alloc (.cells #[.slice A4 n c4] 38)).frozen? ⟨w2.heap.size, 0, none⟩ = false := frozen_of_row _ _ _ _ _ L5
      replace L5 := Lib.hid L5
      replace M5 := Lib.hid M5
      go_wp2_with fail
      obtain ⟨W5, hW5⟩ : ∃ W5 : World, w4.alloc (.cells #[.slice A4 n c4] 38) = W5 := ⟨_, rfl⟩
      rw [hW5] at B5 b5 M5 o5 z5 L5 p5 ⊢
      clear hW5 l5C l5F
      ((with_reducible refine (l01Less2_any A4 n c4 _ A3 n c3 _ _ o5.rs (by omega) p5.rs (by omega)).mono ?_); rintro e w6 ⟨rfl, f6⟩)
      have y6 := f6.size
      have L6 := (f6.block w2.heap.size (by omega)).trans L5.out
      have M6 := (f6.block w4.heap.size (by omega)).trans M5.out
      have l6C : w6.cell? ⟨w2.heap.size, 0, none⟩ = some (.slice A3 n c3) := (cell_of_row _ _ _ _ _ _ L6).trans rfl
      have l6F : w6.frozen? ⟨w2.heap.size, 0, none⟩ = false := frozen_of_row _ _ _ _ _ L6
      have m6C : w6.cell? ⟨w4.heap.size, 0, none⟩ = some (.slice A4 n c4) := (cell_of_row _ _ _ _ _ _ M6).trans rfl
      have m6F : w6.frozen? ⟨w4.heap.size, 0, none⟩ = false := frozen_of_row _ _ _ _ _ M6
      replace L6 := Lib.hid L6
      replace M6 := Lib.hid M6
      have B6 : Below W1.heap.size W1 w6 := below_then B5 f6 (by omega)
      by_cases hc : cmp2 (formL xss N (k : Int)) (leastGo xss N k) < 0
      · have hd : decide (cmp2 (formL xss N (k : Int)) (leastGo xss N k) < 0) = true := decide_eq_true hc
        replace hst := hst.out
        rw [if_pos hc] at hst
        rw [hd]
        replace hst := Lib.hid hst
        replace hc := Lib.hid hc
        have o6 := (o5.below f6 (by omega)).keep (same_set w6 ⟨w2.heap.size, 0, none⟩ (Value.slice A4 n c4) _ _ (.inl (by simp; omega)))
        rw [← hst.out] at o6
        have S6 := heap_setCell_same _ _ 0 _ _ (Value.slice A4 n c4) L6.out
        replace S6 := Lib.hid S6
        have B7 := B6.setCell (p := ⟨w2.heap.size, 0, none⟩) (by simp; omega) (Value.slice A4 n c4)
        go_wp2_with fail
        go_roundw
        case measure => simp [intOf]; omega
        case rel => exact ⟨k + 1, A4, c4, w3.heap.size, w4.heap.size, by omega, by omega, by go_num, B7, by simp; omega, Lib.hid (by simpa using S6.out), o6, by omega, by simp; omega, .inr (by omega)⟩
      · have hd : decide (cmp2 (formL xss N (k : Int)) (leastGo xss N k) < 0) = false := decide_eq_false hc
        replace hst := hst.out
        rw [if_neg hc] at hst
        rw [hd]
        replace hst := Lib.hid hst
        replace hc := Lib.hid hc
        have p6 := p5.below f6 (by omega)
        rw [← hst.out] at p6
        go_wp2_with fail
        go_roundw
        case measure => simp [intOf]; omega
        case rel => exact ⟨k + 1, A3, c3, lo3, hi3, by omega, by omega, by go_num, B6, by omega, L6, p6, by omega, by omega, hl3⟩
    · have hkn : k = N := by omega
      subst hkn
      have Qk := (hb3.block (w.heap.size + 1) (by omega)).trans hQ.out
      have qC : w3.cell? ⟨w.heap.size + 1, 0, none⟩ = some (.slice none 0 0) := (cell_of_row _ _ _ _ _ _ Qk).trans rfl
      have qF : w3.frozen? ⟨w.heap.size + 1, 0, none⟩ = false := frozen_of_row _ _ _ _ _ Qk
      have lC : w3.cell? ⟨w2.heap.size, 0, none⟩ = some (.slice A3 n c3) := (cell_of_row _ _ _ _ _ _ hL3.out).trans rfl
      have lF : w3.frozen? ⟨w2.heap.size, 0, none⟩ = false := frozen_of_row _ _ _ _ _ hL3.out
      replace Qk := Lib.hid Qk
      go_wp2_with fail
      have g2 := heap_setCell_same _ _ 0 _ _ (Value.slice A3 n c3) Qk.out
      (try simp only [Exit.inBlock, Exit.then])
      refine bodyPost_ret (v := .agg #[.slice A3 n c3]) ?_ rfl ?_
      · exact results_cell_row rfl _ _ (w.heap.size + 1) 38 #[.slice A3 n c3] (0, 0) _ rfl (by simpa using g2) Try.underlying38 rfl (by kernel_rfl)
      · exact ⟨A3, c3, rfl, (ho3.keep (same_set _ _ _ _ _ (.inl (by simp; omega)))).more (by omega) (by simp; omega), (hB.trans (hb3.mono (by omega))).setCell (by simp) _⟩
end Go.Proofs.Ytbioelmofceaaaa
/- FaceS -/
namespace Go.Proofs.Ytbioelmofceaaaa
open Go.RowKit
set_option linter.unusedVariables false
set_option maxRecDepth 100000
theorem erase_snoc {α : Type} {xs : List α} {k i : Nat} {x : α} (h : xs[k]? = some x) : (xs.take (k + 1)).eraseIdx i = if k = i then (xs.take k).eraseIdx i else (xs.take k).eraseIdx i ++ [x] := by
  have hk := (List.getElem?_eq_some_iff.1 h).1
  have hl : (xs.take k).length = k := by simp; omega
  rw [take_succ_of h]
  by_cases e : k = i
  · subst e
    rw [if_pos rfl, List.eraseIdx_append_of_length_le (by omega), hl, Nat.sub_self, List.eraseIdx_of_length_le (l := xs.take k) (by omega)]
    simp
  · rw [if_neg e]
    by_cases hlt : i < k
    · rw [List.eraseIdx_append_of_lt_length (by omega)]
    · rw [List.eraseIdx_append_of_length_le (by omega), hl, List.eraseIdx_of_length_le (l := [x]) (by simp; omega), List.eraseIdx_of_length_le (l := xs.take k) (by omega)]
set_option maxHeartbeats 4000000 in
theorem l02Others_any (A : Option Addr) (n c i : Nat) (A' : Option Addr) (c' : Nat) (xss : List (List Int)) (w : World) {lo hi lo' hi' : Nat} (h : RS w lo hi A n xss) (hhi : hi ≤ w.heap.size) (h' : RI w lo' hi' A' 1 [(i : Int)]) (hhi' : hi' ≤ w.heap.size) (hn2 : n ≤ 1048576) :
    Calls Try.prog 91 #[.agg #[.slice A n c], .slice A' 1 c'] w fun e w' => ∃ (A1 : Option Addr) (n1 c1 : Nat), e = .returned (.slice A1 n1 c1) ∧ RS w' 0 w'.heap.size A1 n1 (xss.eraseIdx i) ∧ Below w.heap.size w w' := by
  obtain ⟨s0, hs0, hu0, hu1, hu2⟩ := info_parts infoS
  have hl := Lib.hid h.len
  have hR := rs_alloc h hhi (.cells #[.slice A n c] 38)
  have hI : RI (w.alloc (.cells #[.slice A n c] 38)) lo' hi' A' 1 [(i : Int)] := h'.keep (same_alloc w _ _ _ hhi')
  have hC : (w.alloc (.cells #[.slice A n c] 38)).cell? ⟨w.heap.size, 0, none⟩ = some (.slice A n c) := al_new _ _ _ _ rfl
  have hB : Below w.heap.size w (w.alloc (.cells #[.slice A n c] 38)) := (Below.refl _ _).alloc (Nat.le_refl _) _
  have h0 := World.ownsRow_lit (e := 22) (base := (w.alloc (.cells #[.slice A n c] 38)).heap.size) (size := 1) (w.alloc (.cells #[.slice A n c] 38)) #[] 0 (Nat.le_refl _) (by omega) rfl
  go_enter Try.func91, Try.ntmps91
  go_wp2_with fail
  obtain ⟨W1, hW⟩ : ∃ W1 : World, w.alloc (.cells #[.slice A n c] 38) = W1 := ⟨_, rfl⟩
  have hz1 : W1.heap.size = w.heap.size + 1 := by rw [← hW]; simp
  rw [hW] at hR hI hC hB h0 ⊢
  clear hW h h'
  have h0 : (W1.alloc (.cells #[] 22)).ownsRow W1.heap.size 22 1 (.slice (some ⟨w.heap.size + 1, 0, none⟩) 0 0) 0 [] := by rw [← hz1]; exact h0
  go_loopw [5, 6] (fun ov kv wq => ∃ (k m : Nat) (vs : List Value) (A1 : Option Addr) (c1 : Nat), k ≤ n ∧ m ≤ k ∧ ov = .slice A1 m c1 ∧ kv = .int .i64 k ∧ Own wq W1.heap.size wq.heap.size 22 A1 m c1 vs ∧ Hid (RowsAt wq lo hi vs ((xss.take k).eraseIdx i)) ∧ Below W1.heap.size W1 wq) (fun _ kv _ => n - (intOf kv).toNat)
  case atStart => exact ⟨0, 0, [], _, 0, by omega, by omega, rfl, rfl, Own.of_row h0, Lib.hid ⟨by simp, fun k v xs h1 h2 => by simp at h1⟩, (Below.refl _ _).alloc (Nat.le_refl _) _⟩
  case round =>
    clear h0
    obtain ⟨k, m, vs, A1, c1, hk, hmk, rfl, rfl, ho, hrows, hb⟩ := hrel
    have hsz := hb.size
    have hCk := (hb.cell (p := ⟨w.heap.size, 0, none⟩) (by simp; omega)).trans hC
    by_cases hlt : k < n
    · obtain ⟨bb, oo, Ak, nk, ck, p, rfl, _, _, hp, hpc, hpr⟩ := (hR.below hb (by omega)).at_ hlt
      have hes := erase_snoc (i := i) hp
      by_cases hki : k = i
      · have hhas : decide ((k : Int) ∈ [(i : Int)]) = true := by simp [hki]
        rw [if_pos hki] at hes
        replace hes := Lib.hid hes
        replace hp := Lib.hid hp
        replace hki := Lib.hid hki
        go_wp2_with fail
        ((with_reducible refine (l01Has_any A' 1 c' [(i : Int)] (k : Int) _ (hI.below hb (by omega))).mono ?_); rintro e w' ⟨rfl, rfl⟩)
        rw [hhas]
        go_wp2_with fail
        go_roundw
        case measure => simp [intOf]; omega
        case rel => exact ⟨k + 1, m, vs, A1, c1, by omega, by omega, rfl, by go_num, ho, Lib.hid (by rw [hes.out]; exact hrows.out), hb⟩
      · have hhas : decide ((k : Int) ∈ [(i : Int)]) = false := by simp; omega
        rw [if_neg hki] at hes
        replace hes := Lib.hid hes
        replace hp := Lib.hid hp
        replace hki := Lib.hid hki
        go_wp2_with fail
        ((with_reducible refine (l01Has_any A' 1 c' [(i : Int)] (k : Int) _ (hI.below hb (by omega))).mono ?_); rintro e w' ⟨rfl, rfl⟩)
        rw [hhas]
        go_wp2_with (at_builtin; refine wpList_append1 wr rfl (.tmp 19) (.tmp 25) 23 rfl W1.heap.size 22 s0 (.slice none 0 0) 24 Try.underlying23 hs0 hu0 hu1 hu2 rfl (by omega) A1 m c1 _ (.slice Ak nk ck) rfl ho.1 _ rfl rfl rfl (by omega) (by omega) ?_)
        intro g4 c4 w5 ho5 hg5 hlo5 hlt5 hor5
        have hb5 : Below W1.heap.size W1 w5 := hb.grown hg5 (by omega) (fun q hq => by have := (ho.1.lt q hq).1; omega)
        have hsame : Same lo hi wr w5 := same_grown hg5 (by omega) (fun q hq => .inr (by have := (ho.1.lt q hq).1; omega))
        have hrw5 := rowsAt_snoc (c := ck) (hrows.out.keep hsame) (hpr.keep hsame)
        replace hrw5 := Lib.hid hrw5
        replace hsame := Lib.hid hsame
        have ho5' := Own.of_row ho5
        clear ho hb hg5 ho5 hpc hpr hCk
        go_wp2_with fail
        go_roundw
        case measure => simp [intOf]; omega
        case rel => exact ⟨k + 1, m + 1, vs ++ [.slice Ak nk ck], _, c4, by omega, by omega, rfl, by go_num, by rw [hz1]; exact ho5', Lib.hid (by rw [hes.out]; exact hrw5.out), hb5⟩
    · have hkn : k = n := by omega
      subst hkn
      go_wp2_with fail
      go_ret
      refine ⟨A1, m, c1, rfl, ⟨vs, ho.rd.more (by omega) (Nat.le_refl _), ?_⟩, hB.trans (hb.mono (by omega))⟩
      have := hrows.out
      rw [List.take_of_length_le (by have := hl.out; omega)] at this
      exact this.more (by omega) (by omega)
theorem below_undrew {B : Nat} {a w : World} (h : Below a.drew.heap.size a.drew w) (hB : B ≤ a.heap.size) : Below B a w := ⟨h.os, h.tape, h.output, h.size, fun k hk => h.block k (show k < a.heap.size by omega)⟩
set_option maxHeartbeats 4000000 in
theorem l02Faces_any (A : Option Addr) (n c i : Nat) (xss : List (List Int)) (w : World) {lo hi : Nat} (h : RS w lo hi A n xss) (hhi : hi ≤ w.heap.size) (hi0 : i < n) (hn2 : n ≤ 1048576) (N : Nat) (hN : flg xss = N) (h4 : N ≤ 400) (hs : SysOf xss N) :
    Calls Try.prog 63 #[.agg #[.slice A n c], .int .i64 i] w fun e w' => ∃ (A1 : Option Addr) (c1 : Nat), e = .returned (.slice A1 N c1) ∧ Own w' w.heap.size w'.heap.size 2 A1 N c1 ((labL (xss.eraseIdx i) N).map (Value.int .i64)) ∧ Below w.heap.size w w' := by
  have hR := rs_alloc h hhi (.cells #[.slice A n c] 38)
  have hC : (w.alloc (.cells #[.slice A n c] 38)).cell? ⟨w.heap.size, 0, none⟩ = some (.slice A n c) := al_new _ _ _ _ rfl
  have hB : Below w.heap.size w (w.alloc (.cells #[.slice A n c] 38)) := (Below.refl _ _).alloc (Nat.le_refl _) _
  replace hs := Lib.hid hs
  go_enter Try.func63, Try.ntmps63
  go_wp2_with fail
  obtain ⟨W1, hW⟩ : ∃ W1 : World, w.alloc (.cells #[.slice A n c] 38) = W1 := ⟨_, rfl⟩
  have hz1 : W1.heap.size = w.heap.size + 1 := by rw [← hW]; simp
  rw [hW] at hR hC hB ⊢
  clear hW h
  have hFa := l02Flags_any A n c xss W1.drew (rs_drew hR) (show _ ≤ W1.heap.size by omega) (by omega)
  have hFb0 := l02Flags_any A n c xss (W1.alloc (.cells #[.int .i64 (i : Int)] 2)).drew (rs_drew (rs_alloc hR (by omega) _)) (show _ ≤ (W1.alloc (.cells #[.int .i64 (i : Int)] 2)).heap.size by simp; omega) (by omega)
  rw [hN] at hFa hFb0
  have hFb : Calls Try.prog 43 #[.agg #[.slice A n c]] (W1.alloc (.cells #[.int .i64 (i : Int)] 2)).drew fun e w' => e = .returned (.int .i64 (N : Nat)) ∧ Below (W1.heap.size + 1) (W1.alloc (.cells #[.int .i64 (i : Int)] 2)) w' := hFb0.mono (fun e w' hh => ⟨hh.1, below_undrew hh.2 (by simp)⟩)
  clear hFb0
  have hCb : (W1.alloc (.cells #[.int .i64 (i : Int)] 2)).cell? ⟨w.heap.size, 0, none⟩ = some (.slice A n c) := (al_old _ _ _ _ (by omega)).trans hC
  go_region_with (first
    | (go_at_call 43; (with_reducible refine hFa.mono ?_); rintro e w8 ⟨rfl, f8⟩; have f8 : Below W1.heap.size W1 w8 := ⟨f8.os, f8.tape, f8.output, f8.size, f8.block⟩; have y8 := f8.size; have C8 := (f8.cell (p := ⟨w.heap.size, 0, none⟩) (by simp; omega)).trans hC; have C8a : (w8.alloc (.cells #[.int .i64 (i : Int)] 2)).cell? ⟨w.heap.size, 0, none⟩ = some (.slice A n c) := (al_old _ _ _ _ (by omega)).trans C8; have B8 : Below W1.heap.size W1 (w8.alloc (.cells #[.int .i64 (i : Int)] 2)) := f8.alloc y8 _; have qo := l02Others_any A n c i (some ⟨w8.heap.size, 0, none⟩) 1 xss _ (rs_alloc (hR.below f8 (by omega)) (by omega) (.cells #[.int .i64 (i : Int)] 2)) (by simp; omega) (ri_lit1 w8 2 (i : Int)) (by simp) hn2)
    | (go_at_call 43; (with_reducible refine hFb.mono ?_); rintro e w8 ⟨rfl, f8⟩; have y8 : W1.heap.size + 1 ≤ w8.heap.size := (by have := f8.size; simpa using this); have B8 : Below W1.heap.size W1 w8 := ((Below.refl _ _).alloc (Nat.le_refl _) _).trans (f8.mono (by omega)); have C8 := (B8.cell (p := ⟨w.heap.size, 0, none⟩) (by first | omega | (simp; done) | (simp; omega))).trans hC; have rl : RI w8 W1.heap.size (W1.heap.size + 1) (some ⟨w.heap.size + 1, 0, none⟩) 1 [(i : Int)] := (by rw [← hz1]; exact (ri_lit1 W1 2 (i : Int)).below f8 (Nat.le_refl _)); have qo := l02Others_any A n c i (some ⟨w.heap.size + 1, 0, none⟩) 1 xss w8 (hR.below B8 (by omega)) (by omega) rl (by omega) hn2)
    | (go_at_call 91; (with_reducible refine qo.mono ?_); rintro e w9 ⟨A9, n9, c9, rfl, r9, f9⟩; have y9 := f9.size; have B9 : Below W1.heap.size W1 w9 := below_then B8 f9 (by first | omega | (simp; omega)); have qp := l01Orbits_any N A9 n9 c9 (xss.eraseIdx i) w9 r9 (Nat.le_refl _) h4 (sysOf_erase hs.out i))
    | (go_at_call 90; (with_reducible refine qp.mono ?_); rintro e w10 ⟨A10, c10, rfl, o10, f10⟩))
  all_goals
    have z9 := B9.size
    have B10 := below_then B9 f10 z9
    go_wp2_with fail
    go_ret
    exact ⟨A10, c10, rfl, o10.more (by omega) (Nat.le_refl _), hB.trans (B10.mono (by omega))⟩
end Go.Proofs.Ytbioelmofceaaaa
/- Lw -/
namespace Go.Proofs.Ytbioelmofceaaaa
open Go.RowKit
set_option linter.unusedVariables false
set_option maxRecDepth 100000
/-- the least flag that has a face, and a code -/
noncomputable def lwF (xss : List (List Int)) (i y : Int) : Int × Int :=
  if isManB xss = true then (if (decide ((0 : Int) ≤ i) && decide (i ≤ (xss.length : Int) - 1)) = true then (if decide (y ∈ labL (xss.eraseIdx i.toNat) (flg xss)) = true then (((labL (xss.eraseIdx i.toNat) (flg xss)).idxOf y : Int), 0) else (0, 2)) else (0, 2)) else (0, 1)
/-- the reference's, which asks for one rank besides -/
noncomputable def l4F (xss : List (List Int)) (i y st : Int) : Int × Int := if (lwF xss i y).2 = 0 ∧ i = st then (0, 5) else lwF xss i y
theorem lw_zero {xss : List (List Int)} {i y fl : Int} (h : (fl, (0 : Int)) = lwF xss i y) : isManB xss = true ∧ 0 ≤ i ∧ i ≤ (xss.length : Int) - 1 ∧ 0 ≤ fl ∧ fl < (flg xss : Nat) := by
  unfold lwF at h
  by_cases h1 : isManB xss = true
  · rw [if_pos h1] at h
    by_cases h2 : (decide ((0 : Int) ≤ i) && decide (i ≤ (xss.length : Int) - 1)) = true
    · rw [if_pos h2] at h
      by_cases h3 : decide (y ∈ labL (xss.eraseIdx i.toNat) (flg xss)) = true
      · rw [if_pos h3] at h
        injection h with e1 _
        have h4 := List.idxOf_lt_length_of_mem (of_decide_eq_true h3)
        rw [labL_length] at h4
        simp at h2
        exact ⟨h1, h2.1, h2.2, by omega, by omega⟩
      · rw [if_neg h3] at h; injection h with _ e2; simp at e2
    · rw [if_neg h2] at h; injection h with _ e2; simp at e2
  · rw [if_neg h1] at h; injection h with _ e2; simp at e2
theorem idxI_neg {xs : List Int} {x : Int} (h : decide (x ∈ xs) = false) : idxI xs x = -1 := by unfold idxI; rw [if_neg (of_decide_eq_false h)]
theorem idxI_pos {xs : List Int} {x : Int} (h : decide (x ∈ xs) = true) : idxI xs x = xs.idxOf x := by unfold idxI; rw [if_pos (of_decide_eq_true h)]
theorem index_any (A : Option Addr) (n c : Nat) (xs : List Int) (x : Int) (w : World) {lo hi : Nat} (h : RI w lo hi A n xs) :
    Calls Try.prog 75 #[.slice A n c, .int .i64 x] w fun e w' => e = .returned (.int .i64 (idxI xs x)) ∧ w = w' := by
  have hm := h.max
  have hl := Lib.hid h.len
  go_enter Try.func75, Try.ntmps75
  go_wp2_with fail
  go_loopw [8] (fun kv wq => ∃ k : Nat, k ≤ n ∧ kv = .int .i64 k ∧ Hid (x ∉ xs.take k) ∧ w = wq) (fun kv _ => n - (intOf kv).toNat)
  case atStart => exact ⟨0, by omega, rfl, Lib.hid (by simp), by first | rfl | trivial⟩
  case round =>
    obtain ⟨k, hk, rfl, hnx, rfl⟩ := hrel
    by_cases hlt : k < n
    · obtain ⟨b, o, v, rfl, _, _, hv, hcv⟩ := h.at_ hlt
      have htk := take_succ_of hv
      by_cases hvx : v = x
      · subst hvx
        have hix : idxI xs v = k := by unfold idxI; rw [if_pos (mem_of_get? hv), idx_first hv hnx.out]
        replace hv := Lib.hid hv
        replace htk := Lib.hid htk
        replace hix := Lib.hid hix
        go_wp2_with fail
        go_ret
        exact ⟨ret_int hix.out.symm, rfl⟩
      · have hbq : (x == v) = false := by simp; omega
        have hn2 : x ∉ xs.take (k + 1) := by rw [htk]; simp only [List.mem_append, List.mem_singleton]; rintro (hh | hh); exact hnx.out hh; exact hvx hh.symm
        replace hn2 := Lib.hid hn2
        replace hv := Lib.hid hv
        replace htk := Lib.hid htk
        go_wp2_with fail
        go_roundw
        case measure => simp [intOf]; omega
        case rel => exact ⟨k + 1, by omega, by go_num, hn2, by first | rfl | trivial⟩
    · have hkn : k = n := by omega
      subst hkn
      have hix : idxI xs x = -1 := by unfold idxI; rw [if_neg]; have := hnx.out; rwa [List.take_of_length_le (by have := hl.out; omega)] at this
      replace hix := Lib.hid hix
      go_wp2_with fail
      go_ret
      exact ⟨ret_int hix.out.symm, rfl⟩
end Go.Proofs.Ytbioelmofceaaaa
