/- Plain: renumbered flags. No program in sight. No condition. -/
import Derived.Test.YtnhcamckngonaaaDoorFormP
import Derived.Test.YtnhcamckngonaaaDoorDistP
namespace Go.Proofs.YtnhcamckngonaaaDoor
set_option linter.unusedVariables false
set_option maxRecDepth 100000
/-- the move M when the flag i has become the flag p[i] -/
def renL (p M : List Int) : List Int := thenL (thenL (invL p) M) p
theorem renL_length (p M : List Int) : (renL p M).length = p.length := by simp [renL, thenL_length, invL_length]
theorem renL_get {p M : List Int} {z : Nat} (hz : z < p.length) : (renL p M)[z]? = some (at' p (at' M (p.idxOf (z : Int) : Int))) := by
  unfold renL
  rw [thenL_get (thenL_get (invL_get hz))]
  rfl
/-- the first f flags are laid -/
def RenI (p M : List Int) (n f : Nat) (mv : List Int) : Prop := mv.length = n ∧ ∀ z : Nat, z < n → mv[z]? = some (if p.idxOf (z : Int) < f then at' p (at' M (p.idxOf (z : Int) : Int)) else 0)
theorem RenI.zero (p M : List Int) (n : Nat) : RenI p M n 0 (List.replicate n 0) := ⟨by simp, fun z hz => by simp [hz]⟩
theorem RenI.step {p M mv : List Int} {n f g : Nat} (h : RenI p M n f mv) (hnd : p.Nodup) (hmem : ∀ z : Nat, z < n → (z : Int) ∈ p) (hg : p[f]? = some (g : Int)) (hgn : g < n) : RenI p M n (f + 1) (mv.set g (at' p (at' M (f : Int)))) := by
  have hix := idxOf_of_get? hnd hg
  refine ⟨by simp [h.1], fun z hz => ?_⟩
  by_cases e : z = g
  · subst e
    rw [hix, if_pos (by omega)]
    simp [h.1, hz]
  · rw [List.getElem?_set_ne (by omega), h.2 z hz]
    have hne : p.idxOf (z : Int) ≠ f := by
      intro e2
      have h1 := get?_idxOf (hmem z hz)
      rw [e2, hg] at h1
      have := Option.some.inj h1
      omega
    by_cases hlt : p.idxOf (z : Int) < f
    · rw [if_pos hlt, if_pos (by omega)]
    · rw [if_neg hlt, if_neg (by omega)]
theorem RenI.end_ {p M mv : List Int} {n : Nat} (h : RenI p M n n mv) (hl : p.length = n) (hmem : ∀ z : Nat, z < n → (z : Int) ∈ p) : mv = renL p M := by
  refine List.ext_getElem? fun z => ?_
  by_cases hz : z < n
  · rw [h.2 z hz, renL_get (by omega), if_pos]
    have := List.idxOf_lt_length_of_mem (hmem z hz)
    omega
  · rw [List.getElem?_eq_none (by have := h.1; omega), List.getElem?_eq_none (by rw [renL_length]; omega)]
/-- an order of all flags -/
theorem ren_ix {ord M : List Int} {n : Nat} (hp : isPermP ord) (hl : ord.length = n) (hM : M.length = n) (hr : ∀ x ∈ M, 0 ≤ x ∧ x < n) : renL (invL ord) M = ixF ord M := by
  have hip := invL_perm hp
  have hil : (invL ord).length = n := by rw [invL_length]; exact hl
  refine List.ext_getElem? fun z => ?_
  by_cases hz : z < n
  · have hoz := get?_getD (xs := ord) (k := z) 0 (by omega)
    have hor := hp.get (k := z) (by omega)
    generalize ord.getD z 0 = y at *
    obtain ⟨y, rfl⟩ : ∃ q : Nat, y = q := ⟨y.toNat, by omega⟩
    have hinv : (invL ord)[y]? = some (z : Int) := by rw [invL_get (by omega), idxOf_of_get? hp.nd hoz]
    have hix := idxOf_of_get? hip.nd hinv
    rw [renL_get (by omega), hix]
    unfold ixF
    rw [List.getElem?_map, hoz]
    show some _ = some (ord.idxOf (at' M (y : Int)) : Int)
    have hv := hr (at' M (y : Int)) (mem_of_get? (get?_getD 0 (by rw [Int.toNat_natCast]; omega)))
    generalize at' M (y : Int) = v at *
    obtain ⟨v, rfl⟩ : ∃ q : Nat, v = q := ⟨v.toNat, by omega⟩
    unfold at'
    rw [Int.toNat_natCast, getD_some (invL_get (p := ord) (j := v) (by omega))]
  · rw [List.getElem?_eq_none (by rw [renL_length]; omega), List.getElem?_eq_none (by rw [ixF_length]; omega)]
theorem ord_perm {list : List (List Int)} {n : Nat} {x : Int} (hs : SysOf list n) (hc : Conn list n) (hn : n ≤ 400) (h0 : 0 ≤ x) (h1 : x < n) : isPermP (bfs list n x) ∧ (bfs list n x).length = n := by
  have hm := bfs_met hs h0 h1
  have hle := hm.len
  have hge : n ≤ (bfs list n x).length := by
    have := nodup_sub_len ((List.range n).map Int.ofNat) (bfs list n x) (by
      rw [List.nodup_iff_pairwise_ne, List.pairwise_map]
      refine List.pairwise_lt_range.imp ?_
      intro a b h e
      have e : (a : Int) = b := e
      have : a < b := h
      omega) (fun a ha => by obtain ⟨g1, g2⟩ := mem_ints.1 ha; exact (bfs_mem hs h0 h1).2 (hc x a h0 h1 g1 g2))
    simpa using this
  have hl : (bfs list n x).length = n := by omega
  exact ⟨⟨by omega, fun y hy => by rw [hl]; exact hm.rng y hy, hm.nd⟩, hl⟩
theorem perm_nums {p : List Int} {n : Nat} (hp : isPermP p) (hl : p.length = n) : ∀ z : Nat, z < n → (z : Int) ∈ p :=
  fun z hz => perm_mem hl (by have := hp.rng; rwa [hl] at this) hp.nd (by omega) (by omega)
/-- the form is the renumbered maniplex -/
theorem form_ren {xss : List (List Int)} {n : Nat} {x : Int} (hs : SysOf xss n) (hc : Conn xss n) (hn : n ≤ 400) (h0 : 0 ≤ x) (h1 : x < n) : formL xss n x = xss.map (renL (invL (bfs xss n x))) := by
  obtain ⟨h2, h3⟩ := ord_perm hs hc hn h0 h1
  unfold formL
  refine List.map_congr_left fun p hp => ?_
  rw [ren_ix h2 h3 (hs p hp).2.2 (hs p hp).1]
end Go.Proofs.YtnhcamckngonaaaDoor
