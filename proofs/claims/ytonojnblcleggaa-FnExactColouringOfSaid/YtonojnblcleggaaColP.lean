/- Plain: colours of flags are the parities of their distances. No program in sight. No condition. -/
import Derived.Test.YtonojnblcleggaaDistP
namespace Go.Proofs.Ytonojnblcleggaa
set_option linter.unusedVariables false
set_option maxRecDepth 100000
/-- the move p changes the parity at y -/
def edgeB (D : List Int) (y : Int) (p : List Int) : Bool := decide (dat D (at' p y) % 2 ≠ dat D y % 2)
def edgesB (xss : List (List Int)) (D : List Int) (y : Int) : Bool := xss.all (edgeB D y)
/-- all moves change all parities -/
def colB (xss : List (List Int)) (n : Nat) (D : List Int) : Bool := (List.range n).all fun y => edgesB xss D (y : Int)
/-- what the reference hands out: no colours, where there is no colouring -/
def colZ (xss : List (List Int)) (n : Nat) (D : List Int) : List Int := if colB xss n D = true then D.map (· % 2) else []
def parL (D : List Int) : List Int := D.map (· % 2)
/-- the colours c are the parities of the distances d so far -/
def Col (n : Nat) (d c : List Int) : Prop := d.length = n ∧ c.length = n ∧ ∀ z : Int, 0 ≤ z → z < n → dat c z = if dat d z < 0 then -1 else dat d z % 2
theorem dat_start {n : Nat} {x z : Int} (h0 : 0 ≤ x) (h1 : x < n) (g0 : 0 ≤ z) (g1 : z < n) : dat (dstart n x).1 z = if z = x then 0 else -1 := by
  unfold dstart
  by_cases e : z = x
  · subst e; rw [if_pos rfl]; exact dat_set_eq (n := n) (by simp) h0 h1
  · rw [if_neg e, dat_set_ne h0 g0 e]
    unfold dat
    simp [List.getD, show z.toNat < n by omega]
theorem Col.start {n : Nat} {x : Int} (h0 : 0 ≤ x) (h1 : x < n) : Col n (dstart n x).1 (dstart n x).1 := by
  refine ⟨by simp [dstart], by simp [dstart], fun z g0 g1 => ?_⟩
  rw [dat_start h0 h1 g0 g1]
  by_cases e : z = x
  · simp [e]
  · simp [e]
theorem Col.set {n : Nat} {d c : List Int} {g y : Int} (h : Col n d c) (g0 : 0 ≤ g) (g1 : g < n) (y0 : 0 ≤ y) (y1 : y < n) (hy : 0 ≤ dat d y) : Col n (d.set g.toNat (dat d y + 1)) (c.set g.toNat (1 - dat c y)) := by
  obtain ⟨hd, hc, hh⟩ := h
  refine ⟨by simp [hd], by simp [hc], fun z z0 z1 => ?_⟩
  by_cases e : z = g
  · subst e
    rw [dat_set_eq hc g0 g1, dat_set_eq hd g0 g1, hh y y0 y1, if_neg (by omega), if_neg (by omega)]
    omega
  · rw [dat_set_ne g0 z0 e, dat_set_ne g0 z0 e]
    exact hh z z0 z1
theorem Col.neg {n : Nat} {d c : List Int} {z : Int} (h : Col n d c) (z0 : 0 ≤ z) (z1 : z < n) : dat c z < 0 ↔ dat d z < 0 := by
  rw [h.2.2 z z0 z1]
  split <;> omega
theorem Col.val {n : Nat} {d c : List Int} {z : Int} (h : Col n d c) (z0 : 0 ≤ z) (z1 : z < n) (hz : 0 ≤ dat d z) : dat c z = dat d z % 2 := by
  rw [h.2.2 z z0 z1, if_neg (by omega)]
theorem Col.end_ {n : Nat} {d c : List Int} (h : Col n d c) (hall : ∀ z : Int, 0 ≤ z → z < n → 0 ≤ dat d z) : c = parL d := by
  unfold parL
  refine List.ext_getElem? fun k => ?_
  by_cases hk : k < n
  · have h1 := get?_getD (xs := c) (k := k) 0 (by have := h.2.1; omega)
    have h2 := get?_getD (xs := d) (k := k) 0 (by have := h.1; omega)
    rw [h1, List.getElem?_map, h2]
    have := h.val (z := (k : Int)) (by omega) (by omega) (hall k (by omega) (by omega))
    unfold dat at this
    rw [Int.toNat_natCast] at this
    rw [this]
    rfl
  · rw [List.getElem?_eq_none (by have := h.2.1; omega), List.getElem?_eq_none (by simp; have := h.1; omega)]
theorem dMove_keep {list : List (List Int)} {n : Nat} {x y : Int} {p : List Int} {s : List Int × List Int} {i : Nat} (hs : SysOf list n) (h : DMet list n x s.1 s.2 i) (hy : s.2[i]? = some y) (hp : p ∈ list) {z : Int} (hz : z ∈ s.2) : dat (dMove y s p).1 z = dat s.1 z := by
  have hyr := h.met.rng y (mem_of_get? hy)
  obtain ⟨g0, g1⟩ := at'_rng (hs p hp).1 (hs p hp).2.2 hyr.1 hyr.2
  unfold dMove
  split
  · rename_i hn
    exact dat_set_ne g0 (h.met.rng z hz).1 (fun e => by subst e; have := (h.datn hz).1; omega)
  · rfl
theorem dStep_keep {list : List (List Int)} {n : Nat} {x y : Int} {i : Nat} (hs : SysOf list n) {z : Int} : ∀ (ps : List (List Int)) (s : List Int × List Int), (∀ p ∈ ps, p ∈ list) → DMet list n x s.1 s.2 i → s.2[i]? = some y → z ∈ s.2 → dat (dStep ps y s).1 z = dat s.1 z := by
  intro ps
  induction ps with
  | nil => intro s _ _ _ _; rfl
  | cons p t ih =>
    intro s hps h hy hz
    obtain ⟨h1, h2, h3, h4⟩ := dMove_spec hs h hy (hps p (by simp))
    have := ih (dMove y s p) (fun q hq => hps q (by simp [hq])) h1 h2 (h4 z hz)
    rw [dMove_keep hs h hy (hps p (by simp)) hz] at this
    exact this
theorem dGo_keep {list : List (List Int)} {n : Nat} {x : Int} (hs : SysOf list n) {z : Int} : ∀ (f : Nat) (s : List Int × List Int) (i : Nat), DMet list n x s.1 s.2 i → z ∈ s.2 → dat (dGo list f s i).1 z = dat s.1 z := by
  intro f
  induction f with
  | zero => intro s i _ _; rfl
  | succ f ih =>
    intro s i h hz
    cases hx : s.2[i]? with
    | none => rw [dGo_stop (List.getElem?_eq_none_iff.1 hx)]
    | some y =>
      rw [dGo_step hx, ih _ _ (dStep_next hs h hx) ((dStep_spec hs list s (fun _ h => h) h hx).2.2.2 z hz)]
      exact dStep_keep hs list s (fun _ h => h) h hx hz
/-- distances that are known stay -/
theorem final_keep {list : List (List Int)} {n : Nat} {x y : Int} {i f k : Nat} {s : List Int × List Int} (hs : SysOf list n) (h : DMet list n x s.1 s.2 i) (hy : s.2[i]? = some y) {z : Int} (hz : z ∈ (dStep (list.take k) y s).2) :
    dat (dGo list (f + 1) s i).1 z = dat (dStep (list.take k) y s).1 z := by
  obtain ⟨h1, h2, _, _⟩ := dStep_spec hs (list.take k) s (fun _ h => mem_of_take h) h hy
  have e : dStep list y s = dStep (list.drop k) y (dStep (list.take k) y s) := by
    unfold dStep
    rw [← List.foldl_append, List.take_append_drop]
  have hd : ∀ p ∈ list.drop k, p ∈ list := fun p hp => List.mem_of_mem_drop hp
  rw [dGo_step hy, dGo_keep hs _ _ _ (dStep_next hs h hy), e]
  · exact dStep_keep hs _ _ hd h1 h2 hz
  · rw [e]; exact (dStep_spec hs (list.drop k) _ hd h1 h2).2.2.2 z hz
theorem all_out {list : List (List Int)} {n : Nat} {x : Int} {out : List Int} (hm : Met list n x out) (hl : n ≤ out.length) (f : Int → Bool) : out.all f = (List.range n).all fun (y : Nat) => f (y : Int) := by
  rw [Bool.eq_iff_iff, List.all_eq_true, List.all_eq_true]
  constructor
  · intro h y hy
    refine h y (mem_of_full hm.nd (fun a ha => mem_ints.2 (hm.rng a ha)) (by simpa using hl) (mem_ints.2 ⟨by omega, by have := List.mem_range.1 hy; omega⟩))
  · intro h y hy
    have := hm.rng y hy
    have h2 := h y.toNat (by rw [List.mem_range]; omega)
    rwa [Int.toNat_of_nonneg this.1] at h2
theorem met_full {n : Nat} {out : List Int} (hc : ∀ z : Int, 0 ≤ z → z < n → z ∈ out) : n ≤ out.length := by
  have := nodup_sub_len ((List.range n).map Int.ofNat) out (by
    rw [List.nodup_iff_pairwise_ne, List.pairwise_map]
    refine List.pairwise_lt_range.imp ?_
    intro a b h e
    have e : (a : Int) = b := e
    have : a < b := h
    omega) (fun a ha => by obtain ⟨g1, g2⟩ := mem_ints.1 ha; exact hc a g1 g2)
  simpa using this
theorem all_take_succ {α : Type} {xs : List α} {k : Nat} {x : α} {f : α → Bool} (h : xs[k]? = some x) : (xs.take (k + 1)).all f = ((xs.take k).all f && f x) := by
  rw [take_succ_of h, List.all_append]; simp
theorem edge_new {list : List (List Int)} {n : Nat} {x y : Int} {p d out D : List Int} {i : Nat} (hs : SysOf list n) (h : DMet list n x d out i) (hy : out[i]? = some y) (hp : p ∈ list) (hn : dat d (at' p y) < 0)
    (hD : ∀ z ∈ (dMove y (d, out) p).2, dat D z = dat (dMove y (d, out) p).1 z) : edgeB D y p = true := by
  have hyr := h.met.rng y (mem_of_get? hy)
  obtain ⟨g0, g1⟩ := at'_rng (hs p hp).1 (hs p hp).2.2 hyr.1 hyr.2
  have hyd := (h.datn (mem_of_get? hy)).1
  unfold dMove at hD
  rw [if_pos hn] at hD
  have h1 := hD (at' p y) (by simp)
  have h2 := hD y (List.mem_append_left _ (mem_of_get? hy))
  rw [dat_set_eq h.dl g0 g1] at h1
  rw [dat_set_ne g0 hyr.1 (fun e => by rw [← e] at hn; omega)] at h2
  unfold edgeB
  rw [h1, h2]
  exact decide_eq_true (by omega)
theorem edge_old {list : List (List Int)} {n : Nat} {x y : Int} {p d out D : List Int} {i : Nat} (hs : SysOf list n) (h : DMet list n x d out i) (hy : out[i]? = some y) (hp : p ∈ list) (hn : ¬ dat d (at' p y) < 0)
    (hD : ∀ z ∈ (dMove y (d, out) p).2, dat D z = dat (dMove y (d, out) p).1 z) : edgeB D y p = decide (dat d (at' p y) % 2 ≠ dat d y % 2) := by
  have hyr := h.met.rng y (mem_of_get? hy)
  obtain ⟨g0, g1⟩ := at'_rng (hs p hp).1 (hs p hp).2.2 hyr.1 hyr.2
  unfold dMove at hD
  rw [if_neg hn] at hD
  have h1 := hD (at' p y) ((h.pos _ g0 g1).1 (by omega))
  have h2 := hD y (mem_of_get? hy)
  unfold edgeB
  rw [h1, h2]
theorem edges_snoc {xss : List (List Int)} {k : Nat} {p : List Int} {pre : List Int} {D : List Int} {y : Int} {o : Bool} (hp : xss[k]? = some p) (ho : o = (pre.all (edgesB xss D) && (xss.take k).all (edgeB D y))) : (o && edgeB D y p) = (pre.all (edgesB xss D) && (xss.take (k + 1)).all (edgeB D y)) := by
  rw [all_take_succ hp, ho, Bool.and_assoc]
theorem edges_next {xss : List (List Int)} {pre : List Int} {D : List Int} {y : Int} {o : Bool} (ho : o = (pre.all (edgesB xss D) && xss.all (edgeB D y))) : o = (pre ++ [y]).all (edgesB xss D) := by
  rw [ho, List.all_append]; simp [edgesB]
end Go.Proofs.Ytonojnblcleggaa
