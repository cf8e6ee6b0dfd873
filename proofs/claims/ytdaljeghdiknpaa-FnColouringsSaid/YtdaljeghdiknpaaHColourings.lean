/- Merged texts: what the statement wants besides (ColP Que Dist Col ColX DistX). No condition but those that each lemma names. -/
import Derived.ArgAppend
import Derived.Test.YtdaljeghdiknpaaGd
/- ColP -/
namespace Go.Proofs.Ytdaljeghdiknpaa
set_option linter.unusedVariables false
set_option maxRecDepth 100000
/-- the move p changes the parity at y -/
def edgeB (D : List Int) (y : Int) (p : List Int) : Bool := decide (dat D (at' p y) % 2 ≠ dat D y % 2)
def edgesB (xss : List (List Int)) (D : List Int) (y : Int) : Bool := xss.all (edgeB D y)
/-- all moves change all parities -/
def colB (xss : List (List Int)) (n : Nat) (D : List Int) : Bool := (List.range n).all fun y => edgesB xss D (y : Int)
/-- what the reference hands out: no colours, where there is no colouring -/
def colZ (xss : List (List Int)) (n : Nat) (D : List Int) : List Int := if colB xss n D = true then D.map (· % 2) else []
def parL (D : List Int) : List Int := D.map (· % 2)
/-- the colours c are the parities of the distances d so far -/
def Col (n : Nat) (d c : List Int) : Prop := d.length = n ∧ c.length = n ∧ ∀ z : Int, 0 ≤ z → z < n → dat c z = if dat d z < 0 then -1 else dat d z % 2
theorem dat_start {n : Nat} {x z : Int} (h0 : 0 ≤ x) (h1 : x < n) (g0 : 0 ≤ z) (g1 : z < n) : dat (dstart n x).1 z = if z = x then 0 else -1 := by
  unfold dstart
  by_cases e : z = x
  · subst e; rw [if_pos rfl]; exact dat_set_eq (n := n) (by simp) h0 h1
  · rw [if_neg e, dat_set_ne h0 g0 e]
    unfold dat
    simp [List.getD, show z.toNat < n by omega]
theorem Col.start {n : Nat} {x : Int} (h0 : 0 ≤ x) (h1 : x < n) : Col n (dstart n x).1 (dstart n x).1 := by
  refine ⟨by simp [dstart], by simp [dstart], fun z g0 g1 => ?_⟩
  rw [dat_start h0 h1 g0 g1]
  by_cases e : z = x
  · simp [e]
  · simp [e]
theorem Col.set {n : Nat} {d c : List Int} {g y : Int} (h : Col n d c) (g0 : 0 ≤ g) (g1 : g < n) (y0 : 0 ≤ y) (y1 : y < n) (hy : 0 ≤ dat d y) : Col n (d.set g.toNat (dat d y + 1)) (c.set g.toNat (1 - dat c y)) := by
  obtain ⟨hd, hc, hh⟩ := h
  refine ⟨by simp [hd], by simp [hc], fun z z0 z1 => ?_⟩
  by_cases e : z = g
  · subst e
    rw [dat_set_eq hc g0 g1, dat_set_eq hd g0 g1, hh y y0 y1, if_neg (by omega), if_neg (by omega)]
    omega
  · rw [dat_set_ne g0 z0 e, dat_set_ne g0 z0 e]
    exact hh z z0 z1
theorem Col.neg {n : Nat} {d c : List Int} {z : Int} (h : Col n d c) (z0 : 0 ≤ z) (z1 : z < n) : dat c z < 0 ↔ dat d z < 0 := by
  rw [h.2.2 z z0 z1]
  split <;> omega
theorem Col.val {n : Nat} {d c : List Int} {z : Int} (h : Col n d c) (z0 : 0 ≤ z) (z1 : z < n) (hz : 0 ≤ dat d z) : dat c z = dat d z % 2 := by
  rw [h.2.2 z z0 z1, if_neg (by omega)]
theorem Col.end_ {n : Nat} {d c : List Int} (h : Col n d c) (hall : ∀ z : Int, 0 ≤ z → z < n → 0 ≤ dat d z) : c = parL d := by
  unfold parL
  refine List.ext_getElem? fun k => ?_
  by_cases hk : k < n
  · have h1 := get?_getD (xs := c) (k := k) 0 (by have := h.2.1; omega)
    have h2 := get?_getD (xs := d) (k := k) 0 (by have := h.1; omega)
    rw [h1, List.getElem?_map, h2]
    have := h.val (z := (k : Int)) (by omega) (by omega) (hall k (by omega) (by omega))
    unfold dat at this
    rw [Int.toNat_natCast] at this
    rw [this]
    rfl
  · rw [List.getElem?_eq_none (by have := h.2.1; omega), List.getElem?_eq_none (by simp; have := h.1; omega)]
theorem dMove_keep {list : List (List Int)} {n : Nat} {x y : Int} {p : List Int} {s : List Int × List Int} {i : Nat} (hs : SysOf list n) (h : DMet list n x s.1 s.2 i) (hy : s.2[i]? = some y) (hp : p ∈ list) {z : Int} (hz : z ∈ s.2) : dat (dMove y s p).1 z = dat s.1 z := by
  have hyr := h.met.rng y (mem_of_get? hy)
  obtain ⟨g0, g1⟩ := at'_rng (hs p hp).1 (hs p hp).2.2 hyr.1 hyr.2
  unfold dMove
  split
  · rename_i hn
    exact dat_set_ne g0 (h.met.rng z hz).1 (fun e => by subst e; have := (h.datn hz).1; omega)
  · rfl
theorem dStep_keep {list : List (List Int)} {n : Nat} {x y : Int} {i : Nat} (hs : SysOf list n) {z : Int} : ∀ (ps : List (List Int)) (s : List Int × List Int), (∀ p ∈ ps, p ∈ list) → DMet list n x s.1 s.2 i → s.2[i]? = some y → z ∈ s.2 → dat (dStep ps y s).1 z = dat s.1 z := by
  intro ps
  induction ps with
  | nil => intro s _ _ _ _; rfl
  | cons p t ih =>
    intro s hps h hy hz
    obtain ⟨h1, h2, h3, h4⟩ := dMove_spec hs h hy (hps p (by simp))
    have := ih (dMove y s p) (fun q hq => hps q (by simp [hq])) h1 h2 (h4 z hz)
    rw [dMove_keep hs h hy (hps p (by simp)) hz] at this
    exact this
theorem dGo_keep {list : List (List Int)} {n : Nat} {x : Int} (hs : SysOf list n) {z : Int} : ∀ (f : Nat) (s : List Int × List Int) (i : Nat), DMet list n x s.1 s.2 i → z ∈ s.2 → dat (dGo list f s i).1 z = dat s.1 z := by
  intro f
  induction f with
  | zero => intro s i _ _; rfl
  | succ f ih =>
    intro s i h hz
    cases hx : s.2[i]? with
    | none => rw [dGo_stop (List.getElem?_eq_none_iff.1 hx)]
    | some y =>
      rw [dGo_step hx, ih _ _ (dStep_next hs h hx) ((dStep_spec hs list s (fun _ h => h) h hx).2.2.2 z hz)]
      exact dStep_keep hs list s (fun _ h => h) h hx hz
/-- distances that are known stay -/
theorem final_keep {list : List (List Int)} {n : Nat} {x y : Int} {i f k : Nat} {s : List Int × List Int} (hs : SysOf list n) (h : DMet list n x s.1 s.2 i) (hy : s.2[i]? = some y) {z : Int} (hz : z ∈ (dStep (list.take k) y s).2) :
    dat (dGo list (f + 1) s i).1 z = dat (dStep (list.take k) y s).1 z := by
  obtain ⟨h1, h2, _, _⟩ := dStep_spec hs (list.take k) s (fun _ h => mem_of_take h) h hy
  have e : dStep list y s = dStep (list.drop k) y (dStep (list.take k) y s) := by
    unfold dStep
    rw [← List.foldl_append, List.take_append_drop]
  have hd : ∀ p ∈ list.drop k, p ∈ list := fun p hp => List.mem_of_mem_drop hp
  rw [dGo_step hy, dGo_keep hs _ _ _ (dStep_next hs h hy), e]
  · exact dStep_keep hs _ _ hd h1 h2 hz
  · rw [e]; exact (dStep_spec hs (list.drop k) _ hd h1 h2).2.2.2 z hz
theorem all_out {list : List (List Int)} {n : Nat} {x : Int} {out : List Int} (hm : Met list n x out) (hl : n ≤ out.length) (f : Int → Bool) : out.all f = (List.range n).all fun (y : Nat) => f (y : Int) := by
  rw [Bool.eq_iff_iff, List.all_eq_true, List.all_eq_true]
  constructor
  · intro h y hy
    refine h y (mem_of_full hm.nd (fun a ha => mem_ints.2 (hm.rng a ha)) (by simpa using hl) (mem_ints.2 ⟨by omega, by have := List.mem_range.1 hy; omega⟩))
  · intro h y hy
    have := hm.rng y hy
    have h2 := h y.toNat (by rw [List.mem_range]; omega)
    rwa [Int.toNat_of_nonneg this.1] at h2
theorem met_full {n : Nat} {out : List Int} (hc : ∀ z : Int, 0 ≤ z → z < n → z ∈ out) : n ≤ out.length := by
  have := nodup_sub_len ((List.range n).map Int.ofNat) out (by
    rw [List.nodup_iff_pairwise_ne, List.pairwise_map]
    refine List.pairwise_lt_range.imp ?_
    intro a b h e
    have e : (a : Int) = b := e
    have : a < b := h
    omega) (fun a ha => by obtain ⟨g1, g2⟩ := mem_ints.1 ha; exact hc a g1 g2)
  simpa using this
theorem all_take_succ {α : Type} {xs : List α} {k : Nat} {x : α} {f : α → Bool} (h : xs[k]? = some x) : (xs.take (k + 1)).all f = ((xs.take k).all f && f x) := by
  rw [take_succ_of h, List.all_append]; simp
theorem edge_new {list : List (List Int)} {n : Nat} {x y : Int} {p d out D : List Int} {i : Nat} (hs : SysOf list n) (h : DMet list n x d out i) (hy : out[i]? = some y) (hp : p ∈ list) (hn : dat d (at' p y) < 0)
    (hD : ∀ z ∈ (dMove y (d, out) p).2, dat D z = dat (dMove y (d, out) p).1 z) : edgeB D y p = true := by
  have hyr := h.met.rng y (mem_of_get? hy)
  obtain ⟨g0, g1⟩ := at'_rng (hs p hp).1 (hs p hp).2.2 hyr.1 hyr.2
  have hyd := (h.datn (mem_of_get? hy)).1
  unfold dMove at hD
  rw [if_pos hn] at hD
  have h1 := hD (at' p y) (by simp)
  have h2 := hD y (List.mem_append_left _ (mem_of_get? hy))
  rw [dat_set_eq h.dl g0 g1] at h1
  rw [dat_set_ne g0 hyr.1 (fun e => by rw [← e] at hn; omega)] at h2
  unfold edgeB
  rw [h1, h2]
  exact decide_eq_true (by omega)
theorem edge_old {list : List (List Int)} {n : Nat} {x y : Int} {p d out D : List Int} {i : Nat} (hs : SysOf list n) (h : DMet list n x d out i) (hy : out[i]? = some y) (hp : p ∈ list) (hn : ¬ dat d (at' p y) < 0)
    (hD : ∀ z ∈ (dMove y (d, out) p).2, dat D z = dat (dMove y (d, out) p).1 z) : edgeB D y p = decide (dat d (at' p y) % 2 ≠ dat d y % 2) := by
  have hyr := h.met.rng y (mem_of_get? hy)
  obtain ⟨g0, g1⟩ := at'_rng (hs p hp).1 (hs p hp).2.2 hyr.1 hyr.2
  unfold dMove at hD
  rw [if_neg hn] at hD
  have h1 := hD (at' p y) ((h.pos _ g0 g1).1 (by omega))
  have h2 := hD y (mem_of_get? hy)
  unfold edgeB
  rw [h1, h2]
theorem edges_snoc {xss : List (List Int)} {k : Nat} {p : List Int} {pre : List Int} {D : List Int} {y : Int} {o : Bool} (hp : xss[k]? = some p) (ho : o = (pre.all (edgesB xss D) && (xss.take k).all (edgeB D y))) : (o && edgeB D y p) = (pre.all (edgesB xss D) && (xss.take (k + 1)).all (edgeB D y)) := by
  rw [all_take_succ hp, ho, Bool.and_assoc]
theorem edges_next {xss : List (List Int)} {pre : List Int} {D : List Int} {y : Int} {o : Bool} (ho : o = (pre.all (edgesB xss D) && xss.all (edgeB D y))) : o = (pre ++ [y]).all (edgesB xss D) := by
  rw [ho, List.all_append]; simp [edgesB]
end Go.Proofs.Ytdaljeghdiknpaa
/- Que -/
namespace Go.Proofs.Ytdaljeghdiknpaa
open Go.RowKit
set_option linter.unusedVariables false
set_option maxRecDepth 100000
/-- '.slice A n c' holds vs; it lies in a block from lo on; what lies behind it, up to c, may be written -/
def Que (w : World) (lo : Nat) (A : Option Addr) (n c : Nat) (vs : List Value) : Prop :=
  vs.length = n ∧ n ≤ c ∧ c ≤ maxLen ∧ ∃ g o, A = some ⟨g, o, none⟩ ∧ lo ≤ g ∧ g < w.heap.size ∧ (∀ k v, vs[k]? = some v → w.cell? ⟨g, o + k, none⟩ = some v) ∧ (∀ k, k < c → (w.cell? ⟨g, o + k, none⟩).isSome = true) ∧ ∀ k, w.frozen? ⟨g, k, none⟩ = false
section
variable {w w' : World} {lo hi n c : Nat} {T : TypeId} {A : Option Addr} {vs : List Value}
theorem Que.keep (h : Que w lo A n c vs) (hs : ∀ k, lo ≤ k → k < w.heap.size → w'.heap[k]? = w.heap[k]?) (hz : w.heap.size ≤ w'.heap.size) : Que w' lo A n c vs := by
  obtain ⟨h1, h2, h3, g, o, e, h4, h5, h6, h7, h8⟩ := h
  refine ⟨h1, h2, h3, g, o, e, h4, by omega, fun k v hv => ?_, fun k hk => ?_, fun k => ?_⟩
  · exact (World.cell?_of_block (w := w) (a := ⟨g, o + k, none⟩) (hs g h4 h5)).trans (h6 k v hv)
  · rw [World.cell?_of_block (w := w) (a := ⟨g, o + k, none⟩) (hs g h4 h5)]; exact h7 k hk
  · rw [World.frozen?_of_block (w := w) (a := ⟨g, k, none⟩) (hs g h4 h5)]; exact h8 k
theorem Que.far (h : Que w lo A n c vs) {p : Addr} (hp : p.block < lo) (u : Value) : Que (w.setCell p u) lo A n c vs :=
  h.keep (fun k h1 h2 => Below.heap_setCell _ _ _ _ (by omega)) (by simp)
theorem Que.drewN (h : Que w lo A n c vs) (k : Nat) : Que (w.drewN k) lo A n c vs := h
theorem Que.len (h : Que w lo A n c vs) : vs.length = n := h.1
theorem Que.cap (h : Que w lo A n c vs) : n ≤ c := h.2.1
theorem Que.max (h : Que w lo A n c vs) : c ≤ 9223372036854775807 := by have := h.2.2.1; simp only [maxLen] at this; omega
theorem Que.more {lo' : Nat} (h : Que w lo A n c vs) (h' : lo' ≤ lo) : Que w lo' A n c vs := by
  obtain ⟨h1, h2, h3, g, o, e, h4, h5, h6, h7, h8⟩ := h
  exact ⟨h1, h2, h3, g, o, e, by omega, h5, h6, h7, h8⟩
theorem Que.addr (h : Que w lo A n c vs) : ∃ g o, A = some ⟨g, o, none⟩ ∧ lo ≤ g ∧ g < w.heap.size := by
  obtain ⟨_, _, _, g, o, e, h4, h5, _⟩ := h
  exact ⟨g, o, e, h4, h5⟩
theorem Que.cell {g o k : Nat} {v : Value} (h : Que w lo (some ⟨g, o, none⟩) n c vs) (hv : vs[k]? = some v) : w.cell? ⟨g, o + k, none⟩ = some v := by
  obtain ⟨_, _, _, g', o', e, _, _, h6, _⟩ := h
  injection e with e; injection e with e1 e2 _; subst e1; subst e2
  exact h6 k v hv
/-- the first element is cut away -/
theorem Que.pop {g o : Nat} {v : Value} {vs : List Value} {A' : Option Addr} (h : Que w lo (some ⟨g, o, none⟩) (n + 1) c (v :: vs)) (hA : A' = some ⟨g, o + 1, none⟩ ∨ (c = 1 ∧ A' = some ⟨g, o, none⟩)) : Que w lo A' n (c - 1) vs := by
  obtain ⟨h1, h2, h3, g', o', e, h4, h5, h6, h7, h8⟩ := h
  injection e with e; injection e with e1 e2 _; subst e1; subst e2
  simp at h1
  refine ⟨h1, by omega, by omega, ?_⟩
  rcases hA with rfl | ⟨rfl, rfl⟩
  · refine ⟨g, o + 1, rfl, h4, h5, fun k u hu => ?_, fun k hk => ?_, h8⟩
    · rw [show o + 1 + k = o + (k + 1) by omega]; exact h6 (k + 1) u (by simpa using hu)
    · rw [show o + 1 + k = o + (k + 1) by omega]; exact h7 (k + 1) (by omega)
  · have : vs = [] := List.eq_nil_of_length_eq_zero (by omega)
    subst this
    exact ⟨g, o, rfl, h4, h5, fun k u hu => by simp at hu, fun k hk => by omega, h8⟩
theorem Que.of_row {g : Nat} (h : w.ownsRow lo T 1 (.slice (some ⟨g, 0, none⟩) n c) n vs) : Que w lo (some ⟨g, 0, none⟩) n c vs := by
  have hl := h.1
  rcases h.2 with ⟨hv, _⟩ | ⟨g', cap, cur, hv, hb, hg, hnc, hcm, hcs, htake⟩
  · cases hv
  · injection hv with e1 _ e3
    injection e1 with e1
    injection e1 with e1 _ _
    subst e1; subst e3
    refine ⟨by omega, hnc, hcm, g, 0, rfl, hb, (Array.getElem?_eq_some_iff.1 hg).1, fun k v hv => ?_, fun k hk => ?_, fun k => frozen_of_row w g k cur T hg⟩
    · rw [Nat.zero_add, cell_of_row w g k cur T _ hg]
      have hk := (List.getElem?_eq_some_iff.1 hv).1
      rw [← htake, List.getElem?_take_of_lt (by omega)] at hv
      simpa using hv
    · rw [Nat.zero_add, cell_of_row w g k cur T _ hg]
      simp; omega
theorem Que.of_own {g : Nat} (h : Own w lo hi T (some ⟨g, 0, none⟩) n c vs) : Que w lo (some ⟨g, 0, none⟩) n c vs := Que.of_row h.1
end
section
variable {P : Program}
/-- 'append(s, x)' at a queue -/
theorem wpList_appendQ (w : World) {ops : Array Oper} {rest : List Oper} {o : Oper} {a : Act} {Q : Exit → Act → World → Prop} (hgd : o.guard = none) (s x : Operand) (t : TypeId)
    (ho : o.op = .call { callee := .builtin .append, args := #[s, x], argTypes := #[t, t] })
    (lo : Nat) (e : TypeId) (i : TypeInfo) (z : Value) (bytes : Nat) (ht : P.underlying t = some (.slice e)) (hi : P.info? e = some i) (hz : i.zero = some z)
    (hsize : i.size = 1) (hby : i.bytes = bytes) (hzs : z.cells.size = 1) (hbs : bytes ≤ 64)
    (A : Option Addr) (n c : Nat) (vs : List Value) (u : Value) (hs : a.eval s = .slice A n c) (hq : Que w lo A n c vs)
    (N : Nat) (hx : a.eval x = .slice (some ⟨N, 0, none⟩) 1 1) (hN : N = w.heap.size) (h1 : u.oneCell' = true) (h63 : n < 1099511627776) (hlo : lo ≤ w.heap.size)
    (h : ∀ A' c' w', Que w' lo A' (n + 1) c' (vs ++ [u]) → Below lo w w' → wpList P ops Q rest (a.put o.dst (.slice A' (n + 1) c')) w') :
    wpList P ops Q (o :: rest) a (w.alloc (.cells #[u] e)) := by
  subst hN
  refine wpList_plain hgd fun K hK => ?_
  have hnews : ∀ j v, [u][j]? = some v → (w.alloc (.cells #[u] e)).cell? ((⟨w.heap.size, 0, none⟩ : Addr).add j) = some v := by
    intro j v hv
    have : j = 0 := by have := (List.getElem?_eq_some_iff.1 hv).1; simp at this; omega
    subst this
    simp at hv
    subst hv
    simp [Addr.add_lit]
  have hq' : Que (w.alloc (.cells #[u] e)) lo A n c vs := hq.keep (fun k _ hk => Below.heap_alloc _ _ _ hk) (by simp)
  have hb' : Below lo w (w.alloc (.cells #[u] e)) := (Below.refl _ _).alloc hlo _
  obtain ⟨q1, q2, q3, g, off, rfl, q4, q5, q6, q7, q8⟩ := hq'
  by_cases hr : n + 1 ≤ c
  · have hrun := run_append_room_cells (P := P) (w.alloc (.cells #[u] e)) t o.type e i ht hi g off n c ⟨w.heap.size, 0, none⟩ 1 1 [u] (by simp [hsize]) hnews (by simpa using h1) hr
      (fun j hj => by simp at hj; subst hj; rw [hsize]; exact q7 _ (by omega)) (fun j hj => q8 _)
    rw [hsize, Nat.mul_one] at hrun
    unfold Oper.wp execOp
    simp only [ho, resolve, invoke, builtin, Sem.run_bind, Sem.run_pure, Result.andThen_ok, List.map_toArray, List.map_cons, List.map_nil, hs, hx, hrun]
    have hset : (w.alloc (.cells #[u] e)).setCells g (off + n) [u] = (w.alloc (.cells #[u] e)).setCell ⟨g, off + n, none⟩ u := by simp [World.setCells]
    rw [hset]
    have hsome : ((w.alloc (.cells #[u] e)).cell? ⟨g, off + n, none⟩).isSome = true := q7 n (by omega)
    refine hK _ _ (h _ c _ ⟨by simp [q1], hr, q3, g, off, rfl, q4, by simpa using q5, fun k v hv => ?_, fun k hk => ?_, fun k => ?_⟩ (hb'.setCell q4 _))
    · by_cases hk : k < n
      · rw [List.getElem?_append_left (by omega)] at hv
        exact (World.cell?_setCell_other _ _ _ _ (by intro e; injection e with _ e _; omega)).trans (q6 k v hv)
      · have hk2 := (List.getElem?_eq_some_iff.1 hv).1
        simp at hk2
        have e : k = n := by omega
        subst e
        rw [List.getElem?_append_right (by omega)] at hv
        simp [q1] at hv
        subst hv
        exact World.cell?_setCell_same _ _ _ (Option.isSome_iff_exists.1 hsome).choose_spec
    · by_cases e : k = n
      · subst e; rw [World.cell?_setCell_same _ _ _ (Option.isSome_iff_exists.1 hsome).choose_spec]; rfl
      · exact (congrArg Option.isSome (World.cell?_setCell_other _ _ _ _ (by intro e'; injection e' with _ e' _; omega))).trans (q7 k (by omega))
    · rw [World.frozen?_setCell]; exact q8 k
  · obtain ⟨v', w', hrun, r1, r2⟩ := run_append_arg_grows (P := P) (w.alloc (.cells #[u] e)) t o.type e i z 1 bytes ht hi hz hsize hby hzs (by omega) ⟨g, off, none⟩ n c vs (by omega) (fun j v hv => by rw [Addr.add_lit]; exact q6 j v hv)
      ⟨w.heap.size, 0, none⟩ 1 1 [u] rfl hnews (by omega) (by simp only [maxLen]; omega) (by have := Nat.mul_le_mul (show n + 1 ≤ 1099511627776 by omega) hbs; omega)
    obtain ⟨g', c', rfl, hg1, hg2⟩ := slice_of_own r1 (by omega)
    unfold Oper.wp execOp
    simp only [ho, resolve, invoke, builtin, Sem.run_bind, Sem.run_pure, Result.andThen_ok, List.map_toArray, List.map_cons, List.map_nil, hs, hx, hrun]
    refine hK _ _ (h _ c' w' ((Que.of_row r1).more (by simp; omega)) (hb'.grown r2 (by simp; omega) (fun q hq => by cases hq)))
end
end Go.Proofs.Ytdaljeghdiknpaa
/- Dist -/
namespace Go.Proofs.Ytdaljeghdiknpaa
open Go.RowKit
set_option linter.unusedVariables false
set_option maxRecDepth 100000
theorem dat_get {d : List Int} {z : Nat} {n : Nat} (hl : d.length = n) (hz : z < n) : d[z]? = some (dat d (z : Int)) := by
  unfold dat; rw [Int.toNat_natCast]; exact get?_getD 0 (by omega)
set_option maxHeartbeats 4000000 in
theorem distances_any (b : Nat) (A : Option Addr) (n c : Nat) (xss : List (List Int)) (x : Int) (w : World) (hc : w.cell? ⟨b, 0, none⟩ = some (.slice A n c)) (hbs : b < w.heap.size) {lo hi : Nat} (h : RS w lo hi A n xss) (hhi : hi ≤ w.heap.size) (hn : 0 < n) (N : Nat) (hN : flg xss = N) (h4 : N ≤ 400) (hs : SysOf xss N) (hx0 : 0 ≤ x) (hx1 : x < N) :
    Calls Try.prog 80 #[.pointer (some ⟨b, 0, none⟩), .int .i64 x] w fun e w' => ∃ A1, e = .returned (.slice A1 N N) ∧ Own w' w.heap.size w'.heap.size 2 A1 N N ((dist xss N x).map (Value.int .i64)) ∧ Below w.heap.size w w' := by
  obtain ⟨j0, hj0, hy0, hy1, hy2⟩ := info_parts infoI
  have hm := h.max
  have hl := Lib.hid h.len
  obtain ⟨x, rfl⟩ : ∃ q : Nat, x = q := ⟨x.toNat, by omega⟩
  have hst := DMet.start (list := xss) hx0 hx1
  replace hst := Lib.hid hst
  replace hs := Lib.hid hs
  have hR := rs_alloc h hhi (.cells #[.int .i64 (-1)] 2)
  have hC : (w.alloc (.cells #[.int .i64 (-1)] 2)).cell? ⟨b, 0, none⟩ = some (.slice A n c) := (al_old _ _ _ _ hbs).trans hc
  go_enter Try.func80, Try.ntmps80
  go_wp2_with fail
  ((with_reducible refine (flags_any _ A n c xss _ hC hR hn).mono ?_); rintro e w' ⟨rfl, rfl⟩)
  rw [hN]
  go_wp2_with fail
  ((with_reducible refine (repeat_any _ _ N (-1) _ (ri_lit1 w _ _) (by simp) (by omega)).mono ?_); rintro e w1 ⟨A1, rfl, ho1, hb1⟩)
  have hB1 : Below w.heap.size w w1 := ((Below.refl _ _).alloc (Nat.le_refl _) _).trans (hb1.mono (by simp))
  replace ho1 := ho1.more (lo' := w.heap.size) (hi' := w1.heap.size) (by simp) (Nat.le_refl _)
  have hz1 := hB1.size
  clear hb1 hR hC
  obtain ⟨b1, x1, rfl, hb1, hb2, hb3, hxx, hcx, hfx⟩ := ho1.atI (k := x) (by omega)
  clear hxx
  have hC1 := (hB1.cell (p := ⟨b, 0, none⟩) (by simp; omega)).trans hc
  have hxN : x < N := by omega
  go_wp2_with fail
  have hset := (ho1.setI (b := b1) (k := x) 0).keep (same_alloc _ (.cells #[.int .i64 (x : Int)] 2) _ _ (by simp))
  have hopen := Que.of_own (own_lit1 (w1.setCell ⟨b1, x, none⟩ (.int .i64 0)) 2 (x : Int) (lo := w1.heap.size) (by simp))
  rw [World.size_setCell] at hopen
  have hbA : Below w.heap.size w ((w1.setCell ⟨b1, x, none⟩ (.int .i64 0)).alloc (.cells #[.int .i64 (x : Int)] 2)) := (hB1.setCell (by simp; omega) _).alloc (by simp; omega) _
  clear ho1 hB1 hcx hfx
  go_loopg [6] (N + 2) (fun f ov wq => ∃ (i : Nat) (d pre q : List Int) (A2 : Option Addr) (c2 : Nat), ov = .slice A2 q.length c2 ∧ f + i = N + 2 ∧ pre.length = i ∧ q.length ≤ 400 ∧ Hid (dGo xss (N + 1 - i) (d, pre ++ q) i = dGo xss (N + 1) (dstart N x) 0) ∧ Hid (DMet xss N x d (pre ++ q) i) ∧
      Own wq w.heap.size w1.heap.size 2 (some ⟨b1, 0, none⟩) N N (d.map (Value.int .i64)) ∧ Que wq w1.heap.size A2 q.length c2 (q.map (Value.int .i64)) ∧ w1.heap.size ≤ wq.heap.size ∧ Below w.heap.size w wq)
  case atStart =>
    exact ⟨0, (dstart N x).1, [], [(x : Int)], _, 1, rfl, by omega, rfl, by simp, Lib.hid rfl, Lib.hid hst.out, by simpa [dstart] using hset, hopen, by simp, hbA⟩
  case round =>
    clear hset hopen hbA hst
    obtain ⟨i, d, pre, q, A2, c2, rfl, hfn, hpl, hql, heq, hd, ho, hop, hz, hb⟩ := hrel
    have hlen := hd.out.met.len
    rw [List.length_append] at hlen
    obtain ⟨f, rfl⟩ : ∃ f, gk = f + 1 := ⟨gk - 1, by omega⟩
    rcases q with _ | ⟨y, q⟩
    · have hcq := hop.max
      go_wp2_with fail
      go_ret
      refine ⟨_, rfl, ?_, hb⟩
      have h1 := heq.out
      rw [dGo_stop (by simp; omega)] at h1
      unfold dist
      rw [← h1]
      exact ho.more (Nat.le_refl _) hz
    · have hiN : (pre ++ y :: q)[i]? = some y := by rw [List.getElem?_append_right (by omega), show i - pre.length = 0 by omega]; rfl
      have hyr := hd.out.met.rng y (mem_of_get? hiN)
      have hyd := hd.out.datn (mem_of_get? hiN)
      obtain ⟨y, rfl⟩ : ∃ q : Nat, y = q := ⟨y.toNat, by omega⟩
      obtain ⟨g2, o2, rfl, hg2, hg3⟩ := hop.addr
      have hgc := hop.cell (k := 0) (v := .int .i64 (y : Int)) rfl
      rw [Nat.add_zero] at hgc
      rw [List.length_cons] at hop hql ⊢
      have hcap := hop.cap
      have hcm := hop.max
      have hCk := (hb.cell (p := ⟨b, 0, none⟩) (by simp; omega)).trans hc
      replace hiN := Lib.hid hiN
      replace hyd := Lib.hid hyd
      go_wp2_with fail
      obtain ⟨wo, hwo⟩ : ∃ wo : World, wo = wr := ⟨_, rfl⟩
      go_loopw [6, 33] (fun ov kv wq => ∃ (k : Nat) (d2 q2 : List Int) (A3 : Option Addr) (c3 : Nat), k ≤ n ∧ kv = .int .i64 k ∧ ov = .slice A3 (q2.length + 1) c3 ∧ q2.length ≤ 400 ∧ Hid ((d2, pre ++ (y : Int) :: q2) = dStep (xss.take k) y (d, pre ++ (y : Int) :: q)) ∧ Hid (DMet xss N x d2 (pre ++ (y : Int) :: q2) i) ∧
          Own wq w.heap.size w1.heap.size 2 (some ⟨b1, 0, none⟩) N N (d2.map (Value.int .i64)) ∧ Que wq w1.heap.size A3 (q2.length + 1) c3 (((y : Int) :: q2).map (Value.int .i64)) ∧ w1.heap.size ≤ wq.heap.size ∧ Below w.heap.size w wq) (fun _ kv _ => n - (intOf kv).toNat)
      case atStart => exact ⟨0, d, q, _, c2, by omega, rfl, rfl, by omega, Lib.hid rfl, hd, ho, hop, hz, hb⟩
      case round =>
        clear ho hop hz hb hgc hwo hcap hcm hCk
        obtain ⟨k, d2, q2, A3, c3, hk, rfl, rfl, hq2, hds, hd2, ho, hop, hz, hb⟩ := hrel
        have hiN2 : (pre ++ (y : Int) :: q2)[i]? = some (y : Int) := by rw [List.getElem?_append_right (by omega), show i - pre.length = 0 by omega]; rfl
        have hlen2 := hd2.out.met.len
        rw [List.length_append, List.length_cons] at hlen2
        have hdl := hd2.out.dl
        have hyd2 := hd2.out.datn (mem_of_get? hiN2)
        by_cases hkm : k < n
        · obtain ⟨bb, oo, Ak, nk, ck, p, rfl, _, _, hp, hpc, hpr⟩ := (h.below hb hhi).at_ hkm
          have hpm := mem_of_get? hp
          obtain ⟨hpr0, hpn, hpll⟩ := hs.out p hpm
          have hnk := hpr.len
          have hynk : y < nk := by omega
          obtain ⟨bp, oq, v, rfl, _, _, hv, hvc⟩ := hpr.at_ hynk
          have hva : at' p y = v := by unfold at'; rw [Int.toNat_natCast]; exact getD_some hv
          obtain ⟨hv0, hv1⟩ := hpr0 v (mem_of_get? hv)
          obtain ⟨v, rfl⟩ : ∃ q : Nat, v = q := ⟨v.toNat, by omega⟩
          have htk := take_succ_of hp
          have hcv := ho.cellI (dat_get hdl (show v < N by omega))
          have hcy := ho.cellI (dat_get hdl (show y < N by omega))
          have hfr := ho.frz v
          have hvr := hd2.out.datr hv0 hv1
          have hyd0 := hyd2.1
          have hyd1 := hyd2.2
          have hvN : v < N := by omega
          have hyN : y < N := by omega
          have hsp := dMove_spec (s := (d2, pre ++ (y : Int) :: q2)) hs.out hd2.out hiN2 hpm
          have hmv : dMove y (d2, pre ++ (y : Int) :: q2) p = dStep (xss.take (k + 1)) y (d, pre ++ (y : Int) :: q) := by rw [htk, dStep_snoc, ← hds.out]
          unfold dMove at hmv hsp
          rw [hva] at hmv hsp
          by_cases hneg : dat d2 v < 0
          · rw [if_pos hneg] at hmv hsp
            have e2 : pre ++ (y : Int) :: q2 ++ [(v : Int)] = pre ++ (y : Int) :: (q2 ++ [(v : Int)]) := by simp
            rw [Int.toNat_natCast, e2] at hmv hsp
            have hmet2 := hsp.1
            have hlen3 := hmet2.met.len
            rw [List.length_append, List.length_cons, List.length_append, List.length_singleton] at hlen3
            have hdd : decide (dat d2 v < 0) = true := decide_eq_true hneg
            replace hmet2 := Lib.hid hmet2
            replace hmv := Lib.hid hmv
            replace hp := Lib.hid hp
            replace hv := Lib.hid hv
            replace htk := Lib.hid htk
            replace hva := Lib.hid hva
            replace hpr0 := Lib.hid hpr0
            replace hpll := Lib.hid hpll
            replace hiN2 := Lib.hid hiN2
            clear hsp e2 hdl hyd2
            generalize dat d2 v = u at *
            generalize dat d2 y = u2 at *
            have hop' := hop.far (p := ⟨b1, v, none⟩) hb2 (.int .i64 (u2 + 1))
            have hss : (wr.setCell ⟨b1, v, none⟩ (.int .i64 (u2 + 1))).heap.size = wr.heap.size := World.size_setCell _ _ _
            replace hss := Lib.hid hss
            go_wp2_with (at_builtin; refine wpList_appendQ (wr.setCell ⟨b1, v, none⟩ (.int .i64 (u2 + 1))) rfl (.tmp 54) (.tmp 56) 27 rfl w1.heap.size 2 j0 (.int .i64 0) 8 Try.underlying27 hj0 hy0 hy1 hy2 rfl (by omega) A3 (q2.length + 1) c3 _ (.int .i64 v) rfl hop' _ rfl (World.size_setCell _ _ _).symm rfl (by omega) (by rw [hss.out]; exact hz) ?_)
            intro A4 c4 w2 hop4 hbe
            have hb4 : Below w.heap.size w w2 := (hb.setCell (p := ⟨b1, v, none⟩) hb1 (.int .i64 (u2 + 1))).trans (hbe.mono hz1)
            have ho4 := (ho.setI (b := b1) (k := v) (u2 + 1)).below hbe (Nat.le_refl _)
            have hz4 : w1.heap.size ≤ w2.heap.size := by have := hbe.size; have := hss.out; omega
            clear ho hop hop' hb hpc hvc hcv hcy hfr hpr hbe
            go_wp2_with fail
            go_roundw
            case measure => simp [intOf]; omega
            case rel =>
              exact ⟨k + 1, d2.set v (u2 + 1), q2 ++ [(v : Int)], A4, c4, by omega, by go_num, by rw [List.length_append]; rfl, by simp; omega, hmv, hmet2, ho4, by simpa using hop4, hz4, hb4⟩
          · rw [if_neg hneg] at hmv hsp
            have hdd : decide (dat d2 v < 0) = false := decide_eq_false hneg
            replace hmv := Lib.hid hmv
            replace hp := Lib.hid hp
            replace hv := Lib.hid hv
            replace htk := Lib.hid htk
            replace hva := Lib.hid hva
            replace hpr0 := Lib.hid hpr0
            replace hpll := Lib.hid hpll
            replace hiN2 := Lib.hid hiN2
            clear hsp hdl hyd2
            generalize dat d2 v = u at *
            generalize dat d2 y = u2 at *
            go_wp2_with fail
            go_roundw
            case measure => simp [intOf]; omega
            case rel => exact ⟨k + 1, d2, q2, A3, c3, by omega, by go_num, rfl, hq2, hmv, hd2, ho, hop, hz, hb⟩
        · have hkm' : k = n := by omega
          subst hkm'
          obtain ⟨g4, o4, rfl, hg4, hg5⟩ := hop.addr
          have hcap := hop.cap
          have hcm := hop.max
          replace hiN2 := Lib.hid hiN2
          replace hdl := Lib.hid hdl
          replace hyd2 := Lib.hid hyd2
          have hds2 : (d2, pre ++ (y : Int) :: q2) = dStep xss y (d, pre ++ (y : Int) :: q) := by have := hds.out; rwa [List.take_of_length_le (by have := hl.out; omega)] at this
          have hnx : DMet xss N x d2 (pre ++ (y : Int) :: q2) (i + 1) := by
            have := dStep_next (s := (d, pre ++ (y : Int) :: q)) hs.out hd.out hiN.out
            rw [← hds2] at this
            exact this
          have hgo : dGo xss (N + 1 - (i + 1)) (d2, pre ++ (y : Int) :: q2) (i + 1) = dGo xss (N + 1) (dstart N x) 0 := by
            have h1 := heq.out
            rw [show N + 1 - i = (N - i) + 1 by omega, dGo_step (s := (d, pre ++ (y : Int) :: q)) hiN.out, ← hds2] at h1
            rw [← h1, show N + 1 - (i + 1) = N - i by omega]
          have e3 : pre ++ (y : Int) :: q2 = (pre ++ [(y : Int)]) ++ q2 := by simp
          rw [e3] at hnx hgo
          replace hds2 := Lib.hid hds2
          replace hnx := Lib.hid hnx
          replace hgo := Lib.hid hgo
          replace e3 := Lib.hid e3
          by_cases hc1 : c3 = 1
          · go_wp2_with fail
            go_roundg f
            case measure => omega
            case rel => exact ⟨i + 1, d2, pre ++ [(y : Int)], q2, _, c3 - 1, by rw [hc1], by omega, by simp; omega, by omega, hgo, hnx, ho, hop.pop (.inr ⟨hc1, rfl⟩), hz, hb⟩
          · go_wp2_with fail
            go_roundg f
            case measure => omega
            case rel => exact ⟨i + 1, d2, pre ++ [(y : Int)], q2, _, c3 - 1, rfl, by omega, by simp; omega, by omega, hgo, hnx, ho, hop.pop (.inl rfl), hz, hb⟩
set_option maxHeartbeats 4000000 in
theorem l02Distances_any (A : Option Addr) (n c : Nat) (xss : List (List Int)) (x : Int) (w : World) {lo hi : Nat} (h : RS w lo hi A n xss) (hhi : hi ≤ w.heap.size) (hn : 0 < n) (N : Nat) (hN : flg xss = N) (h4 : N ≤ 400) (hs : SysOf xss N) (hx0 : 0 ≤ x) (hx1 : x < N) :
    Calls Try.prog 92 #[.agg #[.slice A n c], .int .i64 x] w fun e w' => ∃ (A1 : Option Addr) (c1 : Nat), e = .returned (.slice A1 N c1) ∧ Own w' w.heap.size w'.heap.size 2 A1 N c1 ((dist xss N x).map (Value.int .i64)) ∧ Below w.heap.size w w' := by
  obtain ⟨j0, hj0, hy0, hy1, hy2⟩ := info_parts infoI
  have hm := h.max
  have hl := Lib.hid h.len
  obtain ⟨x, rfl⟩ : ∃ q : Nat, x = q := ⟨x.toNat, by omega⟩
  have hst := DMet.start (list := xss) hx0 hx1
  replace hst := Lib.hid hst
  replace hs := Lib.hid hs
  have hR := rs_alloc h hhi (.cells #[.slice A n c] 40)
  have hC : (w.alloc (.cells #[.slice A n c] 40)).cell? ⟨w.heap.size, 0, none⟩ = some (.slice A n c) := al_new _ _ _ _ rfl
  have hB : Below w.heap.size w (w.alloc (.cells #[.slice A n c] 40)) := (Below.refl _ _).alloc (Nat.le_refl _) _
  have h0 := World.ownsRow_lit (e := 2) (base := (w.alloc (.cells #[.slice A n c] 40)).heap.size) (size := 1) (w.alloc (.cells #[.slice A n c] 40)) #[] 0 (Nat.le_refl _) (by omega) rfl
  go_enter Try.func92, Try.ntmps92
  go_wp2_with fail
  obtain ⟨W1, hW⟩ : ∃ W1 : World, w.alloc (.cells #[.slice A n c] 40) = W1 := ⟨_, rfl⟩
  have hzW : W1.heap.size = w.heap.size + 1 := by rw [← hW]; simp
  rw [hW] at hR hC hB h0 ⊢
  clear hW
  have h0 : (W1.alloc (.cells #[] 2)).ownsRow W1.heap.size 2 1 (.slice (some ⟨w.heap.size + 1, 0, none⟩) 0 0) 0 (([] : List Int).map (Value.int .i64)) := by rw [← hzW]; exact h0
  go_loopw [5, 6] (fun ov iv wr => ∃ (i : Nat) (A1 : Option Addr) (c1 : Nat), i ≤ N ∧ ov = .slice A1 i c1 ∧ iv = .int .i64 i ∧ Own wr W1.heap.size wr.heap.size 2 A1 i c1 ((List.replicate i (-1)).map (Value.int .i64)) ∧ Below W1.heap.size W1 wr) (fun _ iv _ => N - (intOf iv).toNat)
  case atStart => exact ⟨0, _, 0, by omega, rfl, rfl, Own.of_row h0, (Below.refl _ _).alloc (Nat.le_refl _) _⟩
  case round =>
    clear h0
    obtain ⟨i, A1, c1, hi, rfl, rfl, ho, hb⟩ := hrel
    have hsize := hb.size
    have hCk := (hb.cell (p := ⟨w.heap.size, 0, none⟩) (by simp; omega)).trans hC
    by_cases hlt : i < N
    · go_wp2_with fail
      ((with_reducible refine (l02Flags_any A n c xss _ (hR.below hb (by omega)) (by omega) hn).mono ?_); rintro e w2 ⟨rfl, f2⟩)
      rw [hN]
      have y2 := f2.size
      have ho2 := ho.below f2 (Nat.le_refl _)
      have hb2 := below_then hb f2 (by omega)
      go_wp2_with (at_builtin; refine wpList_append1 w2 rfl (.tmp 18) (.tmp 19) 27 rfl W1.heap.size 2 j0 (.int .i64 0) 8 Try.underlying27 hj0 hy0 hy1 hy2 rfl (by omega) _ i c1 _ (.int .i64 (-1)) rfl ho2.1 _ rfl rfl rfl (by omega) (by omega) ?_)
      intro g4 c4 w3 ho3 hg3 hlo3 hlt3 hor3
      have hb4 : Below W1.heap.size W1 w3 := hb2.grown hg3 (by omega) (fun q hq => by have := (ho2.1.lt q hq).1; omega)
      clear ho hb hg3 ho2 hb2 f2 hCk
      go_wp2_with fail
      go_roundw
      case measure => simp [intOf]; omega
      case rel => exact ⟨i + 1, _, c4, by omega, rfl, by go_num, by rw [hzW, List.replicate_succ']; simpa using Own.of_row ho3, hb4⟩
    · have hin : i = N := by omega
      subst hin
      go_wp2_with fail
      ((with_reducible refine (l02Flags_any A n c xss _ (hR.below hb (by omega)) (by omega) hn).mono ?_); rintro e w1 ⟨rfl, f1⟩)
      rw [hN]
      have y1 := f1.size
      have ho1 := (ho.below f1 (Nat.le_refl _)).more (hi' := w1.heap.size) (Nat.le_refl _) y1
      have hb1 := below_then hb f1 (by omega)
      clear ho hb f1
      obtain ⟨b1, x1, rfl, hb11, hb12, hb13, hxx, hcx, hfx⟩ := ho1.atI (k := x) (by omega)
      clear hxx
      have hxN : x < i := by omega
      go_wp2_with fail
      have hset := (ho1.setI (b := b1) (k := x) 0).keep (same_alloc _ (.cells #[.int .i64 (x : Int)] 2) _ _ (by simp))
      have hopen := Que.of_own (own_lit1 (w1.setCell ⟨b1, x, none⟩ (.int .i64 0)) 2 (x : Int) (lo := w1.heap.size) (by simp))
      rw [World.size_setCell] at hopen
      have hbA : Below W1.heap.size W1 ((w1.setCell ⟨b1, x, none⟩ (.int .i64 0)).alloc (.cells #[.int .i64 (x : Int)] 2)) := (hb1.setCell (by simp; omega) _).alloc (by simp; omega) _
      clear ho1 hb1 hcx hfx
      go_loopw [7, 8] (fun ov jv wq => ∃ (j : Nat) (d out : List Int) (A2 : Option Addr) (c2 : Nat), j ≤ out.length ∧ out.length ≤ i ∧ ov = .slice A2 out.length c2 ∧ jv = .int .i64 j ∧ Hid (dGo xss (i + 1 - j) (d, out) j = dGo xss (i + 1) (dstart i x) 0) ∧ Hid (DMet xss i x d out j) ∧
          Own wq W1.heap.size w1.heap.size 2 (some ⟨b1, 0, none⟩) i c1 (d.map (Value.int .i64)) ∧ Que wq w1.heap.size A2 out.length c2 (out.map (Value.int .i64)) ∧ w1.heap.size ≤ wq.heap.size ∧ Below W1.heap.size W1 wq) (fun _ jv _ => i - (intOf jv).toNat)
      case atStart => exact ⟨0, (dstart i x).1, [(x : Int)], _, 1, by simp, by simp; omega, rfl, rfl, Lib.hid rfl, Lib.hid hst.out, by simpa [dstart] using hset, hopen, by simp, hbA⟩
      case round =>
        clear hset hopen hbA hst
        obtain ⟨j, d, out, A2, c2, hj, hln, rfl, rfl, heq, hd, ho, hop, hz, hb⟩ := hrel
        have hcap := hop.cap
        have hcm := hop.max
        by_cases hlt2 : j < out.length
        · obtain ⟨y, hy⟩ : ∃ y, out[j]? = some y := ⟨_, List.getElem?_eq_getElem hlt2⟩
          have hyr := hd.out.met.rng y (mem_of_get? hy)
          obtain ⟨y, rfl⟩ : ∃ q : Nat, y = q := ⟨y.toNat, by omega⟩
          replace hy := Lib.hid hy
          go_wp2_with fail
          obtain ⟨wo, hwo⟩ : ∃ wo : World, wo = wr := ⟨_, rfl⟩
          go_loopw [7, 9] (fun ov kv wq => ∃ (k : Nat) (d2 out2 : List Int) (A3 : Option Addr) (c3 : Nat), k ≤ n ∧ out2.length ≤ i ∧ ov = .slice A3 out2.length c3 ∧ kv = .int .i64 k ∧ Hid ((d2, out2) = dStep (xss.take k) y (d, out)) ∧ Hid (DMet xss i x d2 out2 j) ∧ Hid (out2[j]? = some (y : Int)) ∧
              Own wq W1.heap.size w1.heap.size 2 (some ⟨b1, 0, none⟩) i c1 (d2.map (Value.int .i64)) ∧ Que wq w1.heap.size A3 out2.length c3 (out2.map (Value.int .i64)) ∧ w1.heap.size ≤ wq.heap.size ∧ Below W1.heap.size W1 wq) (fun _ kv _ => n - (intOf kv).toNat)
          case atStart => exact ⟨0, d, out, _, c2, by omega, hln, rfl, rfl, Lib.hid rfl, hd, hy, ho, hop, hz, hb⟩
          case round =>
            clear ho hop hz hb hwo hcap hcm
            obtain ⟨k, d2, out2, A3, c3, hk, hln2, rfl, rfl, hds, hd2, hy2', ho, hop, hz, hb⟩ := hrel
            have hCk := (hb.cell (p := ⟨w.heap.size, 0, none⟩) (by simp; omega)).trans hC
            have hjl : j < out2.length := (List.getElem?_eq_some_iff.1 hy2'.out).1
            have hdl := hd2.out.dl
            have hyd2 := hd2.out.datn (mem_of_get? hy2'.out)
            by_cases hkm : k < n
            · obtain ⟨bb, oo, Ak, nk, ck, p, rfl, _, _, hp, hpc, hpr⟩ := (hR.below hb (by omega)).at_ hkm
              have hpm := mem_of_get? hp
              obtain ⟨hpr0, hpn, hpll⟩ := hs.out p hpm
              have hnk := hpr.len
              have hynk : y < nk := by omega
              obtain ⟨bp, oq, v, rfl, _, _, hv, hvc⟩ := hpr.at_ hynk
              have hva : at' p y = v := by unfold at'; rw [Int.toNat_natCast]; exact getD_some hv
              obtain ⟨hv0, hv1⟩ := hpr0 v (mem_of_get? hv)
              obtain ⟨v, rfl⟩ : ∃ q : Nat, v = q := ⟨v.toNat, by omega⟩
              have htk := take_succ_of hp
              have hcv := ho.cellI (dat_get hdl (show v < i by omega))
              have hcy := ho.cellI (dat_get hdl (show y < i by omega))
              have hfr := ho.frz v
              have hvr := hd2.out.datr hv0 hv1
              have hyd0 := hyd2.1
              have hyd1 := hyd2.2
              have hvN : v < i := by omega
              have hyN : y < i := by omega
              obtain ⟨g3, o3, rfl, hg3, hg4⟩ := hop.addr
              have hcap := hop.cap
              have hcm := hop.max
              have hoc := hop.cell (k := j) (v := .int .i64 (y : Int)) (by simp [hy2'.out])
              have hsp := dMove_spec (s := (d2, out2)) hs.out hd2.out hy2'.out hpm
              have hmv : dMove y (d2, out2) p = dStep (xss.take (k + 1)) y (d, out) := by rw [htk, dStep_snoc, ← hds.out]
              unfold dMove at hmv hsp
              rw [hva] at hmv hsp
              by_cases hneg : dat d2 v < 0
              · rw [if_pos hneg] at hmv hsp
                rw [Int.toNat_natCast] at hmv hsp
                have hmet2 := hsp.1
                have hget2 := hsp.2.1
                have hlen3 := hmet2.met.len
                rw [List.length_append, List.length_singleton] at hlen3
                have hdd : decide (dat d2 v < 0) = true := decide_eq_true hneg
                replace hmet2 := Lib.hid hmet2
                replace hget2 := Lib.hid hget2
                replace hmv := Lib.hid hmv
                replace hp := Lib.hid hp
                replace hv := Lib.hid hv
                replace htk := Lib.hid htk
                replace hva := Lib.hid hva
                replace hpr0 := Lib.hid hpr0
                replace hpll := Lib.hid hpll
                clear hsp hdl hyd2
                generalize dat d2 v = u at *
                generalize dat d2 y = u2 at *
                go_wp2_with fail
                go_quiet (fail)
                have hop' := (hop.drewN nq).far (p := ⟨b1, v, none⟩) hb12 (.int .i64 (u2 + 1))
                have hss : ((wr.drewN nq).setCell ⟨b1, v, none⟩ (.int .i64 (u2 + 1))).heap.size = wr.heap.size := World.size_setCell _ _ _
                replace hss := Lib.hid hss
                go_wp2_with (at_builtin; refine wpList_appendQ ((wr.drewN nq).setCell ⟨b1, v, none⟩ (.int .i64 (u2 + 1))) rfl (.tmp 66) (.tmp 68) 27 rfl w1.heap.size 2 j0 (.int .i64 0) 8 Try.underlying27 hj0 hy0 hy1 hy2 rfl (by omega) _ out2.length c3 _ (.int .i64 v) rfl hop' _ rfl (World.size_setCell _ _ _).symm rfl (by omega) (by rw [hss.out]; exact hz) ?_)
                intro A4 c4 w2 hop4 hbe
                have hb4 : Below W1.heap.size W1 w2 := ((below_dn hb nq).setCell (p := ⟨b1, v, none⟩) hb11 (.int .i64 (u2 + 1))).trans (hbe.mono (by omega))
                have ho4 : Own w2 W1.heap.size w1.heap.size 2 (some ⟨b1, 0, none⟩) i c1 ((d2.set v (u2 + 1)).map (Value.int .i64)) := (Own.setI (w := wr.drewN nq) (b := b1) (k := v) ho (u2 + 1)).below hbe (Nat.le_refl _)
                have hz4 : w1.heap.size ≤ w2.heap.size := by have := hbe.size; have := hss.out; omega
                clear ho hop hop' hb hpc hvc hcv hcy hfr hpr hbe hoc hCk
                go_wp2_with fail
                go_roundw
                case measure => simp [intOf]; omega
                case rel =>
                  exact ⟨k + 1, d2.set v (u2 + 1), out2 ++ [(v : Int)], A4, c4, by omega, by simp; omega, by rw [List.length_append]; rfl, by go_num, hmv, hmet2, hget2, ho4, by simpa using hop4, hz4, hb4⟩
              · rw [if_neg hneg] at hmv hsp
                have hdd : decide (dat d2 v < 0) = false := decide_eq_false hneg
                replace hmv := Lib.hid hmv
                replace hp := Lib.hid hp
                replace hv := Lib.hid hv
                replace htk := Lib.hid htk
                replace hva := Lib.hid hva
                replace hpr0 := Lib.hid hpr0
                replace hpll := Lib.hid hpll
                clear hsp hdl hyd2
                generalize dat d2 v = u at *
                generalize dat d2 y = u2 at *
                go_wp2_with fail
                go_quiet (fail)
                go_wp2_with fail
                go_roundw
                case measure => simp [intOf]; omega
                case rel => exact ⟨k + 1, d2, out2, _, c3, by omega, hln2, rfl, by go_num, hmv, hd2, hy2', ho, hop.drewN nq, hz, below_dn hb _⟩
            · have hkm' : k = n := by omega
              subst hkm'
              replace hdl := Lib.hid hdl
              replace hyd2 := Lib.hid hyd2
              have hds2 : (d2, out2) = dStep xss y (d, out) := by have := hds.out; rwa [List.take_of_length_le (by have := hl.out; omega)] at this
              have hnx : DMet xss i x d2 out2 (j + 1) := by
                have := dStep_next (s := (d, out)) hs.out hd.out hy.out
                rw [← hds2] at this
                exact this
              have hgo : dGo xss (i + 1 - (j + 1)) (d2, out2) (j + 1) = dGo xss (i + 1) (dstart i x) 0 := by
                have h1 := heq.out
                rw [show i + 1 - j = (i - j) + 1 by omega, dGo_step (s := (d, out)) hy.out, ← hds2] at h1
                rw [← h1, show i + 1 - (j + 1) = i - j by omega]
              replace hds2 := Lib.hid hds2
              replace hnx := Lib.hid hnx
              replace hgo := Lib.hid hgo
              go_wp2_with fail
              go_roundw
              case measure => simp [intOf]; omega
              case rel => exact ⟨j + 1, d2, out2, _, c3, by omega, hln2, rfl, by go_num, hgo, hnx, ho, hop, hz, hb⟩
        · go_wp2_with fail
          go_ret
          refine ⟨_, c1, rfl, ?_, hB.trans (hb.mono (by omega))⟩
          have h1 := heq.out
          rw [dGo_stop (by simp; omega)] at h1
          unfold dist
          rw [← h1]
          exact ho.more (by omega) hz
end Go.Proofs.Ytdaljeghdiknpaa
/- Col -/
namespace Go.Proofs.Ytdaljeghdiknpaa
open Go.RowKit
set_option linter.unusedVariables false
set_option maxRecDepth 100000
theorem always_any (x : Int) (w : World) : Calls Try.prog 138 #[.int .i64 x] w fun e w' => e = .returned (.bool true) ∧ w = w' := by
  go_enter Try.func138, Try.ntmps138
  go_wp2_with fail
  go_ret
  exact ⟨rfl, rfl⟩
set_option maxHeartbeats 4000000 in
theorem coloured_any (b : Nat) (A : Option Addr) (n c : Nat) (xss : List (List Int)) (w : World) (hc : w.cell? ⟨b, 0, none⟩ = some (.slice A n c)) (hbs : b < w.heap.size) {lo hi : Nat} (h : RS w lo hi A n xss) (hhi : hi ≤ w.heap.size) (hn : 0 < n) (N : Nat) (hN : flg xss = N) (h4 : N ≤ 400) (hs : SysOf xss N) (hx1 : 0 < N) (hcon : Conn xss N) :
    Calls Try.prog 137 #[.pointer (some ⟨b, 0, none⟩), .func (.func 138) #[] #[]] w fun e w' => ∃ A1, e = .returned (.tuple #[.slice A1 N N, .bool (colB xss N (dist xss N 0))]) ∧ Own w' w.heap.size w'.heap.size 2 A1 N N ((parL (dist xss N 0)).map (Value.int .i64)) ∧ Below w.heap.size w w' := by
  obtain ⟨j0, hj0, hy0, hy1, hy2⟩ := info_parts infoI
  have hm := h.max
  have hl := Lib.hid h.len
  have hst := DMet.start (n := N) (x := 0) (list := xss) (by omega) (by omega)
  have hcs := Col.start (n := N) (x := 0) (by omega) (by omega)
  replace hcs := Lib.hid hcs
  replace hcon := Lib.hid hcon
  obtain ⟨D, hD⟩ : ∃ D, D = dist xss N 0 := ⟨_, rfl⟩
  rw [← hD]
  replace hD := Lib.hid hD
  replace hst := Lib.hid hst
  replace hs := Lib.hid hs
  have hR := rs_alloc h hhi (.cells #[.int .i64 (-1)] 2)
  have hC : (w.alloc (.cells #[.int .i64 (-1)] 2)).cell? ⟨b, 0, none⟩ = some (.slice A n c) := (al_old _ _ _ _ hbs).trans hc
  go_enter Try.func137, Try.ntmps137
  go_wp2_with fail
  ((with_reducible refine (flags_any _ A n c xss _ hC hR hn).mono ?_); rintro e w' ⟨rfl, rfl⟩)
  rw [hN]
  go_wp2_with fail
  ((with_reducible refine (repeat_any _ _ N (-1) _ (ri_lit1 w _ _) (by simp) (by omega)).mono ?_); rintro e w1 ⟨A1, rfl, ho1, hb1⟩)
  have hB1 : Below w.heap.size w w1 := ((Below.refl _ _).alloc (Nat.le_refl _) _).trans (hb1.mono (by simp))
  replace ho1 := ho1.more (lo' := w.heap.size) (hi' := w1.heap.size) (by simp) (Nat.le_refl _)
  have hz1 := hB1.size
  clear hb1 hR hC
  obtain ⟨b1, x1, rfl, hb1, hb2, hb3, hxx, hcx, hfx⟩ := ho1.atI (k := 0) (by omega)
  clear hxx
  have hC1 := (hB1.cell (p := ⟨b, 0, none⟩) (by simp; omega)).trans hc
  go_wp2_with fail
  have hset := (ho1.setI (b := b1) (k := 0) 0).keep (same_alloc _ (.cells #[.int .i64 0] 2) _ _ (by simp))
  have hopen := Que.of_own (own_lit1 (w1.setCell ⟨b1, 0, none⟩ (.int .i64 0)) 2 0 (lo := w1.heap.size) (by simp))
  rw [World.size_setCell] at hopen
  have hbA : Below w.heap.size w ((w1.setCell ⟨b1, 0, none⟩ (.int .i64 0)).alloc (.cells #[.int .i64 0] 2)) := (hB1.setCell (by simp; omega) _).alloc (by simp; omega) _
  clear ho1 hB1 hcx hfx
  go_loopg [7, 8] (N + 2) (fun f okv ov wq => ∃ (i : Nat) (d cs pre q : List Int) (A2 : Option Addr) (c2 : Nat) (ob : Bool), okv = .bool ob ∧ ov = .slice A2 q.length c2 ∧ Hid (ob = pre.all (edgesB xss D)) ∧ Hid (Col N d cs) ∧ f + i = N + 2 ∧ pre.length = i ∧ q.length ≤ 400 ∧ Hid (dGo xss (N + 1 - i) (d, pre ++ q) i = dGo xss (N + 1) (dstart N 0) 0) ∧ Hid (DMet xss N 0 d (pre ++ q) i) ∧
      Own wq w.heap.size w1.heap.size 2 (some ⟨b1, 0, none⟩) N N (cs.map (Value.int .i64)) ∧ Que wq w1.heap.size A2 q.length c2 (q.map (Value.int .i64)) ∧ w1.heap.size ≤ wq.heap.size ∧ Below w.heap.size w wq)
  case atStart =>
    exact ⟨0, (dstart N 0).1, (dstart N 0).1, [], [0], _, 1, true, rfl, rfl, Lib.hid rfl, hcs, by omega, rfl, by simp, Lib.hid rfl, Lib.hid hst.out, by simpa [dstart] using hset, hopen, by simp, hbA⟩
  case round =>
    clear hset hopen hbA hst
    obtain ⟨i, d, cs, pre, q, A2, c2, ob, rfl, rfl, hob, hcol, hfn, hpl, hql, heq, hd, ho, hop, hz, hb⟩ := hrel
    have hlen := hd.out.met.len
    rw [List.length_append] at hlen
    obtain ⟨f, rfl⟩ : ∃ f, gk = f + 1 := ⟨gk - 1, by omega⟩
    rcases q with _ | ⟨y, q⟩
    · have hcq := hop.max
      go_wp2_with fail
      go_ret2
      have h1 := heq.out
      rw [dGo_stop (by simp; omega)] at h1
      have hdD : d = D := by rw [hD.out]; unfold dist; rw [← h1]
      subst hdD
      have hfin := dist_fin hs.out hcon.out (show (0 : Int) ≤ 0 by omega) (show (0 : Int) < N by omega)
      rw [← hD.out] at hfin
      have hmem : ∀ z : Int, 0 ≤ z → z < N → z ∈ pre ++ [] := fun z z0 z1 => (hd.out.pos z z0 z1).1 (hfin.rng z z0 z1).1
      rw [← hcol.out.end_ (fun z z0 z1 => (hfin.rng z z0 z1).1)]
      have hob2 : ob = colB xss N d := by rw [hob.out]; unfold colB; rw [← all_out hd.out.met (met_full hmem) (edgesB xss d)]; simp
      rw [← hob2]
      exact ⟨_, rfl, ho.more (Nat.le_refl _) hz, hb⟩
    · have hiN : (pre ++ y :: q)[i]? = some y := by rw [List.getElem?_append_right (by omega), show i - pre.length = 0 by omega]; rfl
      have hyr := hd.out.met.rng y (mem_of_get? hiN)
      have hyd := hd.out.datn (mem_of_get? hiN)
      obtain ⟨y, rfl⟩ : ∃ q : Nat, y = q := ⟨y.toNat, by omega⟩
      obtain ⟨g2, o2, rfl, hg2, hg3⟩ := hop.addr
      have hgc := hop.cell (k := 0) (v := .int .i64 (y : Int)) rfl
      rw [Nat.add_zero] at hgc
      rw [List.length_cons] at hop hql ⊢
      have hcap := hop.cap
      have hcm := hop.max
      have hCk := (hb.cell (p := ⟨b, 0, none⟩) (by simp; omega)).trans hc
      replace hiN := Lib.hid hiN
      replace hyd := Lib.hid hyd
      go_wp2_with fail
      obtain ⟨wo, hwo⟩ : ∃ wo : World, wo = wr := ⟨_, rfl⟩
      go_loopw [7, 8, 34] (fun okv ov kv wq => ∃ (k : Nat) (d2 cs2 q2 : List Int) (A3 : Option Addr) (c3 : Nat) (ob2 : Bool), okv = .bool ob2 ∧ Hid (ob2 = (pre.all (edgesB xss D) && (xss.take k).all (edgeB D y))) ∧ Hid (Col N d2 cs2) ∧ k ≤ n ∧ kv = .int .i64 k ∧ ov = .slice A3 (q2.length + 1) c3 ∧ q2.length ≤ 400 ∧ Hid ((d2, pre ++ (y : Int) :: q2) = dStep (xss.take k) y (d, pre ++ (y : Int) :: q)) ∧ Hid (DMet xss N 0 d2 (pre ++ (y : Int) :: q2) i) ∧
          Own wq w.heap.size w1.heap.size 2 (some ⟨b1, 0, none⟩) N N (cs2.map (Value.int .i64)) ∧ Que wq w1.heap.size A3 (q2.length + 1) c3 (((y : Int) :: q2).map (Value.int .i64)) ∧ w1.heap.size ≤ wq.heap.size ∧ Below w.heap.size w wq) (fun _ _ kv _ => n - (intOf kv).toNat)
      case atStart => exact ⟨0, d, cs, q, _, c2, ob, rfl, Lib.hid (by simpa using hob.out), hcol, by omega, rfl, rfl, by omega, Lib.hid rfl, hd, ho, hop, hz, hb⟩
      case round =>
        clear ho hop hz hb hgc hwo hcap hcm hCk
        obtain ⟨k, d2, cs2, q2, A3, c3, ob2, rfl, hob2, hcol2, hk, rfl, rfl, hq2, hds, hd2, ho, hop, hz, hb⟩ := hrel
        have hiN2 : (pre ++ (y : Int) :: q2)[i]? = some (y : Int) := by rw [List.getElem?_append_right (by omega), show i - pre.length = 0 by omega]; rfl
        have hlen2 := hd2.out.met.len
        rw [List.length_append, List.length_cons] at hlen2
        have hdl := hd2.out.dl
        have hyd2 := hd2.out.datn (mem_of_get? hiN2)
        by_cases hkm : k < n
        · obtain ⟨bb, oo, Ak, nk, ck, p, rfl, _, _, hp, hpc, hpr⟩ := (h.below hb hhi).at_ hkm
          have hpm := mem_of_get? hp
          obtain ⟨hpr0, hpn, hpll⟩ := hs.out p hpm
          have hnk := hpr.len
          have hynk : y < nk := by omega
          obtain ⟨bp, oq, v, rfl, _, _, hv, hvc⟩ := hpr.at_ hynk
          have hva : at' p y = v := by unfold at'; rw [Int.toNat_natCast]; exact getD_some hv
          obtain ⟨hv0, hv1⟩ := hpr0 v (mem_of_get? hv)
          obtain ⟨v, rfl⟩ : ∃ q : Nat, v = q := ⟨v.toNat, by omega⟩
          have htk := take_succ_of hp
          have hcl := hcol2.out.2.1
          have hcv := ho.cellI (dat_get hcl (show v < N by omega))
          have hcy := ho.cellI (dat_get hcl (show y < N by omega))
          have hfr := ho.frz v
          have hyd0 := hyd2.1
          have hvN : v < N := by omega
          have hyN : y < N := by omega
          have hcyv := hcol2.out.val (z := (y : Int)) (by omega) (by omega) hyd0
          have hcvn := hcol2.out.neg (z := (v : Int)) (by omega) (by omega)
          have hsp := dMove_spec (s := (d2, pre ++ (y : Int) :: q2)) hs.out hd2.out hiN2 hpm
          have hmv : dMove y (d2, pre ++ (y : Int) :: q2) p = dStep (xss.take (k + 1)) y (d, pre ++ (y : Int) :: q) := by rw [htk, dStep_snoc, ← hds.out]
          have hDk : ∀ z ∈ (dMove y (d2, pre ++ (y : Int) :: q2) p).2, dat D z = dat (dMove y (d2, pre ++ (y : Int) :: q2) p).1 z := by
            intro z hz'
            rw [hmv] at hz' ⊢
            have := final_keep (f := N - i) (s := (d, pre ++ (y : Int) :: q)) hs.out hd.out hiN.out hz'
            rw [show N - i + 1 = N + 1 - i by omega, heq.out] at this
            rw [hD.out]
            exact this
          have hes := edges_snoc hp hob2.out
          have hu0 : 0 ≤ dat cs2 y ∧ dat cs2 y ≤ 1 := by rw [hcyv]; omega
          by_cases hneg : dat d2 v < 0
          · have hed := edge_new (p := p) hs.out hd2.out hiN2 hpm (by rw [hva]; exact hneg) hDk
            rw [hed, Bool.and_true] at hes
            have hco := hcol2.out.set (g := (v : Int)) (y := (y : Int)) (by omega) (by omega) (by omega) (by omega) hyd0
            unfold dMove at hmv hsp
            rw [hva] at hmv hsp
            rw [if_pos hneg] at hmv hsp
            have e2 : pre ++ (y : Int) :: q2 ++ [(v : Int)] = pre ++ (y : Int) :: (q2 ++ [(v : Int)]) := by simp
            rw [Int.toNat_natCast, e2] at hmv hsp
            rw [Int.toNat_natCast] at hco
            have hmet2 := hsp.1
            have hlen3 := hmet2.met.len
            rw [List.length_append, List.length_cons, List.length_append, List.length_singleton] at hlen3
            have hdd : decide (dat cs2 v < 0) = true := decide_eq_true (hcvn.2 hneg)
            replace hes := Lib.hid hes
            replace hco := Lib.hid hco
            replace hed := Lib.hid hed
            replace hDk := Lib.hid hDk
            replace hmet2 := Lib.hid hmet2
            replace hmv := Lib.hid hmv
            replace hp := Lib.hid hp
            replace hv := Lib.hid hv
            replace htk := Lib.hid htk
            replace hva := Lib.hid hva
            replace hpr0 := Lib.hid hpr0
            replace hpll := Lib.hid hpll
            replace hiN2 := Lib.hid hiN2
            clear hsp e2 hdl hyd2 hcl hcvn hcyv hneg hyd0
            generalize dat cs2 v = u at *
            generalize dat cs2 y = u2 at *
            have hop' := hop.far (p := ⟨b1, v, none⟩) hb2 (.int .i64 (1 - u2))
            have hss : (wr.setCell ⟨b1, v, none⟩ (.int .i64 (1 - u2))).heap.size = wr.heap.size := World.size_setCell _ _ _
            replace hss := Lib.hid hss
            go_wp2_with fail
            ((with_reducible refine (always_any _ _).mono ?_); rintro e w' ⟨rfl, rfl⟩)
            go_wp2_with (at_builtin; refine wpList_appendQ (wr.setCell ⟨b1, v, none⟩ (.int .i64 (1 - u2))) rfl (.tmp 62) (.tmp 64) 27 rfl w1.heap.size 2 j0 (.int .i64 0) 8 Try.underlying27 hj0 hy0 hy1 hy2 rfl (by omega) A3 (q2.length + 1) c3 _ (.int .i64 v) rfl hop' _ rfl (World.size_setCell _ _ _).symm rfl (by omega) (by rw [hss.out]; exact hz) ?_)
            intro A4 c4 w2 hop4 hbe
            have hb4 : Below w.heap.size w w2 := (hb.setCell (p := ⟨b1, v, none⟩) hb1 (.int .i64 (1 - u2))).trans (hbe.mono hz1)
            have ho4 := (ho.setI (b := b1) (k := v) (1 - u2)).below hbe (Nat.le_refl _)
            have hz4 : w1.heap.size ≤ w2.heap.size := by have := hbe.size; have := hss.out; omega
            clear ho hop hop' hb hpc hvc hcv hcy hfr hpr hbe
            go_wp2_with fail
            go_roundw
            case measure => simp [intOf]; omega
            case rel =>
              exact ⟨k + 1, d2.set v (dat d2 y + 1), cs2.set v (1 - u2), q2 ++ [(v : Int)], A4, c4, ob2, rfl, hes, hco, by omega, by go_num, by rw [List.length_append]; rfl, by simp; omega, hmv, hmet2, ho4, by simpa using hop4, hz4, hb4⟩
          · have hed := edge_old (p := p) hs.out hd2.out hiN2 hpm (by rw [hva]; exact hneg) hDk
            rw [hva] at hed
            have hcvv := hcol2.out.val (z := (v : Int)) (by omega) (by omega) (by omega)
            rw [← hcvv, ← hcyv] at hed
            have hv01 : 0 ≤ dat cs2 v ∧ dat cs2 v ≤ 1 := by rw [hcvv]; omega
            have hdd : decide (dat cs2 v < 0) = false := decide_eq_false (by omega)
            unfold dMove at hmv
            rw [hva] at hmv
            rw [if_neg hneg] at hmv
            by_cases hne : dat cs2 v = dat cs2 y
            · have hed2 : edgeB D y p = false := by rw [hed]; exact decide_eq_false (fun hh => hh hne)
              rw [hed2, Bool.and_false] at hes
              have hbn : (dat cs2 v != 1 - dat cs2 y) = true := by simp; omega
              have hbd : decide (dat cs2 v = 1 - dat cs2 y) = false := decide_eq_false (by omega)
              replace hes := Lib.hid hes
              replace hed := Lib.hid hed
              replace hed2 := Lib.hid hed2
              replace hDk := Lib.hid hDk
              replace hmv := Lib.hid hmv
              replace hp := Lib.hid hp
              replace hv := Lib.hid hv
              replace htk := Lib.hid htk
              replace hva := Lib.hid hva
              replace hpr0 := Lib.hid hpr0
              replace hpll := Lib.hid hpll
              replace hiN2 := Lib.hid hiN2
              replace hne := Lib.hid hne
              clear hsp hdl hyd2 hcl hcvn hcyv hneg hyd0 hcvv
              generalize dat cs2 v = u at *
              generalize dat cs2 y = u2 at *
              go_wp2_with fail
              ((with_reducible refine (always_any _ _).mono ?_); rintro e w' ⟨rfl, rfl⟩)
              go_wp2_with fail
              go_roundw
              case measure => simp [intOf]; omega
              case rel => exact ⟨k + 1, d2, cs2, q2, A3, c3, false, rfl, hes, hcol2, by omega, by go_num, rfl, hq2, hmv, hd2, ho, hop, hz, hb⟩
            · have hed2 : edgeB D y p = true := by rw [hed]; exact decide_eq_true hne
              rw [hed2, Bool.and_true] at hes
              have hbn : (dat cs2 v != 1 - dat cs2 y) = false := by simp; omega
              have hbd : decide (dat cs2 v = 1 - dat cs2 y) = true := decide_eq_true (by omega)
              replace hes := Lib.hid hes
              replace hed := Lib.hid hed
              replace hed2 := Lib.hid hed2
              replace hDk := Lib.hid hDk
              replace hmv := Lib.hid hmv
              replace hp := Lib.hid hp
              replace hv := Lib.hid hv
              replace htk := Lib.hid htk
              replace hva := Lib.hid hva
              replace hpr0 := Lib.hid hpr0
              replace hpll := Lib.hid hpll
              replace hiN2 := Lib.hid hiN2
              replace hne := Lib.hid hne
              clear hsp hdl hyd2 hcl hcvn hcyv hneg hyd0 hcvv
              generalize dat cs2 v = u at *
              generalize dat cs2 y = u2 at *
              go_wp2_with fail
              ((with_reducible refine (always_any _ _).mono ?_); rintro e w' ⟨rfl, rfl⟩)
              go_wp2_with fail
              go_roundw
              case measure => simp [intOf]; omega
              case rel => exact ⟨k + 1, d2, cs2, q2, A3, c3, ob2, rfl, hes, hcol2, by omega, by go_num, rfl, hq2, hmv, hd2, ho, hop, hz, hb⟩
        · have hkm' : k = n := by omega
          subst hkm'
          obtain ⟨g4, o4, rfl, hg4, hg5⟩ := hop.addr
          have hcap := hop.cap
          have hcm := hop.max
          replace hiN2 := Lib.hid hiN2
          replace hdl := Lib.hid hdl
          replace hyd2 := Lib.hid hyd2
          have hds2 : (d2, pre ++ (y : Int) :: q2) = dStep xss y (d, pre ++ (y : Int) :: q) := by have := hds.out; rwa [List.take_of_length_le (by have := hl.out; omega)] at this
          have hnx : DMet xss N 0 d2 (pre ++ (y : Int) :: q2) (i + 1) := by
            have := dStep_next (s := (d, pre ++ (y : Int) :: q)) hs.out hd.out hiN.out
            rw [← hds2] at this
            exact this
          have hgo : dGo xss (N + 1 - (i + 1)) (d2, pre ++ (y : Int) :: q2) (i + 1) = dGo xss (N + 1) (dstart N 0) 0 := by
            have h1 := heq.out
            rw [show N + 1 - i = (N - i) + 1 by omega, dGo_step (s := (d, pre ++ (y : Int) :: q)) hiN.out, ← hds2] at h1
            rw [← h1, show N + 1 - (i + 1) = N - i by omega]
          have hob3 : ob2 = (pre ++ [(y : Int)]).all (edgesB xss D) := edges_next (by have := hob2.out; rwa [List.take_of_length_le (by have := hl.out; omega)] at this)
          replace hob3 := Lib.hid hob3
          have e3 : pre ++ (y : Int) :: q2 = (pre ++ [(y : Int)]) ++ q2 := by simp
          rw [e3] at hnx hgo
          replace hds2 := Lib.hid hds2
          replace hnx := Lib.hid hnx
          replace hgo := Lib.hid hgo
          replace e3 := Lib.hid e3
          by_cases hc1 : c3 = 1
          · go_wp2_with fail
            go_roundg f
            case measure => omega
            case rel => exact ⟨i + 1, d2, cs2, pre ++ [(y : Int)], q2, _, c3 - 1, ob2, rfl, by rw [hc1], hob3, hcol2, by omega, by simp; omega, by omega, hgo, hnx, ho, hop.pop (.inr ⟨hc1, rfl⟩), hz, hb⟩
          · go_wp2_with fail
            go_roundg f
            case measure => omega
            case rel => exact ⟨i + 1, d2, cs2, pre ++ [(y : Int)], q2, _, c3 - 1, ob2, rfl, rfl, hob3, hcol2, by omega, by simp; omega, by omega, hgo, hnx, ho, hop.pop (.inl rfl), hz, hb⟩
theorem colB_false {xss : List (List Int)} {n f : Nat} {D p : List Int} (hf : f < n) (hp : p ∈ xss) (h : edgeB D (f : Int) p = false) : colB xss n D = false := by
  cases hq : colB xss n D with
  | false => rfl
  | true =>
    have h1 := List.all_eq_true.1 hq f (by simpa using hf)
    have h2 := List.all_eq_true.1 h1 p hp
    rw [h] at h2
    cases h2
theorem parL_of {D ds : List Int} {n : Nat} (hD : D.length = n) (hl : ds.length = n) (h : ∀ z : Nat, z < n → ds[z]? = some (dat D (z : Int) % 2)) : ds = parL D := by
  unfold parL
  refine List.ext_getElem? fun k => ?_
  by_cases hk : k < n
  · rw [h k hk, List.getElem?_map, get?_getD (xs := D) 0 (by omega)]
    unfold dat
    rw [Int.toNat_natCast]
    rfl
  · rw [List.getElem?_eq_none (by omega), List.getElem?_eq_none (by simp; omega)]
set_option maxHeartbeats 4000000 in
theorem l02Colours_any (A : Option Addr) (n c : Nat) (xss : List (List Int)) (w : World) {lo hi : Nat} (h : RS w lo hi A n xss) (hhi : hi ≤ w.heap.size) (hn : 0 < n) (N : Nat) (hN : flg xss = N) (h4 : N ≤ 400) (hs : SysOf xss N) (hx1 : 0 < N) (hcon : Conn xss N) :
    Calls Try.prog 78 #[.agg #[.slice A n c]] w fun e w' => ∃ (A1 : Option Addr) (n1 c1 : Nat) (zs : List Int), e = .returned (.tuple #[.slice A1 n1 c1, .bool (colB xss N (dist xss N 0))]) ∧ Hid (zs = colZ xss N (dist xss N 0)) ∧ Own w' w.heap.size w'.heap.size 2 A1 n1 c1 (zs.map (Value.int .i64)) ∧ n1 ≤ 1048576 ∧ Below w.heap.size w w' := by
  have hm := h.max
  have hl := Lib.hid h.len
  have hfin := dist_fin hs hcon (show (0 : Int) ≤ 0 by omega) (show (0 : Int) < N by omega)
  have hdist := fun w1 R1 hh => l02Distances_any A n c xss 0 (lo := lo) (hi := hi) w1 R1 hh hn N hN h4 hs (by omega) (by omega)
  replace hs := Lib.hid hs
  have hR := rs_alloc h hhi (.cells #[.slice A n c] 40)
  have hC : (w.alloc (.cells #[.slice A n c] 40)).cell? ⟨w.heap.size, 0, none⟩ = some (.slice A n c) := al_new _ _ _ _ rfl
  have hB : Below w.heap.size w (w.alloc (.cells #[.slice A n c] 40)) := (Below.refl _ _).alloc (Nat.le_refl _) _
  obtain ⟨D, hD⟩ : ∃ D, dist xss N 0 = D := ⟨_, rfl⟩
  rw [hD] at hdist hfin ⊢
  clear hD hcon
  have hDl := hfin.dl
  replace hfin := Lib.hid hfin
  replace hdist := Lib.hid hdist
  replace hDl := Lib.hid hDl
  go_enter Try.func78, Try.ntmps78
  go_wp2_with fail
  obtain ⟨W1, hW⟩ : ∃ W1 : World, w.alloc (.cells #[.slice A n c] 40) = W1 := ⟨_, rfl⟩
  have hzW : W1.heap.size = w.heap.size + 1 := by rw [← hW]; simp
  rw [hW] at hR hC hB ⊢
  clear hW
  ((with_reducible refine (hdist.out W1 hR (by omega)).mono ?_); rintro e w2 ⟨A2, c2, rfl, o2, f2⟩)
  have y2 := f2.size
  have B2 : Below W1.heap.size W1 w2 := f2
  clear f2 hdist
  go_wp2_with fail
  go_loopw [5] (fun kv wq => ∃ (f : Nat) (ds : List Int), f ≤ N ∧ kv = .int .i64 f ∧ Hid (ds.length = N) ∧ Hid (∀ z : Nat, z < N → ds[z]? = some (if z < f then dat D (z : Int) % 2 else dat D (z : Int))) ∧ Own wq W1.heap.size w2.heap.size 2 A2 N c2 (ds.map (Value.int .i64)) ∧ w2.heap.size ≤ wq.heap.size ∧ Below W1.heap.size W1 wq) (fun kv _ => N - (intOf kv).toNat)
  case atStart => exact ⟨0, D, by omega, rfl, hDl, Lib.hid (fun z hz => by rw [if_neg (by omega)]; exact dat_get hDl.out hz), o2, Nat.le_refl _, B2⟩
  case round =>
    clear o2 B2
    obtain ⟨f, ds, hf, rfl, hdl, hds, ho, hz, hb⟩ := hrel
    by_cases hlt : f < N
    · obtain ⟨b2, u, rfl, hb21, hb22, hb23, hu, hcu, hfu⟩ := ho.atI hlt
      have hu2 : u = dat D (f : Int) := by
        have := hds.out f hlt
        rw [if_neg (by omega), hu] at this
        exact Option.some.inj this
      obtain ⟨hu0, hu1⟩ := hfin.out.rng (f : Int) (by omega) (by omega)
      rw [← hu2] at hu0 hu1
      have hrm : Int.tmod u 2 = u % 2 := Int.tmod_eq_emod_of_nonneg hu0
      have hr2 : 0 ≤ u % 2 ∧ u % 2 < 2 := by omega
      have hfrz := hfu f
      replace hu := Lib.hid hu
      replace hu2 := Lib.hid hu2
      go_wp2_with fail
      go_roundw
      case measure => simp [intOf]; omega
      case rel =>
        refine ⟨f + 1, ds.set f (u % 2), by omega, by go_num, Lib.hid (by simp [hdl.out]), Lib.hid fun z hzN => ?_, ?_, by simp; omega, ?_⟩
        · by_cases e : z = f
          · subst e
            rw [if_pos (by omega), ← hu2.out]
            simp [hdl.out, hlt]
          · rw [List.getElem?_set_ne (by omega), hds.out z hzN]
            congr 1
            by_cases e2 : z < f
            · rw [if_pos e2, if_pos (by omega)]
            · rw [if_neg e2, if_neg (by omega)]
        · have := ho.setI (b := b2) (k := f) (u % 2)
          first
            | exact this
            | (rw [hrm]; exact this)
            | (simpa [hrm] using this)
        · first
            | exact hb.setCell (p := ⟨b2, f, none⟩) hb21 _
            | (simpa using hb.setCell (p := ⟨b2, f, none⟩) hb21 _)
    · have hfN : f = N := by omega
      subst hfN
      have hpar : ds = parL D := parL_of hDl.out hdl.out (fun z hz' => by rw [hds.out z hz', if_pos hz'])
      have hval : ∀ z : Nat, z < f → ds[z]? = some (dat D (z : Int) % 2) := fun z hz' => by rw [hds.out z hz', if_pos hz']
      replace hval := Lib.hid hval
      replace hpar := Lib.hid hpar
      clear hds
      go_wp2_with fail
      go_loopw [6] (fun kv wq => ∃ (g : Nat), g ≤ f ∧ kv = .int .i64 g ∧ Hid ((List.range g).all (fun (y : Nat) => edgesB xss D (y : Int)) = true) ∧ Own wq W1.heap.size w2.heap.size 2 A2 f c2 (ds.map (Value.int .i64)) ∧ w2.heap.size ≤ wq.heap.size ∧ Below W1.heap.size W1 wq) (fun kv _ => f - (intOf kv).toNat)
      case atStart => exact ⟨0, by omega, rfl, Lib.hid (by simp), ho, hz, hb⟩
      case round =>
        clear ho hz hb
        obtain ⟨g, hg, rfl, hall, ho, hz, hb⟩ := hrel
        by_cases hlt2 : g < f
        · go_wp2_with fail
          go_loopw [7] (fun kv wq => ∃ (k : Nat), k ≤ n ∧ kv = .int .i64 k ∧ Hid ((xss.take k).all (edgeB D (g : Int)) = true) ∧ Own wq W1.heap.size w2.heap.size 2 A2 f c2 (ds.map (Value.int .i64)) ∧ w2.heap.size ≤ wq.heap.size ∧ Below W1.heap.size W1 wq) (fun kv _ => n - (intOf kv).toNat)
          case atStart => exact ⟨0, by omega, rfl, Lib.hid (by simp), ho, hz, hb⟩
          case round =>
            clear ho hz hb
            obtain ⟨k, hk, rfl, hka, ho, hz, hb⟩ := hrel
            have hCk := (hb.cell (p := ⟨w.heap.size, 0, none⟩) (by simp; omega)).trans hC
            by_cases hkn : k < n
            · obtain ⟨bb, oo, Ak, nk, ck, p, rfl, _, _, hp, hpc, hpr⟩ := (hR.below hb (by omega)).at_ hkn
              have hpm := mem_of_get? hp
              obtain ⟨hpr0, hpn, hpll⟩ := hs.out p hpm
              have hnk := hpr.len
              have hgnk : g < nk := by omega
              obtain ⟨bp, oq, v, rfl, _, _, hv, hvc⟩ := hpr.at_ hgnk
              have hva : at' p g = v := by unfold at'; rw [Int.toNat_natCast]; exact getD_some hv
              obtain ⟨hv0, hv1⟩ := hpr0 v (mem_of_get? hv)
              obtain ⟨v, rfl⟩ : ∃ q : Nat, v = q := ⟨v.toNat, by omega⟩
              have hvN : v < f := by omega
              obtain ⟨b2, u, rfl, _, _, _, hu, hcu, _⟩ := ho.atI hlt2
              have hcv := ho.cellI (hval.out v hvN)
              have hu2 : u = dat D (g : Int) % 2 := by
                have := hval.out g hlt2
                rw [hu] at this
                exact Option.some.inj this
              have hed : edgeB D (g : Int) p = decide (dat D (v : Int) % 2 ≠ u) := by unfold edgeB; rw [hva, hu2]
              have hts := all_take_succ (f := edgeB D (g : Int)) hp
              replace hu := Lib.hid hu
              replace hu2 := Lib.hid hu2
              replace hp := Lib.hid hp
              replace hv := Lib.hid hv
              replace hva := Lib.hid hva
              replace hpr0 := Lib.hid hpr0
              replace hpll := Lib.hid hpll
              generalize dat D (v : Int) % 2 = u2 at *
              by_cases heq : u2 = u
              · have hed2 : edgeB D (g : Int) p = false := by rw [hed]; exact decide_eq_false (fun hh => hh heq)
                have hcb := colB_false hlt2 hpm hed2
                have hbq : (u2 == u) = true := by simpa using heq
                replace hcb := Lib.hid hcb
                replace hed2 := Lib.hid hed2
                replace hed := Lib.hid hed
                replace hts := Lib.hid hts
                replace heq := Lib.hid heq
                go_wp2_with fail
                go_quiet (fail)
                go_wp2_with fail
                go_ret2
                refine ⟨none, 0, 0, [], ?_, Lib.hid (by unfold colZ; rw [hcb.out]; rfl), Own.nil, by omega, hB.trans ((below_dn hb _).mono (by omega))⟩
                first
                  | rfl
                  | (rw [hcb.out]; first | done | rfl)
              · have hed2 : edgeB D (g : Int) p = true := by rw [hed]; exact decide_eq_true heq
                rw [hed2, Bool.and_true, hka.out] at hts
                have hbq : (u2 == u) = false := by simpa using heq
                replace hed2 := Lib.hid hed2
                replace hed := Lib.hid hed
                replace hts := Lib.hid hts
                replace heq := Lib.hid heq
                go_wp2_with fail
                go_quiet (fail)
                go_wp2_with fail
                go_roundw
                case measure => simp [intOf]; omega
                case rel => exact ⟨k + 1, by omega, by go_num, hts, ho, hz, below_dn hb _⟩
            · have hkn' : k = n := by omega
              subst hkn'
              have hes : edgesB xss D (g : Int) = true := by have := hka.out; rwa [List.take_of_length_le (by have := hl.out; omega)] at this
              have hr := all_range_succ hall.out hes
              replace hes := Lib.hid hes
              replace hr := Lib.hid hr
              go_wp2_with fail
              go_roundw
              case measure => simp [intOf]; omega
              case rel => exact ⟨g + 1, by omega, by go_num, hr, ho, hz, hb⟩
        · have hgf : g = f := by omega
          subst hgf
          have hcb : colB xss g D = true := hall.out
          replace hcb := Lib.hid hcb
          go_wp2_with fail
          go_ret2
          refine ⟨A2, g, c2, ds, ?_, Lib.hid (by unfold colZ; rw [hcb.out]; exact hpar.out), ho.more (by omega) hz, by omega, hB.trans (hb.mono (by omega))⟩
          first
            | rfl
            | (rw [hcb.out]; first | done | rfl)
end Go.Proofs.Ytdaljeghdiknpaa
/- ColX -/
namespace Go.Proofs.Ytdaljeghdiknpaa
open Go.RowKit
set_option linter.unusedVariables false
set_option maxRecDepth 100000
/-- what IsOrientable returns -/
noncomputable def oriF (xss : List (List Int)) : Bool × Int := if isManB xss = true then (colB xss (flg xss) (dist xss (flg xss) 0), 0) else (false, 1)
/-- what ColouringOf returns -/
noncomputable def colF (xss : List (List Int)) : List Int × Int := if isManB xss = true then (if colB xss (flg xss) (dist xss (flg xss) 0) = true then (parL (dist xss (flg xss) 0), 0) else ([], 5)) else ([], 1)
theorem colouring_any (b : Nat) (A : Option Addr) (n c : Nat) (xss : List (List Int)) (w : World) (hc : w.cell? ⟨b, 0, none⟩ = some (.slice A n c)) (hbs : b < w.heap.size) {lo hi : Nat} (h : RS w lo hi A n xss) (hhi : hi ≤ w.heap.size) (hn : 0 < n) (N : Nat) (hN : flg xss = N) (h4 : N ≤ 400) (hs : SysOf xss N) (hx1 : 0 < N) (hcon : Conn xss N) :
    Calls Try.prog 76 #[.pointer (some ⟨b, 0, none⟩)] w fun e w' => ∃ A1, e = .returned (.tuple #[.slice A1 N N, .bool (colB xss N (dist xss N 0))]) ∧ Own w' w.heap.size w'.heap.size 2 A1 N N ((parL (dist xss N 0)).map (Value.int .i64)) ∧ Below w.heap.size w w' := by
  have hcal := coloured_any b A n c xss w hc hbs h hhi hn N hN h4 hs hx1 hcon
  clear hs hcon
  go_enter Try.func76, Try.ntmps76
  go_wp2_with fail
  ((with_reducible refine hcal.mono ?_); rintro e w9 ⟨A9, rfl, o9, f9⟩)
  go_wp2_with fail
  go_ret2
  exact ⟨A9, rfl, o9, f9⟩
set_option maxHeartbeats 4000000 in
theorem i_IsOrientable_any (w : World) (A : Option Addr) (n c : Nat) (xss : List (List Int)) {lo hi : Nat} (h : RS w lo hi A n xss) (hhi : hi ≤ w.heap.size) (hnc : n ≤ c) :
    Calls Try.prog 24 #[.agg #[.slice A n c]] w fun e w' => ∃ (y : Bool) (code : Int), e = .returned (.tuple #[.bool y, .int .i64 code]) ∧ Hid ((y, code) = oriF xss) ∧ Below w.heap.size w w' := by
  have hm := h.max
  have hl := h.len
  have hR := rs_alloc h hhi (.cells #[.slice A n c] 40)
  have hC : (w.alloc (.cells #[.slice A n c] 40)).cell? ⟨w.heap.size, 0, none⟩ = some (.slice A n c) := al_new _ _ _ _ rfl
  have hB : Below w.heap.size w (w.alloc (.cells #[.slice A n c] 40)) := (Below.refl _ _).alloc (Nat.le_refl _) _
  cases hM : isManB xss with
  | false =>
    have hF : oriF xss = (false, 1) := by unfold oriF; rw [hM]; rfl
    replace hF := Lib.hid hF
    replace hM := Lib.hid hM
    replace hl := Lib.hid hl
    go_enter Try.func24, Try.ntmps24
    go_wp2_with fail
    obtain ⟨W1, hW⟩ : ∃ W1 : World, w.alloc (.cells #[.slice A n c] 40) = W1 := ⟨_, rfl⟩
    have hz1 : W1.heap.size = w.heap.size + 1 := by rw [← hW]; simp
    rw [hW] at hR hC hB ⊢
    clear hW h 
    ((with_reducible refine (isMan_any A n c xss _ hR (by omega) hnc).mono ?_); rintro e w2 ⟨rfl, f2⟩)
    rw [hM.out]
    have y2 := f2.size
    have B2 : Below W1.heap.size W1 w2 := f2
    have C2 := (f2.cell (p := ⟨w.heap.size, 0, none⟩) (by simp; omega)).trans hC
    have R2 := hR.below f2 (by omega)
    go_wp2_with fail
    go_ret2
    exact ⟨_, _, rfl, Lib.hid hF.out.symm, hB.trans (B2.mono (by omega))⟩
  | true =>
    have hP := isManB_iff.1 hM
    have hn1 : 1 ≤ n := by have := hP.r1; omega
    have hn5 : n ≤ 5 := by have := hP.r5; omega
    have hf2 := hP.f2
    have hf4 := hP.f4
    have hS := hP.sys
    replace hP := Lib.hid hP
    replace hS := Lib.hid hS
    have hF : oriF xss = (colB xss (flg xss) (dist xss (flg xss) 0), 0) := by unfold oriF; rw [if_pos hM]
    replace hF := Lib.hid hF
    replace hM := Lib.hid hM
    replace hl := Lib.hid hl
    go_enter Try.func24, Try.ntmps24
    go_wp2_with fail
    obtain ⟨W1, hW⟩ : ∃ W1 : World, w.alloc (.cells #[.slice A n c] 40) = W1 := ⟨_, rfl⟩
    have hz1 : W1.heap.size = w.heap.size + 1 := by rw [← hW]; simp
    rw [hW] at hR hC hB ⊢
    clear hW h 
    ((with_reducible refine (isMan_any A n c xss _ hR (by omega) hnc).mono ?_); rintro e w2 ⟨rfl, f2⟩)
    rw [hM.out]
    have y2 := f2.size
    have B2 : Below W1.heap.size W1 w2 := f2
    have C2 := (f2.cell (p := ⟨w.heap.size, 0, none⟩) (by simp; omega)).trans hC
    have R2 := hR.below f2 (by omega)
    go_wp2_with fail
    ((with_reducible refine (colouring_any _ A n c xss _ C2 (by omega) R2 (by omega) (by omega) _ rfl hf4 hS.out (by omega) hP.out.conn).mono ?_); rintro e w9 ⟨A9, rfl, o9, f9⟩)
    have B9 : Below W1.heap.size W1 w9 := below_then B2 f9 (by omega)
    go_wp2_with fail
    go_ret2
    exact ⟨_, _, rfl, Lib.hid hF.out.symm, hB.trans (B9.mono (by omega))⟩
set_option maxHeartbeats 4000000 in
theorem s_ColouringOf_any (w : World) (A : Option Addr) (n c : Nat) (xss : List (List Int)) {lo hi : Nat} (h : RS w lo hi A n xss) (hhi : hi ≤ w.heap.size) (hnc : n ≤ c) :
    Calls Try.prog 23 #[.agg #[.slice A n c]] w fun e w' => ∃ (A1 : Option Addr) (n1 c1 : Nat) (zs : List Int) (code : Int), e = .returned (.tuple #[.slice A1 n1 c1, .int .i64 code]) ∧ Hid ((zs, code) = colF xss) ∧ Own w' w.heap.size w'.heap.size 2 A1 n1 c1 (zs.map (Value.int .i64)) ∧ n1 ≤ 1048576 ∧ Below w.heap.size w w' := by
  have hm := h.max
  have hl := h.len
  have hR := rs_alloc h hhi (.cells #[.slice A n c] 40)
  have hC : (w.alloc (.cells #[.slice A n c] 40)).cell? ⟨w.heap.size, 0, none⟩ = some (.slice A n c) := al_new _ _ _ _ rfl
  have hB : Below w.heap.size w (w.alloc (.cells #[.slice A n c] 40)) := (Below.refl _ _).alloc (Nat.le_refl _) _
  cases hM : isManB xss with
  | false =>
    have hF : colF xss = ([], 1) := by unfold colF; rw [hM]; rfl
    replace hF := Lib.hid hF
    replace hM := Lib.hid hM
    replace hl := Lib.hid hl
    go_enter Try.func23, Try.ntmps23
    go_wp2_with fail
    obtain ⟨W1, hW⟩ : ∃ W1 : World, w.alloc (.cells #[.slice A n c] 40) = W1 := ⟨_, rfl⟩
    have hz1 : W1.heap.size = w.heap.size + 1 := by rw [← hW]; simp
    rw [hW] at hR hC hB ⊢
    clear hW h 
    ((with_reducible refine (l02Is_any A n c xss _ hR (by omega)).mono ?_); rintro e w2 ⟨rfl, f2⟩)
    rw [hM.out]
    have y2 := f2.size
    have B2 : Below W1.heap.size W1 w2 := f2
    have C2 := (f2.cell (p := ⟨w.heap.size, 0, none⟩) (by simp; omega)).trans hC
    have R2 := hR.below f2 (by omega)
    go_wp2_with fail
    go_ret2
    exact ⟨_, 0, _, [], _, rfl, Lib.hid hF.out.symm, Own.nil, by omega, hB.trans (B2.mono (by omega))⟩
  | true =>
    have hP := isManB_iff.1 hM
    have hn1 : 1 ≤ n := by have := hP.r1; omega
    have hn5 : n ≤ 5 := by have := hP.r5; omega
    have hf2 := hP.f2
    have hf4 := hP.f4
    have hS := hP.sys
    replace hP := Lib.hid hP
    replace hS := Lib.hid hS
    cases hcb : colB xss (flg xss) (dist xss (flg xss) 0) with
    | false =>
      have hF : colF xss = ([], 5) := by unfold colF; rw [if_pos hM]; rw [hcb]; rfl
      replace hF := Lib.hid hF
      replace hM := Lib.hid hM
      replace hl := Lib.hid hl
      replace hcb := Lib.hid hcb
      go_enter Try.func23, Try.ntmps23
      go_wp2_with fail
      obtain ⟨W1, hW⟩ : ∃ W1 : World, w.alloc (.cells #[.slice A n c] 40) = W1 := ⟨_, rfl⟩
      have hz1 : W1.heap.size = w.heap.size + 1 := by rw [← hW]; simp
      rw [hW] at hR hC hB ⊢
      clear hW h 
      ((with_reducible refine (l02Is_any A n c xss _ hR (by omega)).mono ?_); rintro e w2 ⟨rfl, f2⟩)
      rw [hM.out]
      have y2 := f2.size
      have B2 : Below W1.heap.size W1 w2 := f2
      have C2 := (f2.cell (p := ⟨w.heap.size, 0, none⟩) (by simp; omega)).trans hC
      have R2 := hR.below f2 (by omega)
      go_wp2_with fail
      ((with_reducible refine (l02Colours_any A n c xss _ R2 (by omega) (by omega) _ rfl hf4 hS.out (by omega) hP.out.conn).mono ?_); rintro e w9 ⟨A9, n9, c9, zs9, rfl, z9, o9, l9, f9⟩)
      have B9 : Below W1.heap.size W1 w9 := below_then B2 f9 (by omega)
      rw [hcb.out]
      go_wp2_with fail
      go_ret2
      exact ⟨_, 0, _, [], _, rfl, Lib.hid hF.out.symm, Own.nil, by omega, hB.trans (B9.mono (by omega))⟩
    | true =>
      have hF : colF xss = (parL (dist xss (flg xss) 0), 0) := by unfold colF; rw [if_pos hM]; rw [hcb]; rfl
      replace hF := Lib.hid hF
      replace hM := Lib.hid hM
      replace hl := Lib.hid hl
      replace hcb := Lib.hid hcb
      go_enter Try.func23, Try.ntmps23
      go_wp2_with fail
      obtain ⟨W1, hW⟩ : ∃ W1 : World, w.alloc (.cells #[.slice A n c] 40) = W1 := ⟨_, rfl⟩
      have hz1 : W1.heap.size = w.heap.size + 1 := by rw [← hW]; simp
      rw [hW] at hR hC hB ⊢
      clear hW h 
      ((with_reducible refine (l02Is_any A n c xss _ hR (by omega)).mono ?_); rintro e w2 ⟨rfl, f2⟩)
      rw [hM.out]
      have y2 := f2.size
      have B2 : Below W1.heap.size W1 w2 := f2
      have C2 := (f2.cell (p := ⟨w.heap.size, 0, none⟩) (by simp; omega)).trans hC
      have R2 := hR.below f2 (by omega)
      go_wp2_with fail
      ((with_reducible refine (l02Colours_any A n c xss _ R2 (by omega) (by omega) _ rfl hf4 hS.out (by omega) hP.out.conn).mono ?_); rintro e w9 ⟨A9, n9, c9, zs9, rfl, z9, o9, l9, f9⟩)
      have B9 : Below W1.heap.size W1 w9 := below_then B2 f9 (by omega)
      rw [hcb.out]
      go_wp2_with fail
      go_ret2
      exact ⟨_, _, _, _, _, rfl, Lib.hid (by rw [hF.out, z9.out]; unfold colZ; rw [hcb.out]; rfl), o9.more (by omega) (Nat.le_refl _), l9, hB.trans (B9.mono (by omega))⟩
set_option maxHeartbeats 4000000 in
theorem i_ColouringOf_any (w : World) (A : Option Addr) (n c : Nat) (xss : List (List Int)) {lo hi : Nat} (h : RS w lo hi A n xss) (hhi : hi ≤ w.heap.size) (hnc : n ≤ c) :
    Calls Try.prog 22 #[.agg #[.slice A n c]] w fun e w' => ∃ (A1 : Option Addr) (n1 c1 : Nat) (zs : List Int) (code : Int), e = .returned (.tuple #[.slice A1 n1 c1, .int .i64 code]) ∧ Hid ((zs, code) = colF xss) ∧ Own w' w.heap.size w'.heap.size 2 A1 n1 c1 (zs.map (Value.int .i64)) ∧ n1 ≤ 1048576 ∧ Below w.heap.size w w' := by
  have hm := h.max
  have hl := h.len
  have hR := rs_alloc h hhi (.cells #[.slice A n c] 40)
  have hC : (w.alloc (.cells #[.slice A n c] 40)).cell? ⟨w.heap.size, 0, none⟩ = some (.slice A n c) := al_new _ _ _ _ rfl
  have hB : Below w.heap.size w (w.alloc (.cells #[.slice A n c] 40)) := (Below.refl _ _).alloc (Nat.le_refl _) _
  cases hM : isManB xss with
  | false =>
    have hF : colF xss = ([], 1) := by unfold colF; rw [hM]; rfl
    replace hF := Lib.hid hF
    replace hM := Lib.hid hM
    replace hl := Lib.hid hl
    go_enter Try.func22, Try.ntmps22
    go_wp2_with fail
    obtain ⟨W1, hW⟩ : ∃ W1 : World, w.alloc (.cells #[.slice A n c] 40) = W1 := ⟨_, rfl⟩
    have hz1 : W1.heap.size = w.heap.size + 1 := by rw [← hW]; simp
    rw [hW] at hR hC hB ⊢
    clear hW h 
    ((with_reducible refine (isMan_any A n c xss _ hR (by omega) hnc).mono ?_); rintro e w2 ⟨rfl, f2⟩)
    rw [hM.out]
    have y2 := f2.size
    have B2 : Below W1.heap.size W1 w2 := f2
    have C2 := (f2.cell (p := ⟨w.heap.size, 0, none⟩) (by simp; omega)).trans hC
    have R2 := hR.below f2 (by omega)
    go_wp2_with fail
    go_ret2
    exact ⟨_, 0, _, [], _, rfl, Lib.hid hF.out.symm, Own.nil, by omega, hB.trans (B2.mono (by omega))⟩
  | true =>
    have hP := isManB_iff.1 hM
    have hn1 : 1 ≤ n := by have := hP.r1; omega
    have hn5 : n ≤ 5 := by have := hP.r5; omega
    have hf2 := hP.f2
    have hf4 := hP.f4
    have hS := hP.sys
    replace hP := Lib.hid hP
    replace hS := Lib.hid hS
    cases hcb : colB xss (flg xss) (dist xss (flg xss) 0) with
    | false =>
      have hF : colF xss = ([], 5) := by unfold colF; rw [if_pos hM]; rw [hcb]; rfl
      replace hF := Lib.hid hF
      replace hM := Lib.hid hM
      replace hl := Lib.hid hl
      replace hcb := Lib.hid hcb
      go_enter Try.func22, Try.ntmps22
      go_wp2_with fail
      obtain ⟨W1, hW⟩ : ∃ W1 : World, w.alloc (.cells #[.slice A n c] 40) = W1 := ⟨_, rfl⟩
      have hz1 : W1.heap.size = w.heap.size + 1 := by rw [← hW]; simp
      rw [hW] at hR hC hB ⊢
      clear hW h 
      ((with_reducible refine (isMan_any A n c xss _ hR (by omega) hnc).mono ?_); rintro e w2 ⟨rfl, f2⟩)
      rw [hM.out]
      have y2 := f2.size
      have B2 : Below W1.heap.size W1 w2 := f2
      have C2 := (f2.cell (p := ⟨w.heap.size, 0, none⟩) (by simp; omega)).trans hC
      have R2 := hR.below f2 (by omega)
      go_wp2_with fail
      ((with_reducible refine (colouring_any _ A n c xss _ C2 (by omega) R2 (by omega) (by omega) _ rfl hf4 hS.out (by omega) hP.out.conn).mono ?_); rintro e w9 ⟨A9, rfl, o9, f9⟩)
      have B9 : Below W1.heap.size W1 w9 := below_then B2 f9 (by omega)
      rw [hcb.out]
      go_wp2_with fail
      go_ret2
      exact ⟨_, 0, _, [], _, rfl, Lib.hid hF.out.symm, Own.nil, by omega, hB.trans (B9.mono (by omega))⟩
    | true =>
      have hF : colF xss = (parL (dist xss (flg xss) 0), 0) := by unfold colF; rw [if_pos hM]; rw [hcb]; rfl
      replace hF := Lib.hid hF
      replace hM := Lib.hid hM
      replace hl := Lib.hid hl
      replace hcb := Lib.hid hcb
      go_enter Try.func22, Try.ntmps22
      go_wp2_with fail
      obtain ⟨W1, hW⟩ : ∃ W1 : World, w.alloc (.cells #[.slice A n c] 40) = W1 := ⟨_, rfl⟩
      have hz1 : W1.heap.size = w.heap.size + 1 := by rw [← hW]; simp
      rw [hW] at hR hC hB ⊢
      clear hW h 
      ((with_reducible refine (isMan_any A n c xss _ hR (by omega) hnc).mono ?_); rintro e w2 ⟨rfl, f2⟩)
      rw [hM.out]
      have y2 := f2.size
      have B2 : Below W1.heap.size W1 w2 := f2
      have C2 := (f2.cell (p := ⟨w.heap.size, 0, none⟩) (by simp; omega)).trans hC
      have R2 := hR.below f2 (by omega)
      go_wp2_with fail
      ((with_reducible refine (colouring_any _ A n c xss _ C2 (by omega) R2 (by omega) (by omega) _ rfl hf4 hS.out (by omega) hP.out.conn).mono ?_); rintro e w9 ⟨A9, rfl, o9, f9⟩)
      have B9 : Below W1.heap.size W1 w9 := below_then B2 f9 (by omega)
      rw [hcb.out]
      go_wp2_with fail
      go_ret2
      exact ⟨_, _, _, _, _, rfl, Lib.hid hF.out.symm, o9.more (by omega) (Nat.le_refl _), by omega, hB.trans (B9.mono (by omega))⟩
end Go.Proofs.Ytdaljeghdiknpaa
/- DistX -/
namespace Go.Proofs.Ytdaljeghdiknpaa
open Go.RowKit
set_option linter.unusedVariables false
set_option maxRecDepth 100000
/-- what DistancesFrom returns -/
noncomputable def distF (xss : List (List Int)) (x : Int) : List Int × Int :=
  if isManB xss = true then (if inR 0 ((flg xss : Nat) - 1 : Int) x = true then (dist xss (flg xss) x, 0) else ([], 2)) else ([], 1)
set_option maxHeartbeats 4000000 in
theorem i_DistancesFrom_any (w : World) (A : Option Addr) (n c : Nat) (xss : List (List Int)) {lo hi : Nat} (h : RS w lo hi A n xss) (hhi : hi ≤ w.heap.size) (hnc : n ≤ c) (x : Int) (hx : -9223372036854775808 ≤ x ∧ x ≤ 9223372036854775807) :
    Calls Try.prog 25 #[.agg #[.slice A n c], .int .i64 x] w fun e w' => ∃ (A1 : Option Addr) (n1 c1 : Nat) (zs : List Int) (code : Int), e = .returned (.tuple #[.slice A1 n1 c1, .int .i64 code]) ∧ Hid ((zs, code) = distF xss x) ∧ Own w' w.heap.size w'.heap.size 2 A1 n1 c1 (zs.map (Value.int .i64)) ∧ n1 ≤ 1048576 ∧ Below w.heap.size w w' := by
  have hm := h.max
  have hl := h.len
  obtain ⟨hx0, hx1⟩ := hx
  have hR := rs_alloc h hhi (.cells #[.slice A n c] 40)
  have hC : (w.alloc (.cells #[.slice A n c] 40)).cell? ⟨w.heap.size, 0, none⟩ = some (.slice A n c) := al_new _ _ _ _ rfl
  have hB : Below w.heap.size w (w.alloc (.cells #[.slice A n c] 40)) := (Below.refl _ _).alloc (Nat.le_refl _) _
  cases hM : isManB xss with
  | false =>
    have hF : distF xss x = ([], 1) := by unfold distF; rw [hM]; rfl
    replace hF := Lib.hid hF
    replace hM := Lib.hid hM
    replace hl := Lib.hid hl
    go_enter Try.func25, Try.ntmps25
    go_wp2_with fail
    obtain ⟨W1, hW⟩ : ∃ W1 : World, w.alloc (.cells #[.slice A n c] 40) = W1 := ⟨_, rfl⟩
    have hz1 : W1.heap.size = w.heap.size + 1 := by rw [← hW]; simp
    rw [hW] at hR hC hB ⊢
    clear hW h 
    ((with_reducible refine (isMan_any A n c xss _ hR (by omega) hnc).mono ?_); rintro e w2 ⟨rfl, f2⟩)
    rw [hM.out]
    have y2 := f2.size
    have B2 : Below W1.heap.size W1 w2 := f2
    have C2 := (f2.cell (p := ⟨w.heap.size, 0, none⟩) (by simp; omega)).trans hC
    have R2 := hR.below f2 (by omega)
    go_wp2_with fail
    go_ret2
    exact ⟨_, 0, _, [], _, rfl, Lib.hid hF.out.symm, Own.nil, by omega, hB.trans (B2.mono (by omega))⟩
  | true =>
    have hP := isManB_iff.1 hM
    have hn1 : 1 ≤ n := by have := hP.r1; omega
    have hn5 : n ≤ 5 := by have := hP.r5; omega
    have hf2 := hP.f2
    have hf4 := hP.f4
    have hS := hP.sys
    replace hP := Lib.hid hP
    replace hS := Lib.hid hS
    cases hF1 : inR 0 ((flg xss : Nat) - 1 : Int) x with
    | false =>
      have hF : distF xss x = ([], 2) := by unfold distF; rw [if_pos hM, hF1]; rfl
      replace hF := Lib.hid hF
      replace hM := Lib.hid hM
      replace hl := Lib.hid hl
      replace hF1 := Lib.hid hF1
      go_enter Try.func25, Try.ntmps25
      go_wp2_with fail
      obtain ⟨W1, hW⟩ : ∃ W1 : World, w.alloc (.cells #[.slice A n c] 40) = W1 := ⟨_, rfl⟩
      have hz1 : W1.heap.size = w.heap.size + 1 := by rw [← hW]; simp
      rw [hW] at hR hC hB ⊢
      clear hW h 
      ((with_reducible refine (isMan_any A n c xss _ hR (by omega) hnc).mono ?_); rintro e w2 ⟨rfl, f2⟩)
      rw [hM.out]
      have y2 := f2.size
      have B2 : Below W1.heap.size W1 w2 := f2
      have C2 := (f2.cell (p := ⟨w.heap.size, 0, none⟩) (by simp; omega)).trans hC
      have R2 := hR.below f2 (by omega)
      go_wp2_with fail
      ((with_reducible refine (hasFlag_any _ A n c xss x _ C2 R2 (by omega) hf4).mono ?_); rintro e w' ⟨rfl, rfl⟩)
      rw [hF1.out]
      go_wp2_with fail
      go_ret2
      exact ⟨_, 0, _, [], _, rfl, Lib.hid hF.out.symm, Own.nil, by omega, hB.trans (B2.mono (by omega))⟩
    | true =>
      obtain ⟨hxa, hxb⟩ := inR_iff.1 hF1
      have hxc : x < (flg xss : Nat) := by omega
      have hF : distF xss x = (dist xss (flg xss) x, 0) := by unfold distF; rw [if_pos hM, if_pos hF1]
      replace hF := Lib.hid hF
      replace hM := Lib.hid hM
      replace hl := Lib.hid hl
      replace hF1 := Lib.hid hF1
      go_enter Try.func25, Try.ntmps25
      go_wp2_with fail
      obtain ⟨W1, hW⟩ : ∃ W1 : World, w.alloc (.cells #[.slice A n c] 40) = W1 := ⟨_, rfl⟩
      have hz1 : W1.heap.size = w.heap.size + 1 := by rw [← hW]; simp
      rw [hW] at hR hC hB ⊢
      clear hW h 
      ((with_reducible refine (isMan_any A n c xss _ hR (by omega) hnc).mono ?_); rintro e w2 ⟨rfl, f2⟩)
      rw [hM.out]
      have y2 := f2.size
      have B2 : Below W1.heap.size W1 w2 := f2
      have C2 := (f2.cell (p := ⟨w.heap.size, 0, none⟩) (by simp; omega)).trans hC
      have R2 := hR.below f2 (by omega)
      go_wp2_with fail
      ((with_reducible refine (hasFlag_any _ A n c xss x _ C2 R2 (by omega) hf4).mono ?_); rintro e w' ⟨rfl, rfl⟩)
      rw [hF1.out]
      go_wp2_with fail
      ((with_reducible refine (distances_any _ A n c xss x _ C2 (by omega) R2 (by omega) (by omega) _ rfl hf4 hS.out hxa (by omega)).mono ?_); rintro e w9 ⟨A9, rfl, o9, f9⟩)
      have B9 : Below W1.heap.size W1 w9 := below_then B2 f9 (by omega)
      go_wp2_with fail
      go_ret2
      exact ⟨_, _, _, _, _, rfl, Lib.hid hF.out.symm, o9.more (by omega) (Nat.le_refl _), by omega, hB.trans (B9.mono (by omega))⟩
end Go.Proofs.Ytdaljeghdiknpaa
