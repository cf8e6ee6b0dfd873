/- FnExactHasEqualFacets: the program's HasEqualFacets and the reference's return the same for all arguments, the arguments stay as they were, and the results are memory of their own. No condition. (Merged: ColP, Que, Dist, Dia, PthP, TypP, IsoQ, SphP, SecH, InsP, SamS, Bef, Sec, SecX, LstX, FrmS, EqfX, LHasEqualFacets.) -/
import Derived.Test.YtbioelmofceaaaaHefA
import Derived.Test.YtbioelmofceaaaaOrbL
import Derived.ArgAppend
import Derived.Test.YtbioelmofceaaaaRun
import Derived.Test.YtbioelmofceaaaaWord
import Derived.Test.YtbioelmofceaaaaCntP
import Derived.Test.YtbioelmofceaaaaOrdP
import Derived.Test.YtbioelmofceaaaaOrbO
import Derived.Test.YtbioelmofceaaaaSub
import Derived.Lib.SlicesCompact
import Derived.Test.YtbioelmofceaaaaCptP
import Derived.Test.YtbioelmofceaaaaSrtF
import Derived.Test.YtbioelmofceaaaaTw
import Derived.Test.YtbioelmofceaaaaOrbS
import Derived.Test.YtbioelmofceaaaaFace
import Derived.Deep.RegionLaw
import Derived.Deep.Cut
import Derived.Deep.CutRange
import Derived.Deep.RegionHeld3
import Derived.Test.YtbioelmofceaaaaRows
import Derived.Test.YtbioelmofceaaaaOpen
import Derived.Test.YtbioelmofceaaaaLawI
import Derived.Test.YtbioelmofceaaaaOpenS
import Derived.Test.YtbioelmofceaaaaLawS
import Derived.Test.YtbioelmofceaaaaLawM
/- ColP -/
namespace Go.Proofs.Ytbioelmofceaaaa
set_option linter.unusedVariables false
set_option maxRecDepth 100000
/-- the move p changes the parity at y -/
def edgeB (D : List Int) (y : Int) (p : List Int) : Bool := decide (dat D (at' p y) % 2 ≠ dat D y % 2)
def edgesB (xss : List (List Int)) (D : List Int) (y : Int) : Bool := xss.all (edgeB D y)
/-- all moves change all parities -/
def colB (xss : List (List Int)) (n : Nat) (D : List Int) : Bool := (List.range n).all fun y => edgesB xss D (y : Int)
/-- what the reference hands out: no colours, where there is no colouring -/
def colZ (xss : List (List Int)) (n : Nat) (D : List Int) : List Int := if colB xss n D = true then D.map (· % 2) else []
def parL (D : List Int) : List Int := D.map (· % 2)
/-- the colours c are the parities of the distances d so far -/
def Col (n : Nat) (d c : List Int) : Prop := d.length = n ∧ c.length = n ∧ ∀ z : Int, 0 ≤ z → z < n → dat c z = if dat d z < 0 then -1 else dat d z % 2
theorem dat_start {n : Nat} {x z : Int} (h0 : 0 ≤ x) (h1 : x < n) (g0 : 0 ≤ z) (g1 : z < n) : dat (dstart n x).1 z = if z = x then 0 else -1 := by
  unfold dstart
  by_cases e : z = x
  · subst e; rw [if_pos rfl]; exact dat_set_eq (n := n) (by simp) h0 h1
  · rw [if_neg e, dat_set_ne h0 g0 e]
    unfold dat
    simp [List.getD, show z.toNat < n by omega]
theorem Col.start {n : Nat} {x : Int} (h0 : 0 ≤ x) (h1 : x < n) : Col n (dstart n x).1 (dstart n x).1 := by
  refine ⟨by simp [dstart], by simp [dstart], fun z g0 g1 => ?_⟩
  rw [dat_start h0 h1 g0 g1]
  by_cases e : z = x
  · simp [e]
  · simp [e]
theorem Col.set {n : Nat} {d c : List Int} {g y : Int} (h : Col n d c) (g0 : 0 ≤ g) (g1 : g < n) (y0 : 0 ≤ y) (y1 : y < n) (hy : 0 ≤ dat d y) : Col n (d.set g.toNat (dat d y + 1)) (c.set g.toNat (1 - dat c y)) := by
  obtain ⟨hd, hc, hh⟩ := h
  refine ⟨by simp [hd], by simp [hc], fun z z0 z1 => ?_⟩
  by_cases e : z = g
  · subst e
    rw [dat_set_eq hc g0 g1, dat_set_eq hd g0 g1, hh y y0 y1, if_neg (by omega), if_neg (by omega)]
    omega
  · rw [dat_set_ne g0 z0 e, dat_set_ne g0 z0 e]
    exact hh z z0 z1
theorem Col.neg {n : Nat} {d c : List Int} {z : Int} (h : Col n d c) (z0 : 0 ≤ z) (z1 : z < n) : dat c z < 0 ↔ dat d z < 0 := by
  rw [h.2.2 z z0 z1]
  split <;> omega
theorem Col.val {n : Nat} {d c : List Int} {z : Int} (h : Col n d c) (z0 : 0 ≤ z) (z1 : z < n) (hz : 0 ≤ dat d z) : dat c z = dat d z % 2 := by
  rw [h.2.2 z z0 z1, if_neg (by omega)]
theorem Col.end_ {n : Nat} {d c : List Int} (h : Col n d c) (hall : ∀ z : Int, 0 ≤ z → z < n → 0 ≤ dat d z) : c = parL d := by
  unfold parL
  refine List.ext_getElem? fun k => ?_
  by_cases hk : k < n
  · have h1 := get?_getD (xs := c) (k := k) 0 (by have := h.2.1; omega)
    have h2 := get?_getD (xs := d) (k := k) 0 (by have := h.1; omega)
    rw [h1, List.getElem?_map, h2]
    have := h.val (z := (k : Int)) (by omega) (by omega) (hall k (by omega) (by omega))
    unfold dat at this
    rw [Int.toNat_natCast] at this
    rw [this]
    rfl
  · rw [List.getElem?_eq_none (by have := h.2.1; omega), List.getElem?_eq_none (by simp; have := h.1; omega)]
theorem dMove_keep {list : List (List Int)} {n : Nat} {x y : Int} {p : List Int} {s : List Int × List Int} {i : Nat} (hs : SysOf list n) (h : DMet list n x s.1 s.2 i) (hy : s.2[i]? = some y) (hp : p ∈ list) {z : Int} (hz : z ∈ s.2) : dat (dMove y s p).1 z = dat s.1 z := by
  have hyr := h.met.rng y (mem_of_get? hy)
  obtain ⟨g0, g1⟩ := at'_rng (hs p hp).1 (hs p hp).2.2 hyr.1 hyr.2
  unfold dMove
  split
  · rename_i hn
    exact dat_set_ne g0 (h.met.rng z hz).1 (fun e => by subst e; have := (h.datn hz).1; omega)
  · rfl
theorem dStep_keep {list : List (List Int)} {n : Nat} {x y : Int} {i : Nat} (hs : SysOf list n) {z : Int} : ∀ (ps : List (List Int)) (s : List Int × List Int), (∀ p ∈ ps, p ∈ list) → DMet list n x s.1 s.2 i → s.2[i]? = some y → z ∈ s.2 → dat (dStep ps y s).1 z = dat s.1 z := by
  intro ps
  induction ps with
  | nil => intro s _ _ _ _; rfl
  | cons p t ih =>
    intro s hps h hy hz
    obtain ⟨h1, h2, h3, h4⟩ := dMove_spec hs h hy (hps p (by simp))
    have := ih (dMove y s p) (fun q hq => hps q (by simp [hq])) h1 h2 (h4 z hz)
    rw [dMove_keep hs h hy (hps p (by simp)) hz] at this
    exact this
theorem dGo_keep {list : List (List Int)} {n : Nat} {x : Int} (hs : SysOf list n) {z : Int} : ∀ (f : Nat) (s : List Int × List Int) (i : Nat), DMet list n x s.1 s.2 i → z ∈ s.2 → dat (dGo list f s i).1 z = dat s.1 z := by
  intro f
  induction f with
  | zero => intro s i _ _; rfl
  | succ f ih =>
    intro s i h hz
    cases hx : s.2[i]? with
    | none => rw [dGo_stop (List.getElem?_eq_none_iff.1 hx)]
    | some y =>
      rw [dGo_step hx, ih _ _ (dStep_next hs h hx) ((dStep_spec hs list s (fun _ h => h) h hx).2.2.2 z hz)]
      exact dStep_keep hs list s (fun _ h => h) h hx hz
/-- distances that are known stay -/
theorem final_keep {list : List (List Int)} {n : Nat} {x y : Int} {i f k : Nat} {s : List Int × List Int} (hs : SysOf list n) (h : DMet list n x s.1 s.2 i) (hy : s.2[i]? = some y) {z : Int} (hz : z ∈ (dStep (list.take k) y s).2) :
    dat (dGo list (f + 1) s i).1 z = dat (dStep (list.take k) y s).1 z := by
  obtain ⟨h1, h2, _, _⟩ := dStep_spec hs (list.take k) s (fun _ h => mem_of_take h) h hy
  have e : dStep list y s = dStep (list.drop k) y (dStep (list.take k) y s) := by
    unfold dStep
    rw [← List.foldl_append, List.take_append_drop]
  have hd : ∀ p ∈ list.drop k, p ∈ list := fun p hp => List.mem_of_mem_drop hp
  rw [dGo_step hy, dGo_keep hs _ _ _ (dStep_next hs h hy), e]
  · exact dStep_keep hs _ _ hd h1 h2 hz
  · rw [e]; exact (dStep_spec hs (list.drop k) _ hd h1 h2).2.2.2 z hz
theorem all_out {list : List (List Int)} {n : Nat} {x : Int} {out : List Int} (hm : Met list n x out) (hl : n ≤ out.length) (f : Int → Bool) : out.all f = (List.range n).all fun (y : Nat) => f (y : Int) := by
  rw [Bool.eq_iff_iff, List.all_eq_true, List.all_eq_true]
  constructor
  · intro h y hy
    refine h y (mem_of_full hm.nd (fun a ha => mem_ints.2 (hm.rng a ha)) (by simpa using hl) (mem_ints.2 ⟨by omega, by have := List.mem_range.1 hy; omega⟩))
  · intro h y hy
    have := hm.rng y hy
    have h2 := h y.toNat (by rw [List.mem_range]; omega)
    rwa [Int.toNat_of_nonneg this.1] at h2
theorem met_full {n : Nat} {out : List Int} (hc : ∀ z : Int, 0 ≤ z → z < n → z ∈ out) : n ≤ out.length := by
  have := nodup_sub_len ((List.range n).map Int.ofNat) out (by
    rw [List.nodup_iff_pairwise_ne, List.pairwise_map]
    refine List.pairwise_lt_range.imp ?_
    intro a b h e
    have e : (a : Int) = b := e
    have : a < b := h
    omega) (fun a ha => by obtain ⟨g1, g2⟩ := mem_ints.1 ha; exact hc a g1 g2)
  simpa using this
theorem all_take_succ {α : Type} {xs : List α} {k : Nat} {x : α} {f : α → Bool} (h : xs[k]? = some x) : (xs.take (k + 1)).all f = ((xs.take k).all f && f x) := by
  rw [take_succ_of h, List.all_append]; simp
theorem edge_new {list : List (List Int)} {n : Nat} {x y : Int} {p d out D : List Int} {i : Nat} (hs : SysOf list n) (h : DMet list n x d out i) (hy : out[i]? = some y) (hp : p ∈ list) (hn : dat d (at' p y) < 0)
    (hD : ∀ z ∈ (dMove y (d, out) p).2, dat D z = dat (dMove y (d, out) p).1 z) : edgeB D y p = true := by
  have hyr := h.met.rng y (mem_of_get? hy)
  obtain ⟨g0, g1⟩ := at'_rng (hs p hp).1 (hs p hp).2.2 hyr.1 hyr.2
  have hyd := (h.datn (mem_of_get? hy)).1
  unfold dMove at hD
  rw [if_pos hn] at hD
  have h1 := hD (at' p y) (by simp)
  have h2 := hD y (List.mem_append_left _ (mem_of_get? hy))
  rw [dat_set_eq h.dl g0 g1] at h1
  rw [dat_set_ne g0 hyr.1 (fun e => by rw [← e] at hn; omega)] at h2
  unfold edgeB
  rw [h1, h2]
  exact decide_eq_true (by omega)
theorem edge_old {list : List (List Int)} {n : Nat} {x y : Int} {p d out D : List Int} {i : Nat} (hs : SysOf list n) (h : DMet list n x d out i) (hy : out[i]? = some y) (hp : p ∈ list) (hn : ¬ dat d (at' p y) < 0)
    (hD : ∀ z ∈ (dMove y (d, out) p).2, dat D z = dat (dMove y (d, out) p).1 z) : edgeB D y p = decide (dat d (at' p y) % 2 ≠ dat d y % 2) := by
  have hyr := h.met.rng y (mem_of_get? hy)
  obtain ⟨g0, g1⟩ := at'_rng (hs p hp).1 (hs p hp).2.2 hyr.1 hyr.2
  unfold dMove at hD
  rw [if_neg hn] at hD
  have h1 := hD (at' p y) ((h.pos _ g0 g1).1 (by omega))
  have h2 := hD y (mem_of_get? hy)
  unfold edgeB
  rw [h1, h2]
theorem edges_snoc {xss : List (List Int)} {k : Nat} {p : List Int} {pre : List Int} {D : List Int} {y : Int} {o : Bool} (hp : xss[k]? = some p) (ho : o = (pre.all (edgesB xss D) && (xss.take k).all (edgeB D y))) : (o && edgeB D y p) = (pre.all (edgesB xss D) && (xss.take (k + 1)).all (edgeB D y)) := by
  rw [all_take_succ hp, ho, Bool.and_assoc]
theorem edges_next {xss : List (List Int)} {pre : List Int} {D : List Int} {y : Int} {o : Bool} (ho : o = (pre.all (edgesB xss D) && xss.all (edgeB D y))) : o = (pre ++ [y]).all (edgesB xss D) := by
  rw [ho, List.all_append]; simp [edgesB]
end Go.Proofs.Ytbioelmofceaaaa
/- Que -/
namespace Go.Proofs.Ytbioelmofceaaaa
open Go.RowKit
set_option linter.unusedVariables false
set_option maxRecDepth 100000
/-- '.slice A n c' holds vs; it lies in a block from lo on; what lies behind it, up to c, may be written -/
def Que (w : World) (lo : Nat) (A : Option Addr) (n c : Nat) (vs : List Value) : Prop :=
  vs.length = n ∧ n ≤ c ∧ c ≤ maxLen ∧ ∃ g o, A = some ⟨g, o, none⟩ ∧ lo ≤ g ∧ g < w.heap.size ∧ (∀ k v, vs[k]? = some v → w.cell? ⟨g, o + k, none⟩ = some v) ∧ (∀ k, k < c → (w.cell? ⟨g, o + k, none⟩).isSome = true) ∧ ∀ k, w.frozen? ⟨g, k, none⟩ = false
section
variable {w w' : World} {lo hi n c : Nat} {T : TypeId} {A : Option Addr} {vs : List Value}
theorem Que.keep (h : Que w lo A n c vs) (hs : ∀ k, lo ≤ k → k < w.heap.size → w'.heap[k]? = w.heap[k]?) (hz : w.heap.size ≤ w'.heap.size) : Que w' lo A n c vs := by
  obtain ⟨h1, h2, h3, g, o, e, h4, h5, h6, h7, h8⟩ := h
  refine ⟨h1, h2, h3, g, o, e, h4, by omega, fun k v hv => ?_, fun k hk => ?_, fun k => ?_⟩
  · exact (World.cell?_of_block (w := w) (a := ⟨g, o + k, none⟩) (hs g h4 h5)).trans (h6 k v hv)
  · rw [World.cell?_of_block (w := w) (a := ⟨g, o + k, none⟩) (hs g h4 h5)]; exact h7 k hk
  · rw [World.frozen?_of_block (w := w) (a := ⟨g, k, none⟩) (hs g h4 h5)]; exact h8 k
theorem Que.far (h : Que w lo A n c vs) {p : Addr} (hp : p.block < lo) (u : Value) : Que (w.setCell p u) lo A n c vs :=
  h.keep (fun k h1 h2 => Below.heap_setCell _ _ _ _ (by omega)) (by simp)
theorem Que.drewN (h : Que w lo A n c vs) (k : Nat) : Que (w.drewN k) lo A n c vs := h
theorem Que.len (h : Que w lo A n c vs) : vs.length = n := h.1
theorem Que.cap (h : Que w lo A n c vs) : n ≤ c := h.2.1
theorem Que.max (h : Que w lo A n c vs) : c ≤ 9223372036854775807 := by have := h.2.2.1; simp only [maxLen] at this; omega
theorem Que.more {lo' : Nat} (h : Que w lo A n c vs) (h' : lo' ≤ lo) : Que w lo' A n c vs := by
  obtain ⟨h1, h2, h3, g, o, e, h4, h5, h6, h7, h8⟩ := h
  exact ⟨h1, h2, h3, g, o, e, by omega, h5, h6, h7, h8⟩
theorem Que.addr (h : Que w lo A n c vs) : ∃ g o, A = some ⟨g, o, none⟩ ∧ lo ≤ g ∧ g < w.heap.size := by
  obtain ⟨_, _, _, g, o, e, h4, h5, _⟩ := h
  exact ⟨g, o, e, h4, h5⟩
theorem Que.cell {g o k : Nat} {v : Value} (h : Que w lo (some ⟨g, o, none⟩) n c vs) (hv : vs[k]? = some v) : w.cell? ⟨g, o + k, none⟩ = some v := by
  obtain ⟨_, _, _, g', o', e, _, _, h6, _⟩ := h
  injection e with e; injection e with e1 e2 _; subst e1; subst e2
  exact h6 k v hv
/-- the first element is cut away -/
theorem Que.pop {g o : Nat} {v : Value} {vs : List Value} {A' : Option Addr} (h : Que w lo (some ⟨g, o, none⟩) (n + 1) c (v :: vs)) (hA : A' = some ⟨g, o + 1, none⟩ ∨ (c = 1 ∧ A' = some ⟨g, o, none⟩)) : Que w lo A' n (c - 1) vs := by
  obtain ⟨h1, h2, h3, g', o', e, h4, h5, h6, h7, h8⟩ := h
  injection e with e; injection e with e1 e2 _; subst e1; subst e2
  simp at h1
  refine ⟨h1, by omega, by omega, ?_⟩
  rcases hA with rfl | ⟨rfl, rfl⟩
  · refine ⟨g, o + 1, rfl, h4, h5, fun k u hu => ?_, fun k hk => ?_, h8⟩
    · rw [show o + 1 + k = o + (k + 1) by omega]; exact h6 (k + 1) u (by simpa using hu)
    · rw [show o + 1 + k = o + (k + 1) by omega]; exact h7 (k + 1) (by omega)
  · have : vs = [] := List.eq_nil_of_length_eq_zero (by omega)
    subst this
    exact ⟨g, o, rfl, h4, h5, fun k u hu => by simp at hu, fun k hk => by omega, h8⟩
theorem Que.of_row {g : Nat} (h : w.ownsRow lo T 1 (.slice (some ⟨g, 0, none⟩) n c) n vs) : Que w lo (some ⟨g, 0, none⟩) n c vs := by
  have hl := h.1
  rcases h.2 with ⟨hv, _⟩ | ⟨g', cap, cur, hv, hb, hg, hnc, hcm, hcs, htake⟩
  · cases hv
  · injection hv with e1 _ e3
    injection e1 with e1
    injection e1 with e1 _ _
    subst e1; subst e3
    refine ⟨by omega, hnc, hcm, g, 0, rfl, hb, (Array.getElem?_eq_some_iff.1 hg).1, fun k v hv => ?_, fun k hk => ?_, fun k => frozen_of_row w g k cur T hg⟩
    · rw [Nat.zero_add, cell_of_row w g k cur T _ hg]
      have hk := (List.getElem?_eq_some_iff.1 hv).1
      rw [← htake, List.getElem?_take_of_lt (by omega)] at hv
      simpa using hv
    · rw [Nat.zero_add, cell_of_row w g k cur T _ hg]
      simp; omega
theorem Que.of_own {g : Nat} (h : Own w lo hi T (some ⟨g, 0, none⟩) n c vs) : Que w lo (some ⟨g, 0, none⟩) n c vs := Que.of_row h.1
end
section
variable {P : Program}
/-- 'append(s, x)' at a queue -/
theorem wpList_appendQ (w : World) {ops : Array Oper} {rest : List Oper} {o : Oper} {a : Act} {Q : Exit → Act → World → Prop} (hgd : o.guard = none) (s x : Operand) (t : TypeId)
    (ho : o.op = .call { callee := .builtin .append, args := #[s, x], argTypes := #[t, t] })
    (lo : Nat) (e : TypeId) (i : TypeInfo) (z : Value) (bytes : Nat) (ht : P.underlying t = some (.slice e)) (hi : P.info? e = some i) (hz : i.zero = some z)
    (hsize : i.size = 1) (hby : i.bytes = bytes) (hzs : z.cells.size = 1) (hbs : bytes ≤ 64)
    (A : Option Addr) (n c : Nat) (vs : List Value) (u : Value) (hs : a.eval s = .slice A n c) (hq : Que w lo A n c vs)
    (N : Nat) (hx : a.eval x = .slice (some ⟨N, 0, none⟩) 1 1) (hN : N = w.heap.size) (h1 : u.oneCell' = true) (h63 : n < 1099511627776) (hlo : lo ≤ w.heap.size)
    (h : ∀ A' c' w', Que w' lo A' (n + 1) c' (vs ++ [u]) → Below lo w w' → wpList P ops Q rest (a.put o.dst (.slice A' (n + 1) c')) w') :
    wpList P ops Q (o :: rest) a (w.alloc (.cells #[u] e)) := by
  subst hN
  refine wpList_plain hgd fun K hK => ?_
  have hnews : ∀ j v, [u][j]? = some v → (w.alloc (.cells #[u] e)).cell? ((⟨w.heap.size, 0, none⟩ : Addr).add j) = some v := by
    intro j v hv
    have : j = 0 := by have := (List.getElem?_eq_some_iff.1 hv).1; simp at this; omega
    subst this
    simp at hv
    subst hv
    simp [Addr.add_lit]
  have hq' : Que (w.alloc (.cells #[u] e)) lo A n c vs := hq.keep (fun k _ hk => Below.heap_alloc _ _ _ hk) (by simp)
  have hb' : Below lo w (w.alloc (.cells #[u] e)) := (Below.refl _ _).alloc hlo _
  obtain ⟨q1, q2, q3, g, off, rfl, q4, q5, q6, q7, q8⟩ := hq'
  by_cases hr : n + 1 ≤ c
  · have hrun := run_append_room_cells (P := P) (w.alloc (.cells #[u] e)) t o.type e i ht hi g off n c ⟨w.heap.size, 0, none⟩ 1 1 [u] (by simp [hsize]) hnews (by simpa using h1) hr
      (fun j hj => by simp at hj; subst hj; rw [hsize]; exact q7 _ (by omega)) (fun j hj => q8 _)
    rw [hsize, Nat.mul_one] at hrun
    unfold Oper.wp execOp
    simp only [ho, resolve, invoke, builtin, Sem.run_bind, Sem.run_pure, Result.andThen_ok, List.map_toArray, List.map_cons, List.map_nil, hs, hx, hrun]
    have hset : (w.alloc (.cells #[u] e)).setCells g (off + n) [u] = (w.alloc (.cells #[u] e)).setCell ⟨g, off + n, none⟩ u := by simp [World.setCells]
    rw [hset]
    have hsome : ((w.alloc (.cells #[u] e)).cell? ⟨g, off + n, none⟩).isSome = true := q7 n (by omega)
    refine hK _ _ (h _ c _ ⟨by simp [q1], hr, q3, g, off, rfl, q4, by simpa using q5, fun k v hv => ?_, fun k hk => ?_, fun k => ?_⟩ (hb'.setCell q4 _))
    · by_cases hk : k < n
      · rw [List.getElem?_append_left (by omega)] at hv
        exact (World.cell?_setCell_other _ _ _ _ (by intro e; injection e with _ e _; omega)).trans (q6 k v hv)
      · have hk2 := (List.getElem?_eq_some_iff.1 hv).1
        simp at hk2
        have e : k = n := by omega
        subst e
        rw [List.getElem?_append_right (by omega)] at hv
        simp [q1] at hv
        subst hv
        exact World.cell?_setCell_same _ _ _ (Option.isSome_iff_exists.1 hsome).choose_spec
    · by_cases e : k = n
      · subst e; rw [World.cell?_setCell_same _ _ _ (Option.isSome_iff_exists.1 hsome).choose_spec]; rfl
      · exact (congrArg Option.isSome (World.cell?_setCell_other _ _ _ _ (by intro e'; injection e' with _ e' _; omega))).trans (q7 k (by omega))
    · rw [World.frozen?_setCell]; exact q8 k
  · obtain ⟨v', w', hrun, r1, r2⟩ := run_append_arg_grows (P := P) (w.alloc (.cells #[u] e)) t o.type e i z 1 bytes ht hi hz hsize hby hzs (by omega) ⟨g, off, none⟩ n c vs (by omega) (fun j v hv => by rw [Addr.add_lit]; exact q6 j v hv)
      ⟨w.heap.size, 0, none⟩ 1 1 [u] rfl hnews (by omega) (by simp only [maxLen]; omega) (by have := Nat.mul_le_mul (show n + 1 ≤ 1099511627776 by omega) hbs; omega)
    obtain ⟨g', c', rfl, hg1, hg2⟩ := slice_of_own r1 (by omega)
    unfold Oper.wp execOp
    simp only [ho, resolve, invoke, builtin, Sem.run_bind, Sem.run_pure, Result.andThen_ok, List.map_toArray, List.map_cons, List.map_nil, hs, hx, hrun]
    refine hK _ _ (h _ c' w' ((Que.of_row r1).more (by simp; omega)) (hb'.grown r2 (by simp; omega) (fun q hq => by cases hq)))
end
end Go.Proofs.Ytbioelmofceaaaa
/- Dist -/
namespace Go.Proofs.Ytbioelmofceaaaa
open Go.RowKit
set_option linter.unusedVariables false
set_option maxRecDepth 100000
theorem dat_get {d : List Int} {z : Nat} {n : Nat} (hl : d.length = n) (hz : z < n) : d[z]? = some (dat d (z : Int)) := by
  unfold dat; rw [Int.toNat_natCast]; exact get?_getD 0 (by omega)
end Go.Proofs.Ytbioelmofceaaaa
/- Dia -/
namespace Go.Proofs.Ytbioelmofceaaaa
open Go.RowKit
set_option linter.unusedVariables false
set_option maxRecDepth 100000
/-- the greatest of a and the numbers of l -/
def maxFrom (a : Int) (l : List Int) : Int := l.foldl (fun m x => if m < x then x else m) a
theorem maxFrom_snoc (a x : Int) (l : List Int) : maxFrom a (l ++ [x]) = if maxFrom a l < x then x else maxFrom a l := by unfold maxFrom; rw [List.foldl_append]; rfl
theorem maxFrom_spec (l : List Int) : ∀ a, a ≤ maxFrom a l ∧ (∀ x ∈ l, x ≤ maxFrom a l) ∧ (maxFrom a l = a ∨ maxFrom a l ∈ l) := by
  induction l with
  | nil => intro a; exact ⟨Int.le_refl _, by simp, .inl rfl⟩
  | cons y t ih =>
    intro a
    have e : maxFrom a (y :: t) = maxFrom (if a < y then y else a) t := rfl
    rw [e]
    have hb : a ≤ (if a < y then y else a) ∧ y ≤ (if a < y then y else a) ∧ ((if a < y then y else a) = a ∨ (if a < y then y else a) = y) := by split <;> omega
    generalize (if a < y then y else a) = b at *
    obtain ⟨h1, h2, h3⟩ := ih b
    refine ⟨by omega, fun x hx => ?_, ?_⟩
    · rcases List.mem_cons.1 hx with rfl | hx
      · omega
      · exact h2 x hx
    · rcases h3 with h3 | h3
      · rcases hb.2.2 with k | k
        · left; omega
        · right; rw [h3, k]; simp
      · right; simp [h3]
theorem maxFrom_two {a x : Int} {l : List Int} (hx : x ∈ l) : maxFrom a l = if a < maxFrom x l then maxFrom x l else a := by
  obtain ⟨h1, h2, h3⟩ := maxFrom_spec l a
  obtain ⟨k1, k2, k3⟩ := maxFrom_spec l x
  have e : maxFrom x l ∈ l := by rcases k3 with k | k
                                 · rw [k]; exact hx
                                 · exact k
  split
  · rename_i hh
    have := h2 _ e
    rcases h3 with h3 | h3
    · omega
    · have := k2 _ h3; omega
  · rename_i hh
    rcases h3 with h3 | h3
    · exact h3
    · have := k2 _ h3; omega
def diaGo (xss : List (List Int)) (n k : Nat) : Int := (List.range k).foldl (fun (m : Int) (f : Nat) => maxFrom m (dist xss n (f : Int))) (0 : Int)
theorem diaGo_succ (xss : List (List Int)) (n k : Nat) : diaGo xss n (k + 1) = maxFrom (diaGo xss n k) (dist xss n (k : Int)) := by unfold diaGo; rw [List.range_succ, List.foldl_append]; rfl
/-- what DiameterOf returns -/
noncomputable def diaF (xss : List (List Int)) : Int × Int := if isManB xss = true then (diaGo xss (flg xss) (flg xss), 0) else (0, 1)
end Go.Proofs.Ytbioelmofceaaaa
/- PthP -/
namespace Go.Proofs.Ytbioelmofceaaaa
set_option linter.unusedVariables false
theorem dist_le {xss : List (List Int)} {n : Nat} {x y : Int} {D E : List Int} (hs : SysOf xss n) (hi : Invo xss n) (hD : DFin xss n x D) (hE : DFin xss n y E) : ∀ (k : Nat) (z : Int), 0 ≤ z → z < n → dat E z = k → dat D y ≤ dat D z + k := by
  intro k
  induction k with
  | zero =>
    intro z z0 z1 h
    have := (dist_zero hE z0 z1).2 h
    subst this
    omega
  | succ k ih =>
    intro z z0 z1 h
    have hne : z ≠ y := fun e => by
      have := (dist_zero hE z0 z1).1 e
      omega
    obtain ⟨u, p, hp, u0, u1, e, hd⟩ := hE.par z z0 z1 hne
    have h1 := ih u u0 u1 (by omega)
    have h2 := hD.lip z p z0 z1 hp
    rw [e, hi p hp u u0 u1] at h2
    rw [← e] at h2
    omega
theorem dist_symm {xss : List (List Int)} {n : Nat} {x y : Int} {D E : List Int} (hs : SysOf xss n) (hi : Invo xss n) (hD : DFin xss n x D) (hE : DFin xss n y E) (x0 : 0 ≤ x) (x1 : x < n) (y0 : 0 ≤ y) (y1 : y < n) : dat D y = dat E x := by
  have a := hD.rng y y0 y1
  have b := hE.rng x x0 x1
  have h1 := dist_le hs hi hD hE (dat E x).toNat x x0 x1 (by omega)
  have h2 := dist_le hs hi hE hD (dat D y).toNat y y0 y1 (by omega)
  rw [hD.zero] at h1
  rw [hE.zero] at h2
  omega
theorem fw_run {xss : List (List Int)} {n : Nat} {x : Int} {D : List Int} (hs : SysOf xss n) (hi : Invo xss n) (h : DFin xss n x D) : ∀ (d : Nat) (f : Int), 0 ≤ f → f < n → dat D f = d → runW xss (fwL xss D d f) f = x ∧ ∀ g ∈ fwL xss D d f, 0 ≤ g ∧ g < xss.length := by
  intro d
  induction d with
  | zero =>
    intro f f0 f1 hd
    exact ⟨(dist_zero h f0 f1).2 hd, by simp [fwL]⟩
  | succ d ih =>
    intro f f0 f1 hd
    have hne : f ≠ x := fun e => by
      have := (dist_zero h f0 f1).1 e
      omega
    obtain ⟨p0, hp0, hn0⟩ := near_ex hs hi h f0 f1 hne
    have hlt : xss.findIdx (nearB D f) < xss.length := List.findIdx_lt_length_of_exists ⟨p0, hp0, hn0⟩
    have hnb : nearB D f xss[xss.findIdx (nearB D f)] = true := List.findIdx_getElem
    have hget : xss[stepK xss D f]? = some xss[xss.findIdx (nearB D f)] := List.getElem?_eq_getElem hlt
    obtain ⟨p, hp⟩ : ∃ p, xss[xss.findIdx (nearB D f)] = p := ⟨_, rfl⟩
    rw [hp] at hnb hget
    have hpm := mem_of_get? hget
    have hdn : dat D (at' p f) = dat D f - 1 := (near_iff hs hi h f0 f1 hpm).1 (of_decide_eq_true hnb)
    have hr := at'_rng (hs p hpm).1 (hs p hpm).2.2 f0 f1
    obtain ⟨h1, h2⟩ := ih (at' p f) hr.1 hr.2 (by omega)
    have e : fwL xss D (d + 1) f = (stepK xss D f : Int) :: fwL xss D d (at' p f) := fwL_step hget rfl
    rw [e]
    refine ⟨?_, fun g hg => ?_⟩
    · show runW xss (fwL xss D d (at' p f)) ((xss.getD ((stepK xss D f : Int)).toNat []).getD f.toNat 0) = x
      rw [Int.toNat_natCast, getD_some hget]
      exact h1
    · rcases List.mem_cons.1 hg with rfl | hg
      · have : stepK xss D f < xss.length := hlt
        omega
      · exact h2 g hg
theorem dia_ge {xss : List (List Int)} {n : Nat} : ∀ k f : Nat, f < k → ∀ v ∈ dist xss n (f : Int), v ≤ diaGo xss n k := by
  intro k
  induction k with
  | zero => intro f hf; omega
  | succ k ih =>
    intro f hf v hv
    rw [diaGo_succ]
    obtain ⟨h1, h2, _⟩ := maxFrom_spec (dist xss n (k : Int)) (diaGo xss n k)
    by_cases e : f = k
    · subst e
      exact h2 v hv
    · have := ih f (by omega) v hv
      omega
end Go.Proofs.Ytbioelmofceaaaa
/- TypP -/
namespace Go.Proofs.Ytbioelmofceaaaa
set_option linter.unusedVariables false
set_option maxRecDepth 100000
/-- how often each of the numbers below c stands in the list -/
def hist (l : List Int) (c : Nat) : List Int := (List.range c).map fun (j : Nat) => (l.count (j : Int) : Int)
theorem hist_length (l : List Int) (c : Nat) : (hist l c).length = c := by simp [hist]
theorem hist_get {l : List Int} {c j : Nat} (h : j < c) : (hist l c)[j]? = some (l.count (j : Int) : Int) := by simp [hist, h]
theorem hist_nil (c : Nat) : hist [] c = List.replicate c 0 := by
  apply List.ext_getElem?
  intro j
  by_cases h : j < c
  · rw [hist_get h]; simp [h]
  · rw [List.getElem?_eq_none (by rw [hist_length]; omega), List.getElem?_eq_none (by simp; omega)]
theorem hist_snoc {l : List Int} {c : Nat} {v : Int} (h0 : 0 ≤ v) (h1 : v < c) : hist (l ++ [v]) c = (hist l c).set v.toNat ((l.count v : Int) + 1) := by
  apply List.ext_getElem?
  intro j
  by_cases h : j < c
  · rw [hist_get h, List.getElem?_set, hist_length]
    by_cases e : v.toNat = j
    · rw [if_pos e, if_pos (by omega)]
      have : (j : Int) = v := by omega
      rw [this]
      simp
    · rw [if_neg e, hist_get h]
      have : ¬ v = (j : Int) := by omega
      simp [this]
  · rw [List.getElem?_eq_none (by rw [hist_length]; omega), List.getElem?_eq_none (by rw [List.length_set, hist_length]; omega)]
theorem hist_le (l : List Int) (c : Nat) : ∀ x ∈ hist l c, 0 ≤ x ∧ x ≤ l.length := by
  intro x hx
  obtain ⟨j, _, rfl⟩ := List.mem_map.1 hx
  have := List.count_le_length (a := (j : Int)) (l := l)
  omega
/-- each number once, in the order of their first places -/
def nub (l : List Int) : List Int := l.foldl (fun o p => if p ∈ o then o else o ++ [p]) []
theorem nub_snoc (l : List Int) (x : Int) : nub (l ++ [x]) = if x ∈ nub l then nub l else nub l ++ [x] := by unfold nub; rw [List.foldl_append]; rfl
theorem nub_mem (l : List Int) : ∀ x, x ∈ nub l ↔ x ∈ l := by
  refine list_rev (P := fun l => ∀ x, x ∈ nub l ↔ x ∈ l) (by simp [nub]) (fun t y ih x => ?_) l
  rw [nub_snoc]
  split
  · next h =>
    rw [ih, List.mem_append, List.mem_singleton]
    constructor
    · exact .inl
    · rintro (h1 | rfl)
      · exact h1
      · exact (ih x).1 h
  · rw [List.mem_append, List.mem_append, ih]
theorem nub_nodup (l : List Int) : (nub l).Nodup := by
  refine list_rev (P := fun l => (nub l).Nodup) (by simp [nub]) (fun t y ih => ?_) l
  rw [nub_snoc]
  split
  · exact ih
  · next h =>
    rw [List.nodup_append]
    refine ⟨ih, by simp, fun a ha b hb => ?_⟩
    simp at hb
    subst hb
    intro e
    subst e
    exact h ha
theorem nub_length (l : List Int) : (nub l).length ≤ l.length := by
  refine list_rev (P := fun l => (nub l).length ≤ l.length) (by simp [nub]) (fun t y ih => ?_) l
  rw [nub_snoc]
  split <;> simp <;> omega
/-- the set of the numbers in ascending order -/
def setL (l : List Int) : List Int := sortL (nub l)
theorem setL_mem (l : List Int) (x : Int) : x ∈ setL l ↔ x ∈ l := ((sortL_perm (nub l)).mem_iff).trans (nub_mem l x)
theorem lt_of_sorted_nodup {l : List Int} (h : Sorted l) (hn : l.Nodup) : l.Pairwise (· < ·) := by
  unfold Sorted at h
  unfold List.Nodup at hn
  exact h.imp₂ (fun a b h1 h2 => by omega) hn
theorem setL_lt (l : List Int) : (setL l).Pairwise (· < ·) := lt_of_sorted_nodup (sortL_sorted _) ((sortL_perm _).nodup_iff.2 (nub_nodup l))
theorem strict_unique {xs ys : List Int} (h1 : xs.Pairwise (· < ·)) (h2 : ys.Pairwise (· < ·)) (h : ∀ x, x ∈ xs ↔ x ∈ ys) : xs = ys := by
  have n1 : xs.Nodup := h1.imp (by intro a b h; omega)
  have n2 : ys.Nodup := h2.imp (by intro a b h; omega)
  exact sorted_unique ((List.perm_ext_iff_of_nodup n1 n2).2 h) (h1.imp (by intro a b h; omega)) (h2.imp (by intro a b h; omega))
theorem setL_unique {ys l : List Int} (h : ys.Pairwise (· < ·)) (hm : ∀ x, x ∈ ys ↔ x ∈ l) : ys = setL l := strict_unique h (setL_lt l) (fun x => (hm x).trans (setL_mem l x).symm)
theorem setL_congr {l l' : List Int} (h : ∀ x, x ∈ l ↔ x ∈ l') : setL l = setL l' := setL_unique (setL_lt l) (fun x => (setL_mem l x).trans (h x))
theorem setL_length (l : List Int) : (setL l).length ≤ l.length := by unfold setL; rw [sortL_length]; exact nub_length l
/-- of a sorted list the neighbours that differ -/
theorem compactUpTo_spec {d : Array Int} (hd : Sorted d.toList) : ∀ m, m ≤ d.size → (Lib.compactUpTo d m).Pairwise (· < ·) ∧ (∀ x, x ∈ Lib.compactUpTo d m ↔ x ∈ d.toList.take m) := by
  intro m
  induction m with
  | zero => intro _; simp [Lib.compactUpTo]
  | succ m ih =>
    intro hm
    obtain ⟨i1, i2⟩ := ih (by omega)
    have hget : d[m]! = d[m] := getElem!_pos d m (by omega)
    have htk : d.toList.take (m + 1) = d.toList.take m ++ [d[m]!] := by
      rw [hget]
      exact take_succ_of (by simp)
    have hle : ∀ x ∈ d.toList.take m, x ≤ d[m]! := by
      intro x hx
      obtain ⟨j, hj, e⟩ := List.mem_iff_getElem.1 hx
      have hjm : j < m := by simp at hj; omega
      have := List.pairwise_iff_getElem.1 hd j m (by simp; omega) (by simp; omega) hjm
      rw [hget]
      simp at e this
      omega
    rw [Lib.compactUpTo_succ, htk]
    by_cases hk : Lib.keeps d m = true
    · rw [if_pos hk]
      refine ⟨?_, fun x => by rw [List.mem_append, List.mem_append, i2]⟩
      rw [List.pairwise_append]
      refine ⟨i1, by simp, fun a ha b hb => ?_⟩
      simp at hb
      subst hb
      have h1 := (i2 a).1 ha
      have h2 := hle a h1
      unfold Lib.keeps at hk
      have hk := of_decide_eq_true hk
      rcases hk with h0 | hne
      · subst h0; simp at h1
      · have h3 : a ≤ d[m - 1]! := by
          obtain ⟨j, hj, e⟩ := List.mem_iff_getElem.1 h1
          have hjm : j < m := by simp at hj; omega
          rw [getElem!_pos d (m - 1) (by omega)]
          by_cases e1 : j = m - 1
          · subst e1; simp at e; omega
          · have := List.pairwise_iff_getElem.1 hd j (m - 1) (by simp; omega) (by simp; omega) (by omega)
            simp at e this
            omega
        have h4 : d[m - 1]! ≤ d[m]! := by
          by_cases h0 : m = 0
          · subst h0; simp at h1
          · refine hle _ ?_
            rw [getElem!_pos d (m - 1) (by omega)]
            refine List.mem_iff_getElem.2 ⟨m - 1, by simp; omega, by simp⟩
        omega
    · rw [if_neg hk, List.append_nil]
      refine ⟨i1, fun x => ?_⟩
      rw [i2, List.mem_append]
      constructor
      · exact .inl
      · rintro (h | h)
        · exact h
        · simp at h
          subst h
          unfold Lib.keeps at hk
          have hk : ¬ (m = 0 ∨ d[m]! ≠ d[m - 1]!) := fun h => hk (decide_eq_true h)
          have h0 : m ≠ 0 := fun h => hk (.inl h)
          have h1 : d[m]! = d[m - 1]! := Classical.byContradiction fun h => hk (.inr h)
          rw [h1, getElem!_pos d (m - 1) (by omega)]
          exact List.mem_iff_getElem.2 ⟨m - 1, by simp; omega, by simp⟩
theorem compact_sorted {zs : List Int} (h : Sorted zs) : Lib.compact zs = setL zs := by
  obtain ⟨h1, h2⟩ := compactUpTo_spec (d := zs.toArray) (by simpa using h) zs.length (by simp)
  refine setL_unique h1 (fun x => ?_)
  have := h2 x
  simpa [Lib.compact] using this
theorem compact_sortL (zs : List Int) : Lib.compact (sortL zs) = setL zs := by
  rw [compact_sorted (sortL_sorted zs)]
  exact setL_congr fun x => (sortL_perm zs).mem_iff
/-- half of each -/
def halves (l : List Int) : List Int := l.map fun s => Int.tdiv s 2
/-- the halves of the numbers of points of the orbits -/
def typI (list : List (List Int)) (n : Nat) : List Int := setL ((List.range n).map fun (f : Nat) => Int.tdiv ((bfs list n (f : Int)).length : Int) 2)
theorem plcCount {xs : List Int} {x : Int} : ∀ k, k ≤ xs.length → (plc xs x k).length = (xs.take k).count x := by
  intro k hk
  induction k with
  | zero => simp [plc]
  | succ k ih =>
    have hg : xs[k]? = some xs[k] := List.getElem?_eq_getElem (by omega)
    rw [take_succ_of hg, List.count_append, plc_succ, List.length_append, ih (by omega), getD_some hg]
    congr 1
    by_cases e : x = xs[k]
    · rw [if_pos e, ← e]; simp
    · rw [if_neg e]
      have e2 : ¬ xs[k] = x := fun h => e h.symm
      simp [e2]
theorem lab_onto {list : List (List Int)} : ∀ n j : Nat, j < cntR list n → ∃ x : Nat, x < n ∧ labOf list x = (j : Int) := by
  intro n
  induction n with
  | zero => intro j hj; simp [cntR] at hj
  | succ n ih =>
    intro j hj
    rw [cntR_succ] at hj
    by_cases hr : rootB list n = true
    · rw [if_pos hr] at hj
      by_cases e : j = cntR list n
      · have hroot : rootOf list n = n := rootOf_eq Rch.refl (fun j hj hh => root_iff.1 hr ⟨j, hj, hh⟩)
        refine ⟨n, by omega, ?_⟩
        unfold labOf
        rw [hroot, e]
      · obtain ⟨x, h1, h2⟩ := ih j (by omega)
        exact ⟨x, by omega, h2⟩
    · rw [if_neg hr, Nat.add_zero] at hj
      obtain ⟨x, h1, h2⟩ := ih j hj
      exact ⟨x, by omega, h2⟩
theorem typI_eq {list : List (List Int)} {n : Nat} (hs : SysOf list n) : setL (halves (hist (labL list n) (cntR list n))) = typI list n := by
  have hcount : ∀ x : Nat, x < n → ((labL list n).count (labOf list x) : Int) = ((bfs list n (x : Int)).length : Int) := by
    intro x hx
    have h1 := places_eq hs hx
    have h2 := plcCount (xs := labL list n) (x := labOf list x) n (by rw [labL_length]; exact Nat.le_refl _)
    rw [List.take_of_length_le (by rw [labL_length]; exact Nat.le_refl _)] at h2
    rw [← h2, h1, sortL_length]
  unfold typI
  refine setL_congr fun v => ?_
  unfold halves
  simp only [List.mem_map]
  constructor
  · rintro ⟨s, hs1, rfl⟩
    obtain ⟨j, hj, rfl⟩ := List.mem_map.1 hs1
    have hj := List.mem_range.1 hj
    obtain ⟨x, hx, e⟩ := lab_onto n j hj
    exact ⟨x, List.mem_range.2 hx, by rw [← hcount x hx, e]⟩
  · rintro ⟨x, hx, rfl⟩
    have hx := List.mem_range.1 hx
    have hl := lab_lt hs hx
    have h0 := labOf_nonneg list x
    refine ⟨((labL list n).count (labOf list x) : Int), ?_, by rw [hcount x hx]⟩
    refine List.mem_map.2 ⟨(labOf list x).toNat, List.mem_range.2 (by omega), by rw [Int.toNat_of_nonneg h0]⟩
theorem typI_ne {list : List (List Int)} {n : Nat} (hn : 0 < n) : ∃ x, (typI list n)[0]? = some x := by
  have h : ∃ y, y ∈ typI list n := ⟨_, (setL_mem _ _).2 (List.mem_map.2 ⟨0, List.mem_range.2 hn, rfl⟩)⟩
  obtain ⟨y, hy⟩ := h
  cases e : typI list n with
  | nil => rw [e] at hy; simp at hy
  | cons a l => exact ⟨a, rfl⟩
theorem typI_length (list : List (List Int)) (n : Nat) : (typI list n).length ≤ n := by
  have := setL_length ((List.range n).map fun (f : Nat) => Int.tdiv ((bfs list n (f : Int)).length : Int) 2)
  rw [List.length_map, List.length_range] at this
  exact this
/-- the type -/
def typL (xss : List (List Int)) (n : Nat) : List (List Int) := (List.range (xss.length - 1)).map fun i => typI (subL xss i (i + 2)) n
theorem typL_length (xss : List (List Int)) (n : Nat) : (typL xss n).length = xss.length - 1 := by simp [typL]
theorem typL_get {xss : List (List Int)} {n k : Nat} (h : k < xss.length - 1) : (typL xss n)[k]? = some (typI (subL xss k (k + 2)) n) := by simp [typL, h]
end Go.Proofs.Ytbioelmofceaaaa
/- IsoQ -/
namespace Go.Proofs.Ytbioelmofceaaaa
set_option linter.unusedVariables false
set_option maxRecDepth 100000
theorem iso_rch_iff {m n : Nat} {φ : Int → Int} {ys zs : List (List Int)} (hs : SysOf ys m) (hI : Iso ys zs m n φ) {x y : Int} (h0 : 0 ≤ x) (h1 : x < m) (y0 : 0 ≤ y) (y1 : y < m) : Rch zs (φ x) (φ y) ↔ Rch ys x y := by
  refine ⟨fun h => ?_, fun h => iso_rch hs hI h0 h1 h⟩
  obtain ⟨u, e, u0, u1, hu⟩ := iso_rch_back hs hI h0 h1 h
  have := hI.inj y u y0 y1 u0 u1 e
  rwa [this]
/-- not more orbits than where it is carried to -/
theorem cnt_le {m n : Nat} {φ : Int → Int} {ys zs : List (List Int)} (hs : SysOf ys m) (ht : SysOf zs n) (hI : Iso ys zs m n φ) : cntR ys m ≤ cntR zs n := by
  have key : ∀ r : Nat, r < m → (φ (r : Int)).toNat < n ∧ (((φ (r : Int)).toNat : Nat) : Int) = φ (r : Int) := fun r hr => by
    have := hI.rng (r : Int) (by omega) (by omega)
    omega
  have e : cntR ys m = (((List.range m).filter (rootB ys)).map fun (r : Nat) => rootOf zs (φ (r : Int)).toNat).length := by simp [cntR]
  rw [e]
  refine nodup_sub_len _ ((List.range n).filter (rootB zs)) ?_ ?_
  · rw [List.nodup_iff_pairwise_ne, List.pairwise_map]
    refine List.Pairwise.imp_of_mem ?_ (List.Pairwise.filter _ List.pairwise_lt_range)
    intro a b ha hb hab eab
    rw [List.mem_filter, List.mem_range] at ha hb
    obtain ⟨ka, ea⟩ := key a ha.1
    obtain ⟨kb, eb⟩ := key b hb.1
    have h1 := (rootOf_spec zs (φ (a : Int)).toNat).1
    have h2 := (rootOf_spec zs (φ (b : Int)).toNat).1
    have hr := rootOf_le zs (φ (a : Int)).toNat
    have h3 := h1.symm ht (by omega) (by omega)
    rw [eab] at h3
    have h4 := h3.trans h2
    rw [ea, eb] at h4
    have h5 := (iso_rch_iff hs hI (by omega) (by omega) (by omega) (by omega)).1 h4
    exact (root_iff.1 hb.2) ⟨a, hab, h5⟩
  · intro t ht'
    obtain ⟨r, hr, rfl⟩ := List.mem_map.1 ht'
    rw [List.mem_filter, List.mem_range] at hr
    obtain ⟨ka, _⟩ := key r hr.1
    rw [List.mem_filter, List.mem_range]
    have := rootOf_le zs (φ (r : Int)).toNat
    exact ⟨by omega, rootB_rootOf ht ka⟩
theorem Iso.erase {ys zs : List (List Int)} {m n : Nat} {φ : Int → Int} (h : Iso ys zs m n φ) (i : Nat) : Iso (ys.eraseIdx i) (zs.eraseIdx i) m n φ := by
  refine ⟨?_, h.le, h.rng, h.inj, fun k q p hq hp => ?_⟩
  · rw [List.length_eraseIdx, List.length_eraseIdx, h.len]
  · rw [List.getElem?_eraseIdx] at hq hp
    by_cases e : k < i
    · rw [if_pos e] at hq hp
      exact h.com _ q p hq hp
    · rw [if_neg e] at hq hp
      exact h.com _ q p hq hp
theorem typ_le {m n : Nat} {φ : Int → Int} {ys zs : List (List Int)} (hs : SysOf ys m) (hI : Iso ys zs m n φ) : ∀ v, v ∈ typI ys m → v ∈ typI zs n := by
  intro v hv
  unfold typI at hv ⊢
  rw [setL_mem, List.mem_map] at hv ⊢
  obtain ⟨g, hg, rfl⟩ := hv
  have hg := List.mem_range.1 hg
  have hr := hI.rng (g : Int) (by omega) (by omega)
  have e := iso_len hs hI (x := (g : Int)) (by omega) (by omega)
  refine ⟨(φ (g : Int)).toNat, List.mem_range.2 (by omega), ?_⟩
  rw [Int.toNat_of_nonneg hr.1, e]
theorem typ_same {n : Nat} {φ ψ : Int → Int} {ys zs : List (List Int)} (hs : SysOf ys n) (ht : SysOf zs n) (hI : Iso ys zs n n φ) (hJ : Iso zs ys n n ψ) : typI ys n = typI zs n :=
  strict_unique (setL_lt _) (setL_lt _) fun v => ⟨typ_le hs hI v, typ_le ht hJ v⟩
theorem bool_two {a b c : Bool} (h : a ≠ b) (g : c ≠ b) : a = c := by cases a <;> cases b <;> cases c <;> simp_all
/-- two colours that each move changes -/
def Two2 (xss : List (List Int)) (n : Nat) (c : Int → Bool) : Prop := ∀ p ∈ xss, ∀ z : Int, 0 ≤ z → z < n → c (at' p z) ≠ c z
theorem col_iff {xss : List (List Int)} {n : Nat} {x : Int} {D : List Int} (hs : SysOf xss n) (hD : DFin xss n x D) : colB xss n D = true ↔ ∃ c, Two2 xss n c := by
  constructor
  · intro h
    refine ⟨fun z => decide (dat D z % 2 = 0), fun p hp z z0 z1 e => ?_⟩
    unfold colB at h
    have h1 := List.all_eq_true.1 h z.toNat (List.mem_range.2 (by omega))
    unfold edgesB at h1
    have h2 := List.all_eq_true.1 h1 p hp
    rw [Int.toNat_of_nonneg z0] at h2
    unfold edgeB at h2
    have h3 := of_decide_eq_true h2
    have e := decide_eq_decide.1 e
    omega
  · rintro ⟨c, hc⟩
    have key : ∀ (k : Nat) (z : Int), 0 ≤ z → z < n → dat D z = k → (c z = c x ↔ k % 2 = 0) := by
      intro k
      induction k with
      | zero =>
        intro z z0 z1 h
        have := (dist_zero hD z0 z1).2 h
        subst this
        simp
      | succ k ih =>
        intro z z0 z1 h
        have hne : z ≠ x := fun e => by
          have := (dist_zero hD z0 z1).1 e
          omega
        obtain ⟨y, p, hp, y0, y1, e, hd⟩ := hD.par z z0 z1 hne
        have h1 := ih y y0 y1 (by omega)
        have h2 := hc p hp y y0 y1
        rw [← e] at h2
        by_cases hk : k % 2 = 0
        · rw [h1.2 hk] at h2
          exact ⟨fun g => absurd g h2, fun g => by omega⟩
        · exact ⟨fun _ => by omega, fun _ => bool_two h2 (fun g => hk (h1.1 g.symm))⟩
    unfold colB
    rw [List.all_eq_true]
    intro f hf
    have hf := List.mem_range.1 hf
    unfold edgesB
    rw [List.all_eq_true]
    intro p hp
    unfold edgeB
    have hr := at'_rng (hs p hp).1 (hs p hp).2.2 (show (0 : Int) ≤ (f : Int) by omega) (by omega)
    have r1 := hD.rng (f : Int) (by omega) (by omega)
    have r2 := hD.rng _ hr.1 hr.2
    have k1 := key (dat D (f : Int)).toNat (f : Int) (by omega) (by omega) (by omega)
    have k2 := key (dat D (at' p (f : Int))).toNat _ hr.1 hr.2 (by omega)
    have h2 := hc p hp (f : Int) (by omega) (by omega)
    refine decide_eq_true (fun e => ?_)
    have e2 : (dat D (at' p (f : Int))).toNat % 2 = (dat D (f : Int)).toNat % 2 := by omega
    rw [e2] at k2
    have : c (at' p (f : Int)) = c x ↔ c (f : Int) = c x := k2.trans k1.symm
    by_cases hx : c (f : Int) = c x
    · exact h2 ((this.2 hx).trans hx.symm)
    · exact h2 (bool_two (fun g => hx (this.1 g)) hx)
theorem two_back {m n : Nat} {φ : Int → Int} {ys zs : List (List Int)} (hs : SysOf ys m) (hI : Iso ys zs m n φ) {c : Int → Bool} (h : Two2 zs n c) : Two2 ys m (fun z => c (φ z)) := by
  intro q hq z z0 z1
  obtain ⟨j, hj⟩ := List.mem_iff_getElem?.1 hq
  have hj2 : j < zs.length := by have := (List.getElem?_eq_some_iff.1 hj).1; have := hI.len; omega
  have hr := hI.rng z z0 z1
  show c (φ (at' q z)) ≠ c (φ z)
  rw [hI.com j q _ hj (List.getElem?_eq_getElem hj2) z z0 z1]
  exact h _ (List.getElem_mem hj2) _ hr.1 hr.2
/-- distances do not grow -/
theorem iso_dist_le {m n : Nat} {φ : Int → Int} {ys zs : List (List Int)} {x : Int} {D E : List Int} (hs : SysOf ys m) (hI : Iso ys zs m n φ) (hD : DFin ys m x D) (hE : DFin zs n (φ x) E) : ∀ (k : Nat) (z : Int), 0 ≤ z → z < m → dat D z = k → dat E (φ z) ≤ k := by
  intro k
  induction k with
  | zero =>
    intro z z0 z1 h
    have := (dist_zero hD z0 z1).2 h
    subst this
    rw [hE.zero]
    omega
  | succ k ih =>
    intro z z0 z1 h
    have hne : z ≠ x := fun e => by
      have := (dist_zero hD z0 z1).1 e
      omega
    obtain ⟨y, p, hp, y0, y1, e, hd⟩ := hD.par z z0 z1 hne
    have h1 := ih y y0 y1 (by omega)
    obtain ⟨j, hj⟩ := List.mem_iff_getElem?.1 hp
    have hj2 : j < zs.length := by have := (List.getElem?_eq_some_iff.1 hj).1; have := hI.len; omega
    have hr := hI.rng y y0 y1
    have h2 := hE.lip (φ y) _ hr.1 hr.2 (List.getElem_mem hj2)
    rw [← hI.com j p _ hj (List.getElem?_eq_getElem hj2) y y0 y1, ← e] at h2
    omega
end Go.Proofs.Ytbioelmofceaaaa
/- SphP -/
namespace Go.Proofs.Ytbioelmofceaaaa
set_option linter.unusedVariables false
set_option maxRecDepth 100000
theorem conn_lenR {xss : List (List Int)} {n : Nat} {x : Int} (hs : SysOf xss n) (hc : Conn xss n) (h0 : 0 ≤ x) (h1 : x < n) : (bfs xss n x).length = n := by
  have hm := bfs_met hs h0 h1
  have := hm.len
  have := met_full (n := n) (out := bfs xss n x) (fun z z0 z1 => (bfs_mem hs h0 h1).2 (hc x z h0 h1 z0 z1))
  omega
theorem iso_surjR {ys zs : List (List Int)} {n : Nat} {φ : Int → Int} (hI : Iso ys zs n n φ) {u : Int} (u0 : 0 ≤ u) (u1 : u < n) : ∃ z : Int, 0 ≤ z ∧ z < n ∧ φ z = u := by
  have hnd : ((List.range n).map fun (r : Nat) => φ (r : Int)).Nodup := by
    rw [List.nodup_iff_pairwise_ne, List.pairwise_map]
    refine List.Pairwise.imp_of_mem ?_ List.pairwise_lt_range
    intro a b ha hb hab e
    have := hI.inj (a : Int) (b : Int) (by omega) (by have := List.mem_range.1 ha; omega) (by omega) (by have := List.mem_range.1 hb; omega) e
    omega
  have hsub : ∀ a ∈ ((List.range n).map fun (r : Nat) => φ (r : Int)), a ∈ (List.range n).map Int.ofNat := by
    intro a ha
    obtain ⟨r, hr, rfl⟩ := List.mem_map.1 ha
    exact mem_ints.2 (hI.rng (r : Int) (by omega) (by have := List.mem_range.1 hr; omega))
  have := mem_of_full hnd hsub (by simp) (mem_ints.2 ⟨u0, u1⟩)
  obtain ⟨r, hr, e⟩ := List.mem_map.1 this
  exact ⟨(r : Int), by omega, by have := List.mem_range.1 hr; omega, e⟩
/-- what carries all of it over has an inverse -/
theorem iso_invR {ys zs : List (List Int)} {n : Nat} {φ : Int → Int} (hS : SysOf ys n) (hT : SysOf zs n) (hI : Iso ys zs n n φ) : ∃ ψ, Iso zs ys n n ψ := by
  have hc : ∀ u : Int, ∃ z : Int, (0 ≤ u → u < n → 0 ≤ z ∧ z < n ∧ φ z = u) := by
    intro u
    by_cases h : 0 ≤ u ∧ u < n
    · obtain ⟨z, z0, z1, e⟩ := iso_surjR hI h.1 h.2
      exact ⟨z, fun _ _ => ⟨z0, z1, e⟩⟩
    · exact ⟨0, fun a b => absurd ⟨a, b⟩ h⟩
  refine ⟨fun u => Classical.choose (hc u), hI.len.symm, Nat.le_refl _, fun u u0 u1 => ?_, fun u v u0 u1 v0 v1 e => ?_, fun j p q hp hq u u0 u1 => ?_⟩
  · have := Classical.choose_spec (hc u) u0 u1
    exact ⟨this.1, this.2.1⟩
  · have a := (Classical.choose_spec (hc u) u0 u1).2.2
    have b := (Classical.choose_spec (hc v) v0 v1).2.2
    have e : Classical.choose (hc u) = Classical.choose (hc v) := e
    rw [← a, ← b, e]
  · obtain ⟨a0, a1, a2⟩ := Classical.choose_spec (hc u) u0 u1
    have hp' := hT p (mem_of_get? hp)
    have hr := at'_rng hp'.1 hp'.2.2 u0 u1
    obtain ⟨b0, b1, b2⟩ := Classical.choose_spec (hc (at' p u)) hr.1 hr.2
    have hq' := hS q (mem_of_get? hq)
    have hr2 := at'_rng hq'.1 hq'.2.2 a0 a1
    refine hI.inj _ _ b0 b1 hr2.1 hr2.2 ?_
    have := hI.com j q p hq hp _ a0 a1
    rw [b2, this, a2]
/-- the Euler number of a maniplex -/
noncomputable def eulN (zs : List (List Int)) : Int := eulGo (cntsL zs (flg zs)) zs.length
theorem cnts_iso {ys zs : List (List Int)} {n : Nat} {φ : Int → Int} (hS : SysOf ys n) (hT : SysOf zs n) (hI : Iso ys zs n n φ) : cntsL ys n = cntsL zs n := by
  obtain ⟨ψ, hJ⟩ := iso_invR hS hT hI
  unfold cntsL
  rw [hI.len]
  refine List.map_congr_left fun i _ => ?_
  have hse : SysOf (ys.eraseIdx i) n := fun p hp => hS p (List.mem_of_mem_eraseIdx hp)
  have hte : SysOf (zs.eraseIdx i) n := fun p hp => hT p (List.mem_of_mem_eraseIdx hp)
  have h1 := cnt_le hse hte (hI.erase i)
  have h2 := cnt_le hte hse (hJ.erase i)
  have : cntR (ys.eraseIdx i) n = cntR (zs.eraseIdx i) n := Nat.le_antisymm h1 h2
  rw [this]
/-- a form of a maniplex has its Euler number -/
theorem eul_form {F : List (List Int)} (hP : ManP F) {x : Int} (x0 : 0 ≤ x) (x1 : x < flg F) : eulN (formL F (flg F) x) = eulN F := by
  have hS := hP.sys
  have hl := conn_lenR hS hP.conn x0 x1
  have hr := hP.r1
  have hI := form_iso hS x0 x1
  have hT := form_sys hS x0 x1
  rw [hl] at hI hT
  unfold eulN
  rw [flg_form hr, hl, formL_length, cnts_iso hT hS hI]
theorem eul_least {F : List (List Int)} (hP : ManP F) : eulN (leastGo F (flg F) (flg F)) = eulN F := by
  obtain ⟨g, hg, e⟩ := leastGo_form F (flg F) (flg F)
  rw [e]
  have := hP.f2
  exact eul_form hP (by omega) (by omega)
/-- the Euler number is the same for all flags of an orbit -/
theorem eul_orbit {xss : List (List Int)} (hP : ManP xss) {N I J : Nat} (hN : flg xss = N) (hIJ : I < J) (hJ : J ≤ xss.length) {r f : Nat} (hr : r < N) (hf : f < N) (e : labOf (subL xss I J) r = labOf (subL xss I J) f) :
    eulN (formL (subL xss I J) N (f : Int)) = eulN (formL (subL xss I J) N (r : Int)) := by
  have hS : SysOf (subL xss I J) N := by
    have := hP.sys
    rw [hN] at this
    exact sysOf_sub this I J
  obtain ⟨hM, hfl⟩ := sec_man hP hN hIJ hJ (f := (r : Int)) (by omega) (by omega)
  have hR := (labOf_eq_iff hS hr hf).1 e
  have hm := (bfs_mem hS (x := (r : Int)) (by omega) (by omega)).2 hR
  obtain ⟨z, hz⟩ := List.mem_iff_getElem?.1 hm
  have hzl := (List.getElem?_eq_some_iff.1 hz).1
  have hI := form_iso hS (x := (r : Int)) (by omega) (by omega)
  have hT := form_sys hS (x := (r : Int)) (by omega) (by omega)
  have ef := iso_form hT hI (x := (z : Int)) (by omega) (by omega)
  have ez : (bfs (subL xss I J) N (r : Int)).getD ((z : Int)).toNat 0 = (f : Int) := by
    rw [Int.toNat_natCast]; exact getD_some hz
  simp only [ez] at ef
  rw [ef, ← hfl]
  exact eul_form hM (by omega) (by rw [hfl]; omega)
theorem sph_iff {xss : List (List Int)} (hP : ManP xss) {N I J : Nat} (hN : flg xss = N) (hIJ : I < J) (hJ : J ≤ xss.length) :
    (∀ x ∈ ownC (subL xss I J) N, eulN x = 2) ↔ ∀ f : Nat, f < N → eulN (formL (subL xss I J) N (f : Int)) = 2 := by
  have hS : SysOf (subL xss I J) N := by
    have := hP.sys
    rw [hN] at this
    exact sysOf_sub this I J
  constructor
  · intro h f hf
    have h1 := labOf_nonneg (subL xss I J) f
    have h2 := lab_lt hS hf
    obtain ⟨c, hc⟩ := Int.eq_ofNat_of_zero_le h1
    obtain ⟨r, hr, hi, hl⟩ := idx_lab (c := c) hS (by omega)
    have hx := h _ (List.mem_of_getElem? (ownC_get (ys := subL xss I J) (N := N) (c := c) (by omega)))
    have hM := (sec_man hP hN hIJ hJ (f := (r : Int)) (by omega) (by omega)).1
    unfold frmL at hx
    rw [hi, eul_least hM] at hx
    rw [eul_orbit hP hN hIJ hJ hr hf (by rw [hl, hc])]
    exact hx
  · intro h x hx
    obtain ⟨c, hc⟩ := List.mem_iff_getElem?.1 hx
    have hcl : c < cntR (subL xss I J) N := by
      have := (List.getElem?_eq_some_iff.1 hc).1
      rwa [ownC_length] at this
    rw [ownC_get hcl] at hc
    obtain ⟨r, hr, hi, hl⟩ := idx_lab (c := c) hS hcl
    have hM := (sec_man hP hN hIJ hJ (f := (r : Int)) (by omega) (by omega)).1
    have e := Option.some.inj hc
    rw [← e]
    unfold frmL
    rw [hi, eul_least hM]
    exact h r hr
end Go.Proofs.Ytbioelmofceaaaa
/- SecH -/
namespace Go.Proofs.Ytbioelmofceaaaa
open Go.RowKit
set_option linter.unusedVariables false
set_option maxRecDepth 100000
/-- all of a list are equal -/
def AllSame (own : List (List (List Int))) : Prop := ∀ x ∈ own, ∀ y ∈ own, x = y
open Classical in
/-- what HasEqualFacets returns -/
noncomputable def eqfF (xss : List (List Int)) : Bool × Int := if isManB xss = true then if xss.length = 1 then (false, 5) else (decide (AllSame (ownC (subL xss 0 (xss.length - 1)) (flg xss))), 0) else (false, 1)
open Classical in
theorem eqf_val {xss : List (List Int)} {t : Bool} (hM : isManB xss = true) (h1 : xss.length ≠ 1) (h : t = true ↔ AllSame (ownC (subL xss 0 (xss.length - 1)) (flg xss))) : eqfF xss = (t, 0) := by
  unfold eqfF
  rw [if_pos hM, if_neg h1]
  congr 1
  cases t
  · apply decide_eq_false
    intro k
    have := h.2 k
    cases this
  · exact decide_eq_true (h.1 rfl)
set_option maxHeartbeats 4000000 in
theorem i_HasEqualFacets_any (w : World) (A : Option Addr) (n c : Nat) (xss : List (List Int)) {lo hi : Nat} (h : RS w lo hi A n xss) (hhi : hi ≤ w.heap.size) (hnc : n ≤ c) :
    Calls Try.prog 23 #[.agg #[.slice A n c]] w fun e w' => ∃ (y : Bool) (code : Int), e = .returned (.tuple #[.bool y, .int .i64 code]) ∧ Hid ((y, code) = eqfF xss) ∧ Below w.heap.size w w' := by
  have hm := h.max
  have hl := h.len
  have hR := rs_alloc h hhi (.cells #[.slice A n c] 38)
  have hC : (w.alloc (.cells #[.slice A n c] 38)).cell? ⟨w.heap.size, 0, none⟩ = some (.slice A n c) := al_new _ _ _ _ rfl
  have hB : Below w.heap.size w (w.alloc (.cells #[.slice A n c] 38)) := (Below.refl _ _).alloc (Nat.le_refl _) _
  obtain ⟨t, hM⟩ : ∃ t, isManB xss = t := ⟨_, rfl⟩
  have hIs := isMan_any A n c xss (w.alloc (.cells #[.slice A n c] 38)) hR (by simp; omega) hnc
  rw [hM] at hIs
  cases t with
  | false =>
    have hF : eqfF xss = (false, 1) := by unfold eqfF; rw [hM]; rfl
    replace hF := Lib.hid hF
    replace hM := Lib.hid hM
    go_enter Try.func23, Try.ntmps23
    go_wp2_with fail
    ((with_reducible refine hIs.mono ?_); rintro e w2 ⟨rfl, f2⟩)
    have B2 := hB.trans (f2.mono (by simp))
    go_wp2_with fail
    go_ret2
    exact ⟨_, _, rfl, Lib.hid hF.out.symm, B2⟩
  | true =>
    have hP := isManB_iff.1 hM
    have hr1 := hP.r1
    have hr5 := hP.r5
    by_cases h1 : n = 1
    · have hF : eqfF xss = (false, 5) := by unfold eqfF; rw [if_pos hM, if_pos (by omega)]
      have d1 : ((n : Int) == 1) = true := by simp; omega
      replace hF := Lib.hid hF
      replace hM := Lib.hid hM
      replace h1 := Lib.hid h1
      replace hl := Lib.hid hl
      go_enter Try.func23, Try.ntmps23
      go_wp2_with fail
      ((with_reducible refine hIs.mono ?_); rintro e w2 ⟨rfl, f2⟩)
      have B2 := hB.trans (f2.mono (by simp))
      have C2 := (f2.cell (p := ⟨w.heap.size, 0, none⟩) (by simp)).trans hC
      go_wp2_with fail
      ((with_reducible refine (rank_any _ A n c w2 C2 (by omega)).mono ?_); rintro e w' ⟨rfl, rfl⟩)
      go_wp2_with fail
      go_ret2
      exact ⟨_, _, rfl, Lib.hid hF.out.symm, B2⟩
    · have d1 : ((n : Int) == 1) = false := by simp; omega
      have hn2 : 2 ≤ n := by omega
      have hv : ∀ t : Bool, (t = true ↔ AllSame (ownC (subL xss 0 (n - 1)) (flg xss))) → eqfF xss = (t, 0) := fun t ht => eqf_val hM (by omega) (by rw [hl]; exact ht)
      replace hv := Lib.hid hv
      replace hM := Lib.hid hM
      clear h1
      replace hl := Lib.hid hl
      go_enter Try.func23, Try.ntmps23
      go_wp2_with fail
      ((with_reducible refine hIs.mono ?_); rintro e w2 ⟨rfl, f2⟩)
      have B2 := hB.trans (f2.mono (by simp))
      have C2 := (f2.cell (p := ⟨w.heap.size, 0, none⟩) (by simp)).trans hC
      have R2 := hR.below f2 (by simp; omega)
      have y2 := B2.size
      have z2 : w.heap.size < w2.heap.size := by have := f2.size; simp at this; omega
      have hRk := rank_any _ A n c w2 C2 (by omega)
      have hSF := sectionForms_any w.heap.size A n c xss (flg xss) 0 (n - 1) 0 ((n : Int) - 2) rfl (by omega) w2 C2 z2 R2 (by omega) hnc (by omega) (by omega) hP rfl
      clear hIs C2 R2 hR hC f2 hP
      go_wp2_with fail
      ((with_reducible refine hRk.mono ?_); rintro e w' ⟨rfl, rfl⟩)
      go_wp2_with fail
      ((with_reducible refine hRk.mono ?_); rintro e w' ⟨rfl, rfl⟩)
      go_wp2_with fail
      ((with_reducible refine hSF.mono ?_); rintro e w3 ⟨A1, c1, A2, c2, fs, rfl, _, _, hs, f3⟩)
      have B3 := B2.trans (f3.mono y2)
      go_wp2_with fail
      go_ret2
      refine ⟨_, _, rfl, Lib.hid (hv.out _ ?_).symm, B3⟩
      unfold AllSame
      rw [← hs.2.2]
      simp; omega
end Go.Proofs.Ytbioelmofceaaaa
/- InsP -/
namespace Go.Proofs.Ytbioelmofceaaaa
set_option linter.unusedVariables false
/-- how many from the start on are less than f -/
def atF (f : List (List Int)) : List VF → Nat
  | [] => 0
  | x :: r => if cmpF x.2 f < 0 then atF f r + 1 else 0
theorem atF_le (f : List (List Int)) : ∀ l : List VF, atF f l ≤ l.length
  | [] => by simp [atF]
  | x :: r => by
    have := atF_le f r
    unfold atF
    split <;> simp <;> omega
def insF (l : List VF) (p : VF) : List VF := if (l[atF p.2 l]?).map (·.2) = some p.2 then l else l.take (atF p.2 l) ++ p :: l.drop (atF p.2 l)
def listF (ps : List VF) : List VF := ps.foldl insF []
theorem insF_len (l : List VF) (p : VF) : l.length ≤ (insF l p).length := by
  unfold insF
  have := atF_le p.2 l
  split
  · omega
  · simp; omega
theorem insF_one_same {x p : VF} (h : p.2 = x.2) : insF [x] p = [x] := by
  have e : cmpF x.2 p.2 = 0 := by have := cmpF_anti x.2 x.2; rw [h]; omega
  have a0 : atF p.2 [x] = 0 := by unfold atF; rw [if_neg (by omega)]
  unfold insF
  rw [a0, if_pos (by simp [h])]
theorem insF_one_other {x p : VF} (h : p.2 ≠ x.2) : (insF [x] p).length = 2 := by
  unfold insF
  by_cases e : cmpF x.2 p.2 < 0
  · have a1 : atF p.2 [x] = 1 := by unfold atF; rw [if_pos e]; rfl
    rw [a1, if_neg (by simp)]
    simp
  · have a0 : atF p.2 [x] = 0 := by unfold atF; rw [if_neg e]
    rw [a0, if_neg (by simpa using Ne.symm h)]
    simp
theorem foldl_len (ps : List VF) : ∀ l : List VF, l.length ≤ (ps.foldl insF l).length := by
  induction ps with
  | nil => intro l; exact Nat.le_refl _
  | cons p r ih => intro l; exact Nat.le_trans (insF_len l p) (ih _)
theorem foldl_one (ps : List VF) (x : VF) : (ps.foldl insF [x]).length = 1 ↔ ∀ p ∈ ps, p.2 = x.2 := by
  induction ps with
  | nil => simp
  | cons p r ih =>
    rw [List.foldl_cons]
    by_cases h : p.2 = x.2
    · rw [insF_one_same h, ih]
      constructor
      · intro k q hq
        rcases List.mem_cons.1 hq with e | e
        · rw [e]; exact h
        · exact k q e
      · intro k q hq; exact k q (List.mem_cons_of_mem _ hq)
    · have h2 := foldl_len r (insF [x] p)
      rw [insF_one_other h] at h2
      constructor
      · intro k; omega
      · intro k; exact absurd (k p List.mem_cons_self) h
/-- the list has length 1 exactly if all are equal -/
theorem listF_one {ps : List VF} (h0 : 0 < ps.length) : (listF ps).length = 1 ↔ ∀ p ∈ ps, ∀ q ∈ ps, p.2 = q.2 := by
  cases ps with
  | nil => simp at h0
  | cons x r =>
    unfold listF
    rw [List.foldl_cons, show insF [] x = [x] from by simp [insF, atF], foldl_one]
    constructor
    · intro h p hp q hq
      have hx : ∀ z ∈ x :: r, z.2 = x.2 := fun z hz => by
        rcases List.mem_cons.1 hz with e | e
        · rw [e]
        · exact h z e
      rw [hx p hp, hx q hq]
    · intro h p hp
      exact h p (List.mem_cons_of_mem _ hp) x List.mem_cons_self
end Go.Proofs.Ytbioelmofceaaaa
/- SamS -/
namespace Go.Proofs.Ytbioelmofceaaaa
open Go.RowKit
set_option linter.unusedVariables false
set_option maxRecDepth 100000
set_option maxHeartbeats 4000000 in
theorem l01Same2_any (A : Option Addr) (n c : Nat) (xs : List (List Int)) (A' : Option Addr) (n' c' : Nat) (ys : List (List Int)) (w : World) {lo hi lo' hi' : Nat} (h : RS w lo hi A n xs) (hhi : hi ≤ w.heap.size) (h' : RS w lo' hi' A' n' ys) (hhi' : hi' ≤ w.heap.size) :
    Calls Try.prog 130 #[.slice A n c, .slice A' n' c'] w fun e w' => e = .returned (.bool (decide (xs = ys))) ∧ Below w.heap.size w w' := by
  have hm := h.max
  have hm' := h'.max
  have hl := Lib.hid h.len
  have hl' := Lib.hid h'.len
  by_cases hne : n = n'
  · subst hne
    go_enter Try.func130, Try.ntmps130
    go_wp2_with fail
    go_loopw [5] (fun kv wq => ∃ k : Nat, k ≤ n ∧ kv = .int .i64 k ∧ Hid (∀ j, j < k → xs[j]? = ys[j]?) ∧ Below w.heap.size w wq) (fun kv _ => n - (intOf kv).toNat)
    case atStart => exact ⟨0, by omega, rfl, Lib.hid fun j hj => absurd hj (by omega), Below.refl _ _⟩
    case round =>
      obtain ⟨k, hk, rfl, hys, hb⟩ := hrel
      by_cases hlt : k < n
      · obtain ⟨b, o, Ak, nk, ck, x, rfl, _, hbu, hx, hcx, hrx⟩ := (h.below hb hhi).at_ hlt
        obtain ⟨b', o', Ak', nk', ck', y, rfl, _, hbu', hy, hcy, hry⟩ := (h'.below hb hhi').at_ hlt
        replace hx := Lib.hid hx
        replace hy := Lib.hid hy
        have hhb : hi ≤ wr.heap.size := Nat.le_trans hhi hb.size
        have hhb' : hi' ≤ wr.heap.size := Nat.le_trans hhi' hb.size
        haveI := Since.ne wr
        have d1 : ∀ u : Since wr, u.val.cell? ⟨b, o + k, none⟩ = some (.slice Ak nk ck) := fun u => (u.ok.cell (p := ⟨b, o + k, none⟩) (by simp; omega)).trans hcx
        have d2 : ∀ u : Since wr, u.val.cell? ⟨b', o' + k, none⟩ = some (.slice Ak' nk' ck') := fun u => (u.ok.cell (p := ⟨b', o' + k, none⟩) (by simp; omega)).trans hcy
        have hpn : 0 < n := by omega
        have hpn2 : ¬ n = 0 := by omega
        by_cases hxy : x = y
        · have hsm : decide (x = y) = true := decide_eq_true hxy
          replace hxy := Lib.hid hxy
          replace hsm := Lib.hid hsm
          go_wp2_with fail
          refine wp_region_since_lit (by kernel_rfl) (by kernel_rfl) ?_
          repeat (go_big_quiet_step ((go_at_call 146; refine since_call (hsm.out ▸ l01Same_any _ _ _ x _ _ _ y _ (hrx.below (Since.ok _) hhb) ?_ (hry.below (Since.ok _) hhb') ?_); exact Nat.le_trans hhb (Since.ok _).size; exact Nat.le_trans hhb' (Since.ok _).size)))
          refine wpQuiet_nil ?_
          intro w2 hw2
          have hb2 : Below wr.heap.size wr w2 := by obtain ⟨u, hu⟩ := hw2; rw [hu]; exact u.ok
          clear hw2 d1 d2
          have hbz := hb.size
          have hb3 := below_then hb hb2 hbz
          go_wp2_with fail
          go_roundw
          case measure => simp [intOf]; omega
          case rel =>
            refine ⟨k + 1, by omega, by go_num, Lib.hid fun j hj => ?_, hb3⟩
            by_cases e : j = k
            · subst e; rw [hx.out, hy.out, hxy.out]
            · exact hys.out j (by omega)
        · have hsm : decide (x = y) = false := decide_eq_false hxy
          replace hxy := Lib.hid hxy
          replace hsm := Lib.hid hsm
          go_wp2_with fail
          refine wp_region_since_lit (by kernel_rfl) (by kernel_rfl) ?_
          repeat (go_big_quiet_step ((go_at_call 146; refine since_call (hsm.out ▸ l01Same_any _ _ _ x _ _ _ y _ (hrx.below (Since.ok _) hhb) ?_ (hry.below (Since.ok _) hhb') ?_); exact Nat.le_trans hhb (Since.ok _).size; exact Nat.le_trans hhb' (Since.ok _).size)))
          refine wpQuiet_nil ?_
          intro w2 hw2
          have hb2 : Below wr.heap.size wr w2 := by obtain ⟨u, hu⟩ := hw2; rw [hu]; exact u.ok
          clear hw2 d1 d2
          have hbz := hb.size
          have hb3 := below_then hb hb2 hbz
          go_wp2_with fail
          go_ret
          refine ⟨ret_bool ?_, hb3⟩
          symm
          apply decide_eq_false
          rintro rfl
          exact hxy.out (Option.some.inj (hx.out.symm.trans hy.out))
      · go_wp2_with fail
        go_ret
        refine ⟨ret_bool ?_, hb⟩
        have hl := hl.out
        have hl' := hl'.out
        symm
        apply decide_eq_true
        exact list_ext_upto k (by omega) (by omega) hys.out
  · have hne' : ((n : Int) != (n' : Int)) = true := by simp; omega
    go_enter Try.func130, Try.ntmps130
    go_wp2_with fail
    go_ret
    refine ⟨ret_bool ?_, Below.refl _ _⟩
    have hl := hl.out
    have hl' := hl'.out
    symm
    apply decide_eq_false
    rintro rfl
    omega
theorem l02Same_any (A : Option Addr) (n c : Nat) (xss : List (List Int)) (A' : Option Addr) (n' c' : Nat) (yss : List (List Int)) (w : World) {lo hi lo' hi' : Nat} (h : RS w lo hi A n xss) (hhi : hi ≤ w.heap.size) (h' : RS w lo' hi' A' n' yss) (hhi' : hi' ≤ w.heap.size) :
    Calls Try.prog 109 #[.agg #[.slice A n c], .agg #[.slice A' n' c']] w fun e w' => e = .returned (.bool (decide (xss = yss))) ∧ Below w.heap.size w w' := by
  have hR := rs_alloc (rs_alloc h hhi (.cells #[.slice A n c] 38)) (by simp; omega) (.cells #[.slice A' n' c'] 38)
  have hR' := rs_alloc (rs_alloc h' hhi' (.cells #[.slice A n c] 38)) (by simp; omega) (.cells #[.slice A' n' c'] 38)
  have hB : Below w.heap.size w ((w.alloc (.cells #[.slice A n c] 38)).alloc (.cells #[.slice A' n' c'] 38)) := ((Below.refl _ _).alloc (Nat.le_refl _) _).alloc (by simp) _
  go_enter Try.func109, Try.ntmps109
  go_wp2_with fail
  ((with_reducible refine (l01Same2_any A n c xss A' n' c' yss _ hR (by simp; omega) hR' (by simp; omega)).mono ?_); rintro e w' ⟨rfl, hB2⟩)
  have hB3 := hB.trans (hB2.mono (by simp; omega))
  go_wp2_with fail
  go_ret
  exact ⟨rfl, hB3⟩
end Go.Proofs.Ytbioelmofceaaaa
/- Bef -/
namespace Go.Proofs.Ytbioelmofceaaaa
open Go.RowKit
set_option linter.unusedVariables false
set_option maxRecDepth 100000
theorem cmpF_ne {x y : List (List Int)} (h : flg x ≠ flg y) : decide (cmpF x y < 0) = decide (flg x < flg y) := by
  apply decide_eq_decide.2
  unfold cmpF orI cmpN
  rcases Nat.lt_or_ge (flg x) (flg y) with g | g
  · rw [if_pos (show (flg x : Int) < (flg y : Int) by omega)]; simp; omega
  · rw [if_neg (show ¬ (flg x : Int) < (flg y : Int) by omega), if_pos (show (flg y : Int) < (flg x : Int) by omega)]; simp; omega
theorem cmpF_eq {x y : List (List Int)} (h : flg x = flg y) : cmpF x y = cmp2 x y := by
  unfold cmpF orI cmpN
  rw [h]; simp
set_option maxHeartbeats 4000000 in
theorem l04Before_any (A : Option Addr) (n c : Nat) (xss : List (List Int)) (A' : Option Addr) (n' c' : Nat) (yss : List (List Int)) (w : World) {lo hi lo' hi' : Nat} (h : RS w lo hi A n xss) (hhi : hi ≤ w.heap.size) (hn : 0 < n) (h' : RS w lo' hi' A' n' yss) (hhi' : hi' ≤ w.heap.size) (hn' : 0 < n') :
    Calls Try.prog 108 #[.agg #[.slice A n c], .agg #[.slice A' n' c']] w fun e w' => e = .returned (.bool (decide (cmpF xss yss < 0))) ∧ Below w.heap.size w w' := by
  have hR := rs_alloc (rs_alloc h hhi (.cells #[.slice A n c] 38)) (by simp; omega) (.cells #[.slice A' n' c'] 38)
  have hR' := rs_alloc (rs_alloc h' hhi' (.cells #[.slice A n c] 38)) (by simp; omega) (.cells #[.slice A' n' c'] 38)
  have B0 : Below w.heap.size w ((w.alloc (.cells #[.slice A n c] 38)).alloc (.cells #[.slice A' n' c'] 38)) := ((Below.refl _ _).alloc (Nat.le_refl _) _).alloc (by simp) _
  have c0 : ((w.alloc (.cells #[.slice A n c] 38)).alloc (.cells #[.slice A' n' c'] 38)).cell? ⟨w.heap.size, 0, none⟩ = some (.slice A n c) := (al_old _ _ _ _ (by simp)).trans (al_new _ _ _ _ rfl)
  have c1 : ((w.alloc (.cells #[.slice A n c] 38)).alloc (.cells #[.slice A' n' c'] 38)).cell? ⟨w.heap.size + 1, 0, none⟩ = some (.slice A' n' c') := al_new _ _ _ _ (by simp)
  obtain ⟨t, ht⟩ : ∃ t, decide (cmpF xss yss < 0) = t := ⟨_, rfl⟩
  rw [ht]
  replace ht := Lib.hid ht
  go_enter Try.func108, Try.ntmps108
  go_wp2_with fail
  obtain ⟨W1, hW⟩ : ∃ W1 : World, ((w.alloc (.cells #[.slice A n c] 38)).alloc (.cells #[.slice A' n' c'] 38)) = W1 := ⟨_, rfl⟩
  have hz1 : w.heap.size + 1 < W1.heap.size := by rw [← hW]; simp
  rw [hW] at hR hR' B0 c0 c1 ⊢
  clear hW h h'
  have hh1 : hi ≤ W1.heap.size := by omega
  have hh2 : hi' ≤ W1.heap.size := by omega
  obtain ⟨p, hp⟩ : ∃ p, flg xss = p := ⟨_, rfl⟩
  obtain ⟨q, hq⟩ : ∃ q, flg yss = q := ⟨_, rfl⟩
  haveI := Since.ne W1
  have d0 : ∀ u : Since W1, u.val.cell? ⟨w.heap.size, 0, none⟩ = some (.slice A n c) := fun u => (u.ok.cell (p := ⟨w.heap.size, 0, none⟩) (by simp; omega)).trans c0
  have d1 : ∀ u : Since W1, u.val.cell? ⟨w.heap.size + 1, 0, none⟩ = some (.slice A' n' c') := fun u => (u.ok.cell (p := ⟨w.heap.size + 1, 0, none⟩) (by simp; omega)).trans c1
  by_cases hpq : p = q
  · have e1 : ((p : Int) != (q : Int)) = false := by simp; omega
    have hF : cmpF xss yss = cmp2 xss yss := cmpF_eq (by omega)
    have ht2 := ht.out
    rw [hF] at ht2
    replace ht2 := Lib.hid ht2
    clear hF
    replace hp := Lib.hid hp
    replace hq := Lib.hid hq
    replace hpq := Lib.hid hpq
    refine wp_region_since_lit (by kernel_rfl) (by kernel_rfl) ?_
    repeat (go_big_quiet_step ((go_at_call 43; first | (refine since_call (hp.out ▸ l02Flags_any A n c xss _ (hR.below (Since.ok _) hh1) ?_ hn); exact Nat.le_trans hh1 (Since.ok _).size) | (refine since_call (hq.out ▸ l02Flags_any A' n' c' yss _ (hR'.below (Since.ok _) hh2) ?_ hn'); exact Nat.le_trans hh2 (Since.ok _).size))))
    refine wpQuiet_nil ?_
    intro w2 hw2
    have hb2 : Below W1.heap.size W1 w2 := by obtain ⟨u, hu⟩ := hw2; rw [hu]; exact u.ok
    have k0 : w2.cell? ⟨w.heap.size, 0, none⟩ = some (.slice A n c) := by obtain ⟨u, hu⟩ := hw2; rw [hu]; exact d0 u
    have k1 : w2.cell? ⟨w.heap.size + 1, 0, none⟩ = some (.slice A' n' c') := by obtain ⟨u, hu⟩ := hw2; rw [hu]; exact d1 u
    clear hw2 d0 d1
    have y2 := hb2.size
    have hL := l01Less2_any A n c xss A' n' c' yss w2 (hR.below hb2 hh1) (by omega) (hR'.below hb2 hh2) (by omega)
    have hB2 : Below w.heap.size w w2 := B0.trans (hb2.mono (by omega))
    rw [ht2.out] at hL
    go_wp2_with fail
    ((with_reducible refine hL.mono ?_); rintro e w3 ⟨rfl, hb3⟩)
    have hB3 := hB2.trans (hb3.mono (by omega))
    go_wp2_with fail
    go_ret
    exact ⟨rfl, hB3⟩
  · have e1 : ((p : Int) != (q : Int)) = true := by simp; omega
    have hF : decide (cmpF xss yss < 0) = decide (p < q) := by rw [← hp, ← hq]; exact cmpF_ne (by omega)
    have ht2 := ht.out
    rw [hF] at ht2
    replace ht2 := Lib.hid ht2
    clear hF
    replace hp := Lib.hid hp
    replace hq := Lib.hid hq
    replace hpq := Lib.hid hpq
    refine wp_region_since_lit (by kernel_rfl) (by kernel_rfl) ?_
    repeat (go_big_quiet_step ((go_at_call 43; first | (refine since_call (hp.out ▸ l02Flags_any A n c xss _ (hR.below (Since.ok _) hh1) ?_ hn); exact Nat.le_trans hh1 (Since.ok _).size) | (refine since_call (hq.out ▸ l02Flags_any A' n' c' yss _ (hR'.below (Since.ok _) hh2) ?_ hn'); exact Nat.le_trans hh2 (Since.ok _).size))))
    refine wpQuiet_nil ?_
    intro w2 hw2
    have hb2 : Below W1.heap.size W1 w2 := by obtain ⟨u, hu⟩ := hw2; rw [hu]; exact u.ok
    clear hw2 d0 d1
    have y2 := hb2.size
    have hR := hR.below hb2 hh1
    have hR' := hR'.below hb2 hh2
    have hh3 : hi ≤ w2.heap.size := by omega
    have hh4 : hi' ≤ w2.heap.size := by omega
    have hB2 : Below w.heap.size w w2 := B0.trans (hb2.mono (by omega))
    have yB2 := hB2.size
    haveI := Since.ne w2
    have d0 : ∀ u : Since w2, u.val.cell? ⟨w.heap.size, 0, none⟩ = some (.slice A n c) := fun u => (u.ok.cell (p := ⟨w.heap.size, 0, none⟩) (by simp; omega)).trans ((hb2.cell (p := ⟨w.heap.size, 0, none⟩) (by simp; omega)).trans c0)
    have d1 : ∀ u : Since w2, u.val.cell? ⟨w.heap.size + 1, 0, none⟩ = some (.slice A' n' c') := fun u => (u.ok.cell (p := ⟨w.heap.size + 1, 0, none⟩) (by simp; omega)).trans ((hb2.cell (p := ⟨w.heap.size + 1, 0, none⟩) (by simp; omega)).trans c1)
    go_wp2_with fail
    refine wp_region_since_lit (by kernel_rfl) (by kernel_rfl) ?_
    repeat (go_big_quiet_step ((go_at_call 43; first | (refine since_call (hp.out ▸ l02Flags_any A n c xss _ (hR.below (Since.ok _) hh3) ?_ hn); exact Nat.le_trans hh3 (Since.ok _).size) | (refine since_call (hq.out ▸ l02Flags_any A' n' c' yss _ (hR'.below (Since.ok _) hh4) ?_ hn'); exact Nat.le_trans hh4 (Since.ok _).size))))
    refine wpQuiet_nil ?_
    intro w3 hw3
    have hb3 : Below w2.heap.size w2 w3 := by obtain ⟨u, hu⟩ := hw3; rw [hu]; exact u.ok
    clear hw3 d0 d1
    have hB3 := hB2.trans (hb3.mono (by omega))
    go_wp2_with fail
    go_ret
    exact ⟨ret_bool ht2.out, hB3⟩
end Go.Proofs.Ytbioelmofceaaaa
/- Sec -/
namespace Go.Proofs.Ytbioelmofceaaaa
open Go.RowKit
set_option linter.unusedVariables false
set_option maxRecDepth 100000
set_option maxHeartbeats 8000000 in
theorem l04Section_any (N : Nat) (A : Option Addr) (n c : Nat) (XSS : List (List Int)) (x : Int) (i k : Nat) (ii ki : Int) (hii : ii = i) (hki : ki = k) (w : World) {lo hi : Nat} (h : RS w lo hi A n XSS) (hhi : hi ≤ w.heap.size) (hnc : n ≤ c) (hik : i ≤ k) (hkn : k < n) (hn5 : n ≤ 20) (hN : flg XSS = N) (hn : N ≤ 400) (hS : SysOf XSS N) (hx0 : 0 ≤ x) (hx1 : x < N) :
    Calls Try.prog 46 #[.agg #[.slice A n c], .int .i64 x, .int .i64 ii, .int .i64 ki] w fun e w' => ∃ (A1 : Option Addr) (c1 : Nat), e = .returned (.agg #[.slice A1 (k + 1 - i) c1]) ∧ OwnS w' w.heap.size w'.heap.size 22 2 A1 (k + 1 - i) c1 (formL (subL XSS i (k + 1)) N x) ∧ Below w.heap.size w w' := by
  subst hii
  subst hki
  obtain ⟨j0, hj0, hy0, hy1, hy2⟩ := info_parts infoI
  obtain ⟨s0, hs0, hu0, hu1, hu2⟩ := info_parts infoS
  have hl := h.len
  obtain ⟨b0, o0, A0, n0, c0, p0, rfl, _, _, _, _, _⟩ := h.at_ (k := 0) (by omega)
  have hR0 := rs_alloc (rs_alloc h hhi (.cells #[.slice (some ⟨b0, o0, none⟩) n c] 38)) (by simp; omega) (.cells #[.slice none 0 0] 38)
  have hB0 : Below w.heap.size w ((w.alloc (.cells #[.slice (some ⟨b0, o0, none⟩) n c] 38)).alloc (.cells #[.slice none 0 0] 38)) := ((Below.refl _ _).alloc (Nat.le_refl _) _).alloc (by simp) _
  have hC0 : ((w.alloc (.cells #[.slice (some ⟨b0, o0, none⟩) n c] 38)).alloc (.cells #[.slice none 0 0] 38)).cell? ⟨w.heap.size, 0, none⟩ = some (.slice (some ⟨b0, o0, none⟩) n c) := (al_old _ _ _ _ (by simp)).trans (al_new _ _ _ _ rfl)
  have hQ0 : ((w.alloc (.cells #[.slice (some ⟨b0, o0, none⟩) n c] 38)).alloc (.cells #[.slice none 0 0] 38)).heap[w.heap.size + 1]? = some (.cells #[.slice none 0 0] 38 (0, 0)) := heap_new _ _ _ (by simp)
  have hs : SysOf (subL XSS i (k + 1)) N := sysOf_sub hS i (k + 1)
  have hxl : (subL XSS i (k + 1)).length = k + 1 - i := subL_length (by omega) (by omega)
  have hsub : RS w lo hi (some ⟨b0, o0 + i, none⟩) (k + 1 - i) (subL XSS i (k + 1)) := rs_sub h (by omega) (by omega) (fun _ => rfl)
  have hnf := l01Orbit_any N (some ⟨b0, o0 + i, none⟩) (k + 1 - i) (c - i) (subL XSS i (k + 1)) x _ ((hsub.keep (Same.of_below hB0 hhi))) (by simp; omega) hn hs hx0 hx1
  have hmet := bfs_met hs hx0 hx1
  have hclo : ∀ y ∈ bfs (subL XSS i (k + 1)) N x, ∀ p ∈ subL XSS i (k + 1), at' p y ∈ bfs (subL XSS i (k + 1)) N x := fun y hy p hp => bfs_closed hs hx0 hx1 hy hp
  have hfl : formL (subL XSS i (k + 1)) N x = (subL XSS i (k + 1)).map (ixF (bfs (subL XSS i (k + 1)) N x)) := rfl
  rw [hfl]
  clear hfl
  generalize bfs (subL XSS i (k + 1)) N x = ord at *
  generalize subL XSS i (k + 1) = xss at *
  have hol := hmet.len
  have hci : ¬ c = i := by omega
  have hic : i ≤ c := by omega
  have hI1 : (i : Int) ≤ (k : Int) + 1 := by omega
  have hI2 : (k : Int) + 1 ≤ (n : Int) := by omega
  have hI3 : (k : Int) + 1 ≤ (c : Int) := by omega
  obtain ⟨m, hmk⟩ : ∃ m, k + 1 - i = m := ⟨_, rfl⟩
  rw [hmk] at hxl hsub hnf ⊢
  have hm1 : 1 ≤ m := by omega
  have hm20 : m ≤ 20 := by omega
  replace hmet := Lib.hid hmet
  replace hclo := Lib.hid hclo
  replace hs := Lib.hid hs
  replace hS := Lib.hid hS
  replace hl := Lib.hid hl
  replace hxl := Lib.hid hxl
  go_enter Try.func46, Try.ntmps46
  go_wp2_with fail
  ((with_reducible refine hnf.mono ?_); rintro e w1 ⟨A5, n5, c5, rfl, o5, f1⟩)
  have B1 : Below w.heap.size w w1 := hB0.trans (f1.mono (by simp; omega))
  have C1 := (f1.cell (p := ⟨w.heap.size, 0, none⟩) (by simp; omega)).trans hC0
  have g4 := (f1.block (w.heap.size + 1) (by simp)).trans hQ0
  have z1 : w.heap.size + 2 ≤ w1.heap.size := by have := f1.size; simp at this; omega
  have e5 := o5.lenI
  subst e5
  have hR1 := h.below B1 hhi
  have hsub1 := hsub.below B1 hhi
  have o5 := o5.more (lo' := w.heap.size) (hi' := w1.heap.size) (by simp <;> omega) (Nat.le_refl _)
  replace g4 := Lib.hid g4
  clear f1 hnf hR0 hC0 hQ0 hB0
  go_wp2_with fail
  ((with_reducible refine (l02Flags_any (some ⟨b0, o0, none⟩) n c XSS _ hR1 (by omega) (by omega)).mono ?_); rintro e w1b ⟨rfl, f1b⟩)
  rw [hN]
  have y1b := f1b.size
  have B1b : Below w1.heap.size w1 w1b := f1b
  go_wp2_with (at_make; refine wpList_make_full _ rfl _ _ 22 rfl w1b.heap.size 2 j0 (.int .i64 0) 1 Try.underlying22 hj0 hy0 hy1 _ _ _ _ N rfl rfl rfl rfl ?c1 ?c2 (Nat.le_refl _) ?_)
  case c1 => rw [hy2]; omega
  case c2 => simp only [maxLen]; omega
  intro w2 hown hg
  have B2 : Below w1b.heap.size w1b w2 := (Below.refl _ _).grown hg (Nat.le_refl _) (by simp)
  have z2 : w1b.heap.size < w2.heap.size := (hown.lt w1b.heap.size (by simp [Value.ownBlock])).2
  have o6 : Own w2 w1b.heap.size w2.heap.size 2 (some ⟨w1b.heap.size, 0, none⟩) N N ((List.replicate N 0).map (Value.int .i64)) := by
    have := Own.of_row hown
    simpa [toList_madeCells_one, Value.cells] using this
  have o5b := o5.below B1b (Nat.le_refl _)
  clear hown hg f1b
  go_wp2_with fail
  go_loopw [12] (fun kv wq => ∃ (q : Nat) (ns : List Int), q ≤ ord.length ∧ kv = .int .i64 q ∧ Hid (NumI ord N q ns) ∧ Own wq w1b.heap.size w2.heap.size 2 (some ⟨w1b.heap.size, 0, none⟩) N N (ns.map (Value.int .i64)) ∧ w2.heap.size ≤ wq.heap.size ∧ Below w1b.heap.size w1b wq) (fun kv _ => ord.length - (intOf kv).toNat)
  case atStart => exact ⟨0, _, by omega, rfl, Lib.hid (NumI.zero ord N), o6, Nat.le_refl _, B2⟩
  case round =>
    clear o6 B2
    obtain ⟨q, ns, hq, rfl, hns, ho, hz, hb⟩ := hrel
    by_cases hlt : q < ord.length
    · obtain ⟨b5, f, rfl, _, _, _, hf, hcf, _⟩ := (o5b.below hb (by omega)).atI hlt
      obtain ⟨hf0, hf1⟩ := hmet.out.rng f (mem_of_get? hf)
      obtain ⟨f, rfl⟩ : ∃ q : Nat, f = q := ⟨f.toNat, by omega⟩
      have hcn := ho.cellI (hns.out.2 f (by omega))
      have hfr := ho.frz f
      have hfn : f < N := by omega
      have hst := hns.out.step hmet.out.nd hf
      replace hst := Lib.hid hst
      replace hf := Lib.hid hf
      generalize (if (f : Int) ∈ ord.take q then (ord.idxOf (f : Int) : Int) else 0) = old at *
      go_wp2_with fail
      go_roundw
      case measure => simp [intOf]; omega
      case rel => exact ⟨q + 1, ns.set f (q : Int), by omega, by go_num, hst, ho.setI (q : Int), by simp; omega, hb.setCell (by simp) _⟩
    · have hko : q = ord.length := by omega
      subst hko
      have hnum : ∀ z : Nat, z < N → (z : Int) ∈ ord → ns[z]? = some (ord.idxOf (z : Int) : Int) := fun z hz' hm => hns.out.get hz' hm
      replace hnum := Lib.hid hnum
      go_wp2_with fail
      obtain ⟨w3, rfl⟩ : ∃ w3 : World, w3 = wr := ⟨_, rfl⟩
      have g9 : (w3.alloc (.cells #[.slice none 0 0] 38)).heap[w3.heap.size]? = some (.cells #[.slice none 0 0] 38 (0, 0)) := heap_new _ _ _ rfl
      go_loopw [14] (fun kv wq => ∃ (q : Nat) (vs : List Value) (A2 : Option Addr) (c2 : Nat), q ≤ m ∧ vs.length = q ∧ kv = .int .i64 q ∧ wq.heap[w3.heap.size]? = some (.cells #[.slice A2 q c2] 38 (0, 0)) ∧
          Own wq (w3.heap.size + 1) wq.heap.size 22 A2 q c2 vs ∧ RowsOwn wq (w3.heap.size + 1) wq.heap.size 2 vs ((xss.take q).map (ixF ord)) ∧ w3.heap.size + 1 ≤ wq.heap.size ∧ Below w3.heap.size w3 wq) (fun kv _ => m - (intOf kv).toNat)
      case atStart => exact ⟨0, [], none, 0, by omega, rfl, rfl, g9, Own.nil, by simpa using RowsOwn.nil, by simp, (Below.refl _ _).alloc (Nat.le_refl _) _⟩
      case round =>
        clear g9
        obtain ⟨q, vs, A2, c2, hq, hvk, rfl, g9, ho9, hrows, hz9, hb9⟩ := hrel
        have C9 : wr.cell? ⟨w3.heap.size, 0, none⟩ = some (.slice A2 q c2) := by rw [cell_of_row _ _ _ _ _ _ g9]; rfl
        have F9 : wr.frozen? ⟨w3.heap.size, 0, none⟩ = false := frozen_of_row _ _ _ _ _ g9
        have hbw : Below w1b.heap.size w1b wr := hb.trans (hb9.mono (by omega))
        have hb1 : Below w1.heap.size w1 wr := B1b.trans (hbw.mono y1b)
        have ho6 := ho.below hb9 hz
        by_cases hkm : q < m
        · obtain ⟨bb, oo, Ak, nk, ck, p, e, _, _, hp, hpc, hpr⟩ := (hsub1.below hb1 (by omega)).at_ hkm
          injection e with e
          injection e with e1 e2 _
          subst e1; subst e2
          have hpm := mem_of_get? hp
          obtain ⟨hpr0, hpn, hpl⟩ := hs.out p hpm
          have hnk := hpr.len
          have hkk : nk = N := by omega
          subst hkk
          have htk := take_succ_of hp
          replace hp := Lib.hid hp
          replace htk := Lib.hid htk
          replace hpr0 := Lib.hid hpr0
          replace hpl := Lib.hid hpl
          replace g9 := Lib.hid g9
          have hnk1 := hpr.max
          go_wp2_with fail
          obtain ⟨wo, rfl⟩ : ∃ wo : World, wo = wr := ⟨_, rfl⟩
          have hlit := World.ownsRow_lit (e := 2) (base := wo.heap.size) (size := 1) wo #[] 0 (Nat.le_refl _) (by omega) rfl
          go_loopw [15, 16] (fun lv kv wq => ∃ (j : Nat) (ys : List Int) (A3 : Option Addr) (c3 : Nat), j ≤ ord.length ∧ ys.length = j ∧ lv = .slice A3 j c3 ∧ kv = .int .i64 j ∧ Hid (ys = (ixF ord p).take j) ∧ Own wq wo.heap.size wq.heap.size 2 A3 j c3 (ys.map (Value.int .i64)) ∧ wo.heap.size ≤ wq.heap.size ∧ Below wo.heap.size wo wq) (fun _ kv _ => ord.length - (intOf kv).toNat)
          case atStart => exact ⟨0, [], _, 0, by omega, rfl, rfl, rfl, Lib.hid rfl, by simpa using Own.of_row hlit, by simp, (Below.refl _ _).alloc (Nat.le_refl _) _⟩
          case round =>
            clear hlit
            obtain ⟨j, ys, A3, c3, hj, hyl, rfl, rfl, hys, ho3, hz3, hb3⟩ := hrel
            by_cases hjo : j < ord.length
            · obtain ⟨b5, f, hA5, _, _, _, hf, hcf, _⟩ := ((o5b.below hbw (by omega)).below hb3 (by omega)).atI hjo
              subst hA5
              have hfm := mem_of_get? hf
              obtain ⟨hf0, hf1⟩ := hmet.out.rng f hfm
              obtain ⟨f, rfl⟩ : ∃ q : Nat, f = q := ⟨f.toNat, by omega⟩
              have hfn : f < nk := by omega
              obtain ⟨bp, oq, v, rfl, _, _, hv, hvc⟩ := (hpr.below hb3 (by omega)).at_ hfn
              have hva : at' p f = v := by unfold at'; rw [Int.toNat_natCast]; exact getD_some hv
              have hvo := hclo.out _ hfm p hpm
              rw [hva] at hvo
              obtain ⟨hv0, hv1⟩ := hpr0.out v (mem_of_get? hv)
              obtain ⟨v, rfl⟩ : ∃ q : Nat, v = q := ⟨v.toNat, by omega⟩
              have hvn : v < nk := by omega
              have hcn := (ho6.below hb3 (by omega)).cellI (hnum.out v hvn hvo)
              have hpc3 := (hb3.cell (p := ⟨b0, o0 + i + q, none⟩) (by simp; omega)).trans hpc
              have hst : ys ++ [(ord.idxOf (v : Int) : Int)] = (ixF ord p).take (j + 1) := by
                rw [take_succ_of (x := (ord.idxOf (v : Int) : Int)) (by simp [ixF, hf, hva]), ← hys.out]
              replace hst := Lib.hid hst
              replace hf := Lib.hid hf
              replace hfm := Lib.hid hfm
              replace hv := Lib.hid hv
              replace hva := Lib.hid hva
              replace hvo := Lib.hid hvo
              generalize (ord.idxOf (v : Int) : Int) = u at *
              have hown' : Hid ((wr.alloc (.cells #[.int .i64 u] 2)).drew.ownsRow wo.heap.size 2 1 (.slice A3 j c3) j (ys.map (Value.int .i64))) := Lib.hid (ho3.1.alloc _)
              have hnew' : Hid (∀ q v, [Value.int .i64 u][q]? = some v → (wr.alloc (.cells #[.int .i64 u] 2)).drew.cell? ((⟨wr.heap.size, 0, none⟩ : Addr).add q) = some v) := Lib.hid (cell_one_new wr _ _)
              have hml : Hid (j + 1 ≤ maxLen) := Lib.hid (by simp only [maxLen]; omega)
              have hbs : wo.heap.size ≤ (wr.alloc (.cells #[.int .i64 u] 2)).drew.heap.size := by simp; omega
              have hbA : Below wo.heap.size wo (wr.alloc (.cells #[.int .i64 u] 2)).drew := below_drew (hb3.alloc hz3 _)
              have hlo3 : ∀ q, (Value.slice A3 j c3).ownBlock = some q → wo.heap.size ≤ q := fun q hq => (ho3.1.lt q hq).1
              replace hbs := Lib.hid hbs
              replace hbA := Lib.hid hbA
              replace hlo3 := Lib.hid hlo3
              go_wp2_with fail
              go_region_law (refine step_append_lies _ rfl (.tmp 56) (.tmp 70) 22 rfl wo.heap.size 2 j0 (.int .i64 0) 1 8 Try.underlying22 hj0 hy0 hy1 hy2 rfl (by decide) (.slice A3 j c3) j (ys.map (Value.int .i64)) (by simp [Act.eval]) hown'.out ⟨wr.heap.size, 0, none⟩ 1 1 [.int .i64 u] (by simp [Act.eval]) rfl hnew'.out (by simp [Value.oneCell']) (by decide) hml.out (by omega) hbs.out _ rfl ?_; intro g4 c4 w5 ho5 hg5 hor5 hlt5)
              all_goals
                have hb5 : Below wo.heap.size wo w5 := hbA.out.grown hg5 hbs.out (fun q hq => hlo3.out q hq)
                have hz5 : wo.heap.size ≤ w5.heap.size := hb5.size
                clear hcf hvc hcn ho3 hb3 hg5 hpc3
                go_wp2_with fail
                go_roundw
                case measure => simp [intOf]; omega
                case rel => exact ⟨j + 1, ys ++ [u], _, c4, by omega, by simp; omega, rfl, by go_num, hst, by simpa using Own.of_row ho5, by omega, hb5⟩
            · have hjo' : j = ord.length := by omega
              subst hjo'
              have hyf : ys = ixF ord p := by have := hys.out; rwa [List.take_of_length_le (by rw [ixF_length]; exact Nat.le_refl _)] at this
              have ho9' := ho9.below hb3 (Nat.le_refl _)
              have hrows' := hrows.keep (Same.of_below hb3 (Nat.le_refl _))
              have g9' := (hb3.block w3.heap.size (by omega)).trans g9.out
              have C9' : wr.cell? ⟨w3.heap.size, 0, none⟩ = some (.slice A2 q c2) := by rw [cell_of_row _ _ _ _ _ _ g9']; rfl
              have F9' : wr.frozen? ⟨w3.heap.size, 0, none⟩ = false := frozen_of_row _ _ _ _ _ g9'
              replace g9' := Lib.hid g9'
              replace hyf := Lib.hid hyf
              replace hyl := Lib.hid hyl
              go_wp2_with (at_builtin; refine wpList_append1 wr rfl (.tmp 73) (.tmp 75) 23 rfl (w3.heap.size + 1) 22 s0 (.slice none 0 0) 24 Try.underlying23 hs0 hu0 hu1 hu2 rfl (by omega) A2 q c2 _ (.slice A3 ord.length c3) rfl ho9'.1 _ rfl rfl rfl (by omega) (by omega) ?_)
              intro g4' c4 w5 ho5 hg5 hlo5 hlt5 hor5
              have g5 := (hg5.block w3.heap.size (by omega) (fun e => by have := (ho9'.1.lt _ e.symm).1; omega)).trans g9'.out
              have C5 : w5.cell? ⟨w3.heap.size, 0, none⟩ = some (.slice A2 q c2) := by rw [cell_of_row _ _ _ _ _ _ g5]; rfl
              have F5 : w5.frozen? ⟨w3.heap.size, 0, none⟩ = false := frozen_of_row _ _ _ _ _ g5
              have hrw5 := (hrows'.kept_ty ho9'.1 (by decide) hg5).snoc (ho3.kept_ty ho9'.1 (by decide) hg5) (by omega) hz3
              have hz5 := hg5.size
              have hb5 : Below w3.heap.size w3 w5 := (hb9.trans (hb3.mono (by omega))).grown hg5 (by omega) (fun q' hq' => by have := (ho9'.1.lt q' hq').1; omega)
              have ho5' := Own.of_row ho5
              replace g5 := Lib.hid g5
              clear C9 F9 C9' F9' ho9 ho9' hrows hrows' ho3 hg5 ho5
              go_wp2_with fail
              go_roundw
              case measure => simp [intOf]; omega
              case rel =>
                refine ⟨q + 1, vs ++ [.slice A3 ord.length c3], _, c4, by omega, by simp; omega, by go_num, ?_, (ho5'.far (.inl (by simp)) _).more (Nat.le_refl _) (by simp), ?_, by simp; omega, hb5.setCell (by simp) _⟩
                · have := heap_setCell_same _ _ 0 _ _ (Value.slice (some ⟨g4', 0, none⟩) (q + 1) c4) g5.out
                  simpa using this
                · rw [htk.out, List.map_append, List.map_singleton, ← hyf.out]
                  exact (hrw5.keep (same_set _ _ _ _ _ (.inl (by simp)))).more (Nat.le_refl _) (by simp; omega)
        · have hkm' : q = m := by omega
          subst hkm'
          have g4' := (hb1.block (w.heap.size + 1) (by omega)).trans g4.out
          have C4 : wr.cell? ⟨w.heap.size + 1, 0, none⟩ = some (.slice none 0 0) := by rw [cell_of_row _ _ _ _ _ _ g4']; rfl
          have F4 : wr.frozen? ⟨w.heap.size + 1, 0, none⟩ = false := frozen_of_row _ _ _ _ _ g4'
          replace g4' := Lib.hid g4'
          replace g9 := Lib.hid g9
          go_wp2_with fail
          have g2 := heap_setCell_same _ _ 0 _ _ (Value.slice A2 q c2) g4'.out
          (try simp only [Exit.inBlock, Exit.then])
          refine bodyPost_ret (v := .agg #[.slice A2 q c2]) ?_ rfl ?_
          · exact results_cell_row rfl _ _ (w.heap.size + 1) 38 #[.slice A2 q c2] (0, 0) _ rfl (by simpa using g2) Try.underlying38 rfl (by kernel_rfl)
          · have e : xss.take q = xss := List.take_of_length_le (by have := hxl.out; omega)
            rw [e] at hrows
            refine ⟨A2, c2, rfl, ⟨vs, ?_, ?_⟩, (B1.trans (hb1.mono (by omega))).setCell (by simp) _⟩
            · exact (ho9.keep (same_set _ _ _ _ _ (.inl (by simp; omega)))).more (by omega) (by simp)
            · exact (hrows.keep (same_set _ _ _ _ _ (.inl (by simp; omega)))).more (by omega) (by simp)
end Go.Proofs.Ytbioelmofceaaaa
/- SecX -/
namespace Go.Proofs.Ytbioelmofceaaaa
open Go.RowKit
set_option linter.unusedVariables false
set_option maxRecDepth 100000
end Go.Proofs.Ytbioelmofceaaaa
/- LstX -/
namespace Go.Proofs.Ytbioelmofceaaaa
open Go.RowKit
set_option linter.unusedVariables false
set_option maxRecDepth 100000
end Go.Proofs.Ytbioelmofceaaaa
/- FrmS -/
namespace Go.Proofs.Ytbioelmofceaaaa
open Go.RowKit
set_option linter.unusedVariables false
set_option maxRecDepth 100000
/-- a maniplex of the call's own: its value and its moves -/
def GoodO (w : World) (lo hi : Nat) (p : VF) : Prop := ∃ A n c, p.1 = .slice A n c ∧ 0 < n ∧ n ≤ c ∧ OwnS w lo hi 22 2 A n c p.2
theorem GoodO.below {w w' : World} {lo hi B : Nat} {p : VF} (h : GoodO w lo hi p) (hb : Below B w w') (hB : hi ≤ B) : GoodO w' lo hi p := by
  obtain ⟨A, n, c, e, a, b, o⟩ := h
  exact ⟨A, n, c, e, a, b, o.below hb hB⟩
theorem GoodO.more {w : World} {lo hi lo' hi' : Nat} {p : VF} (h : GoodO w lo hi p) (h1 : lo' ≤ lo) (h2 : hi ≤ hi') : GoodO w lo' hi' p := by
  obtain ⟨A, n, c, e, a, b, o⟩ := h
  exact ⟨A, n, c, e, a, b, o.more h1 h2⟩
theorem GoodO.kept {w w' : World} {lo hi base n : Nat} {p : VF} {v : Value} {ys : List Value} (h : GoodO w lo hi p) (h' : w.ownsRow base 38 1 v n ys) (hg : w.grownBy w' v.ownBlock) : GoodO w' lo hi p := by
  obtain ⟨A, m, c, e, a, b, vs, o1, o2⟩ := h
  exact ⟨A, m, c, e, a, b, vs, o1.kept_ty h' (by decide) hg, o2.kept_ty h' (by decide) hg⟩
/-- the two lists behind j rounds, the second one of the first k forms -/
structure FrmSt (wq : World) (z : Nat) (ys : List (List Int)) (N j k : Nat) (A3 : Option Addr) (c3 b4 c4 : Nat) (ps qs : List VF) : Prop where
  len : ps.length = j
  fst : ps.map (·.2) = (ownC ys N).take j
  lst : qs = listF (ps.take k)
  own : wq.ownsRow z 38 1 (.slice A3 j c3) j (ps.map (·.1))
  row : Rd wq b4 (b4 + 1) (some ⟨b4, 0, none⟩) qs.length (qs.map (·.1))
  cap : qs.length ≤ c4
  b4z : z ≤ b4 ∧ b4 < wq.heap.size
  apt : ∀ g, (Value.slice A3 j c3).ownBlock = some g → g ≠ b4
  good : ∀ p ∈ ps, GoodO wq z wq.heap.size p
theorem insF_mem {l : List VF} {p q : VF} (h : q ∈ insF l p) : q ∈ l ∨ q = p := by
  unfold insF at h
  split at h
  · exact .inl h
  · rcases List.mem_append.1 h with h | h
    · exact .inl (List.mem_of_mem_take h)
    · rcases List.mem_cons.1 h with h | h
      · exact .inr h
      · exact .inl (List.mem_of_mem_drop h)
theorem foldF_mem {q : VF} : ∀ (ps l : List VF), q ∈ ps.foldl insF l → q ∈ l ∨ q ∈ ps
  | [], l, h => .inl h
  | p :: r, l, h => by
    rcases foldF_mem r (insF l p) h with h | h
    · rcases insF_mem h with h | h
      · exact .inl h
      · exact .inr (h ▸ List.mem_cons_self)
    · exact .inr (List.mem_cons_of_mem _ h)
theorem listF_mem {ps : List VF} {q : VF} (h : q ∈ listF ps) : q ∈ ps := by
  rcases foldF_mem ps [] h with h | h
  · simp at h
  · exact h
theorem listF_snoc {ps : List VF} {p : VF} {k : Nat} (h : ps[k]? = some p) : listF (ps.take (k + 1)) = insF (listF (ps.take k)) p := by
  unfold listF
  rw [List.take_add_one, h, List.foldl_append]
  rfl
theorem insF_len2 (l : List VF) (p : VF) : (insF l p).length ≤ l.length + 1 := by
  unfold insF
  have := atF_le p.2 l
  split
  · omega
  · simp; omega
theorem foldF_len2 : ∀ (ps l : List VF), (ps.foldl insF l).length ≤ l.length + ps.length
  | [], l => by simp
  | p :: r, l => by
    have := foldF_len2 r (insF l p)
    have := insF_len2 l p
    simp only [List.foldl_cons, List.length_cons]
    omega
theorem FrmSt.qmem {wq : World} {z N j k c3 b4 c4 : Nat} {ys : List (List Int)} {A3 : Option Addr} {ps qs : List VF} (h : FrmSt wq z ys N j k A3 c3 b4 c4 ps qs) {q : VF} (hq : q ∈ qs) : q ∈ ps := by
  rw [h.lst] at hq
  exact List.mem_of_mem_take (listF_mem hq)
theorem FrmSt.qlen {wq : World} {z N j k c3 b4 c4 : Nat} {ys : List (List Int)} {A3 : Option Addr} {ps qs : List VF} (h : FrmSt wq z ys N j k A3 c3 b4 c4 ps qs) : qs.length ≤ k := by
  rw [h.lst]
  have := foldF_len2 (ps.take k) []
  unfold listF
  simp only [List.length_nil, List.length_take] at this
  omega
theorem FrmSt.below {wq w' : World} {z N j k c3 b4 c4 : Nat} {ys : List (List Int)} {A3 : Option Addr} {ps qs : List VF} (h : FrmSt wq z ys N j k A3 c3 b4 c4 ps qs) (hB : Below wq.heap.size wq w') : FrmSt w' z ys N j k A3 c3 b4 c4 ps qs :=
  ⟨h.len, h.fst, h.lst, ((Own.of_row h.own).below hB (Nat.le_refl _)).1, h.row.below hB h.b4z.2, h.cap, ⟨h.b4z.1, Nat.lt_of_lt_of_le h.b4z.2 hB.size⟩, h.apt, fun p hp => ((h.good p hp).below hB (Nat.le_refl _)).more (Nat.le_refl _) hB.size⟩
/-- a form is appended to the first list -/
theorem FrmSt.app {wq w' : World} {z N j c3 b4 c4 g c5 m cl lo : Nat} {ys : List (List Int)} {A3 Al : Option Addr} {ps qs : List VF} {f : List (List Int)} (h : FrmSt wq z ys N j j A3 c3 b4 c4 ps qs) (hj : j < cntR ys N) (hf : f = frmL ys N (idxI (labL ys N) (j : Int)))
    (ol : OwnS wq lo wq.heap.size 22 2 Al m cl f) (hlo : z ≤ lo) (hm : 0 < m)
    (ho : w'.ownsRow z 38 1 (.slice (some ⟨g, 0, none⟩) (j + 1) c5) (j + 1) (ps.map (·.1) ++ [.slice Al m cl])) (hg : wq.grownBy w' (Value.slice A3 j c3).ownBlock) (hor : A3 = some ⟨g, 0, none⟩ ∨ wq.heap.size ≤ g) :
    FrmSt w' z ys N (j + 1) j (some ⟨g, 0, none⟩) c5 b4 c4 (ps ++ [((.slice Al m cl, f) : VF)]) qs := by
  have hsz := hg.size
  have hcap : m ≤ cl := by obtain ⟨vs, oA, oB⟩ := ol; exact oA.cap
  refine ⟨by simp [h.len], ?_, ?_, by rw [List.map_append]; exact ho, ?_, h.cap, ⟨h.b4z.1, by have := h.b4z.2; omega⟩, ?_, ?_⟩
  · rw [List.map_append, h.fst, List.take_add_one, ownC_get hj, hf]
    rfl
  · rw [List.take_append_of_le_length (by rw [h.len]; exact Nat.le_refl _), ← h.lst]
  · refine h.row.keep (same_grown hg h.b4z.2 ?_)
    intro q hq
    have := h.apt q hq
    omega
  · intro q hq
    simp [Value.ownBlock] at hq
    subst hq
    rcases hor with e | e
    · exact h.apt g (by rw [e]; rfl)
    · have := h.b4z.2; omega
  · intro p hp
    rcases List.mem_append.1 hp with e | e
    · exact ((h.good p e).kept h.own hg).more (Nat.le_refl _) hsz
    · rw [List.mem_singleton.1 e]
      exact GoodO.more (GoodO.kept ⟨Al, m, cl, rfl, hm, hcap, ol⟩ h.own hg) hlo hsz
/-- the second list is made anew -/
theorem FrmSt.relist {wq w' : World} {z N j k c3 b4 c4 b5 c5 : Nat} {ys : List (List Int)} {A3 : Option Addr} {ps qs : List VF} {p : VF} (h : FrmSt wq z ys N j k A3 c3 b4 c4 ps qs) (hB : Below wq.heap.size wq w') (hp : ps[k]? = some p)
    (hr : Rd w' b5 (b5 + 1) (some ⟨b5, 0, none⟩) (insF qs p).length ((insF qs p).map (·.1))) (hb : wq.heap.size ≤ b5 ∧ b5 < w'.heap.size) (hc : (insF qs p).length ≤ c5) : FrmSt w' z ys N j (k + 1) A3 c3 b5 c5 ps (insF qs p) := by
  have h2 := h.below hB
  refine ⟨h.len, h.fst, by rw [listF_snoc hp, h.lst], h2.own, hr, hc, ⟨by have := h.b4z; omega, hb.2⟩, fun g hg => ?_, h2.good⟩
  have := (h.own.lt g hg).2
  omega
/-- the second list stays -/
theorem FrmSt.stay {wq : World} {z N j k c3 b4 c4 : Nat} {ys : List (List Int)} {A3 : Option Addr} {ps qs : List VF} {p : VF} (h : FrmSt wq z ys N j k A3 c3 b4 c4 ps qs) (hp : ps[k]? = some p) (hs : insF qs p = qs) : FrmSt wq z ys N j (k + 1) A3 c3 b4 c4 ps qs :=
  ⟨h.len, h.fst, by rw [listF_snoc hp, ← h.lst, hs], h.own, h.row, h.cap, h.b4z, h.apt, h.good⟩
theorem rd_one {w : World} {lo hi b o n : Nat} {vs : List Value} (h : Rd w lo hi (some ⟨b, o, none⟩) n vs) : Rd w b (b + 1) (some ⟨b, o, none⟩) n vs :=
  ⟨h.1, h.2.1, fun hn => by
    obtain ⟨b', o', e, _, _, hc⟩ := h.2.2 hn
    injection e with e; injection e with e1 e2 _; subst e1; subst e2
    exact ⟨b, o, rfl, Nat.le_refl _, by omega, hc⟩⟩
theorem FrmSt.post {wq : World} {z N C c3 b4 c4 : Nat} {ys : List (List Int)} {A3 : Option Addr} {ps qs : List VF} (h : FrmSt wq z ys N C C A3 c3 b4 c4 ps qs) (hC : cntR ys N = C) (h0 : 0 < C) : qs.length = 1 ↔ AllSame (ownC ys N) := by
  have e1 : ps.take C = ps := List.take_of_length_le (by rw [h.len]; exact Nat.le_refl _)
  have e2 : ps.map (·.2) = ownC ys N := by rw [h.fst, List.take_of_length_le (by rw [ownC_length, hC]; exact Nat.le_refl _)]
  rw [h.lst, e1, listF_one (by rw [h.len]; exact h0)]
  constructor
  · intro k x hx y hy
    rw [← e2] at hx hy
    obtain ⟨p, hp, rfl⟩ := List.mem_map.1 hx
    obtain ⟨q, hq, rfl⟩ := List.mem_map.1 hy
    exact k p hp q hq
  · intro k p hp q hq
    exact k _ (by rw [← e2]; exact List.mem_map_of_mem hp) _ (by rw [← e2]; exact List.mem_map_of_mem hq)
/-- one step of the search -/
theorem atF_step {f : List (List Int)} : ∀ {l : List VF} {t : Nat} {q : VF}, t ≤ atF f l → l[t]? = some q → cmpF q.2 f < 0 → t + 1 ≤ atF f l
  | [], t, q, _, h, _ => by simp at h
  | x :: r, t, q, ht, h, hc => by
    unfold atF at ht ⊢
    by_cases e : cmpF x.2 f < 0
    · rw [if_pos e] at ht ⊢
      cases t with
      | zero => omega
      | succ t =>
        have := atF_step (l := r) (t := t) (by omega) (by simpa using h) hc
        omega
    · rw [if_neg e] at ht
      obtain rfl : t = 0 := by omega
      simp at h
      subst h
      exact absurd hc e
theorem atF_stop {f : List (List Int)} : ∀ {l : List VF} {t : Nat} {q : VF}, t ≤ atF f l → l[t]? = some q → ¬ cmpF q.2 f < 0 → atF f l = t
  | [], t, q, _, h, _ => by simp at h
  | x :: r, t, q, ht, h, hc => by
    unfold atF at ht ⊢
    by_cases e : cmpF x.2 f < 0
    · rw [if_pos e] at ht ⊢
      cases t with
      | zero => simp at h; subst h; exact absurd e hc
      | succ t =>
        have := atF_stop (l := r) (t := t) (by omega) (by simpa using h) hc
        omega
    · rw [if_neg e] at ht ⊢
      omega
theorem atF_end {f : List (List Int)} {l : List VF} {t : Nat} (h : t ≤ atF f l) (hl : l.length ≤ t) : atF f l = t := by
  have := atF_le f l; omega
theorem insF_same {l : List VF} {p q : VF} (hq : l[atF p.2 l]? = some q) (e : q.2 = p.2) : insF l p = l := by
  unfold insF; rw [if_pos (by rw [hq]; simp [e])]
theorem insF_diff {l : List VF} {p q : VF} (hq : l[atF p.2 l]? = some q) (e : q.2 ≠ p.2) : insF l p = l.take (atF p.2 l) ++ p :: l.drop (atF p.2 l) := by
  unfold insF; rw [if_neg (by rw [hq]; simpa using e)]
theorem insF_out {l : List VF} {p : VF} (h : l.length ≤ atF p.2 l) : insF l p = l.take (atF p.2 l) ++ p :: l.drop (atF p.2 l) := by
  unfold insF; rw [if_neg (by rw [List.getElem?_eq_none h]; simp)]
theorem frm_al (w : World) (o : Obj) : Below w.heap.size w (w.alloc o) := (Below.refl _ _).alloc (Nat.le_refl _) _
theorem frm_cell {w : World} {b : Nat} {T : TypeId} {u : Value} (h : w.heap[b]? = some (.cells #[u] T (0, 0))) : w.cell? ⟨b, 0, none⟩ = some u := by rw [cell_of_row _ _ _ _ _ _ h]; rfl
theorem frm_frz {w : World} {b : Nat} {T : TypeId} {u : Value} (h : w.heap[b]? = some (.cells #[u] T (0, 0))) : w.frozen? ⟨b, 0, none⟩ = false := frozen_of_row _ _ _ _ _ h
theorem FrmSt.zero (wc : World) (ys : List (List Int)) (N : Nat) : FrmSt ((wc.alloc (.cells #[] 38)).alloc (.cells #[] 38)) wc.heap.size ys N 0 0 (some ⟨wc.heap.size, 0, none⟩) 0 (wc.heap.size + 1) 0 [] [] := by
  have h0 := World.ownsRow_lit (e := 38) (base := wc.heap.size) (size := 1) wc #[] 0 (Nat.le_refl _) (by omega) rfl
  have h1 := (Own.of_row h0).below (frm_al _ (.cells #[] 38)) (Nat.le_refl _)
  exact ⟨rfl, by simp, rfl, by simpa using h1.1, Rd.nil, Nat.le_refl _, ⟨by omega, by simp⟩, fun g hg => by simp [Value.ownBlock] at hg; omega, fun p hp => by simp at hp⟩
set_option maxHeartbeats 16000000 in
theorem l04Forms_any (A : Option Addr) (n c : Nat) (xss : List (List Int)) (N I K : Nat) (i k : Int) (hi0 : i = I) (hk0 : k = K) (w : World) {lo hi : Nat} (h : RS w lo hi A n xss) (hhi : hi ≤ w.heap.size) (hnc : n ≤ c) (hIK : I ≤ K) (hKn : K < n) (hP : ManP xss) (hN : flg xss = N) :
    Calls Try.prog 83 #[.agg #[.slice A n c], .int .i64 i, .int .i64 k] w fun e w' => ∃ (A1 : Option Addr) (c1 : Nat) (A2 : Option Addr) (n2 c2 m : Nat), e = .returned (.tuple #[.slice A1 m c1, .slice A2 n2 c2]) ∧ (m = 1 ↔ AllSame (ownC (subL xss I (K + 1)) N)) ∧ Below w.heap.size w w' := by
  obtain ⟨m0, hm0, hv0, hv1, hv2⟩ := info_parts infoM
  have hS : SysOf xss N := by rw [← hN]; exact hP.sys
  have hN2 : 2 ≤ N := by rw [← hN]; exact hP.f2
  have hN4 : N ≤ 400 := by rw [← hN]; exact hP.f4
  have hxl := h.len
  have hn5 : n ≤ 5 := by rw [← hxl]; exact hP.r5
  have hys : SysOf (subL xss I (K + 1)) N := sysOf_sub hS I (K + 1)
  have hyl : (subL xss I (K + 1)).length = K + 1 - I := subL_length (by omega) (by omega)
  obtain ⟨b0, o0, A0, n0, c0, p0, rfl, _, _, _, _, _⟩ := h.at_ (k := 0) (by omega)
  have hR := rs_alloc h hhi (.cells #[.slice (some ⟨b0, o0, none⟩) n c] 38)
  have hC : (w.alloc (.cells #[.slice (some ⟨b0, o0, none⟩) n c] 38)).cell? ⟨w.heap.size, 0, none⟩ = some (.slice (some ⟨b0, o0, none⟩) n c) := al_new _ _ _ _ rfl
  have hB : Below w.heap.size w (w.alloc (.cells #[.slice (some ⟨b0, o0, none⟩) n c] 38)) := (Below.refl _ _).alloc (Nat.le_refl _) _
  subst hk0
  subst hi0
  go_enter Try.func83, Try.ntmps83
  go_wp2_with fail
  obtain ⟨W1, hW⟩ : ∃ W1 : World, w.alloc (.cells #[.slice (some ⟨b0, o0, none⟩) n c] 38) = W1 := ⟨_, rfl⟩
  have hz1 : w.heap.size < W1.heap.size := by rw [← hW]; simp
  rw [hW] at hR hC hB ⊢
  clear hW h
  have hsub : RS W1 lo hi (some ⟨b0, o0 + I, none⟩) (K + 1 - I) (subL xss I (K + 1)) := rs_sub hR (by omega) (by omega) (fun _ => rfl)
  obtain ⟨C, hCC⟩ : ∃ C, cntR (subL xss I (K + 1)) N = C := ⟨_, rfl⟩
  have hC4 : C ≤ N := by rw [← hCC]; exact cntR_le_n N
  replace hCC := Lib.hid hCC
  have gd : Below W1.heap.size W1 W1.drew := (Below.refl _ _).drew
  have hFl := l02Flags_any (some ⟨b0, o0, none⟩) n c xss W1.drew (hR.below gd (by omega)) (by show hi ≤ W1.heap.size; omega) (by omega)
  rw [hN] at hFl
  have D0 : W1.drew.cell? ⟨w.heap.size, 0, none⟩ = some (.slice (some ⟨b0, o0, none⟩) n c) := hC
  have hOr : ∀ V, Below W1.heap.size W1 V → Calls Try.prog 90 #[.int .i64 N, .slice (some ⟨b0, o0 + I, none⟩) (K + 1 - I) (c - I)] V fun e w' => ∃ (A1 : Option Addr) (c1 : Nat), e = .returned (.slice A1 N c1) ∧ Own w' V.heap.size w'.heap.size 2 A1 N c1 ((labL (subL xss I (K + 1)) N).map (Value.int .i64)) ∧ Below V.heap.size V w' := fun V hV => l01Orbits_any N (some ⟨b0, o0 + I, none⟩) (K + 1 - I) (c - I) (subL xss I (K + 1)) V (hsub.below hV (by omega)) (by have := hV.size; omega) hN4 hys
  replace hFl := Lib.hid hFl
  replace hOr := Lib.hid hOr
  replace gd := Lib.hid gd
  have hci : ¬ c = I := by omega
  have hic : I ≤ c := by omega
  have hI1 : (I : Int) ≤ (K : Int) + 1 := by omega
  have hI2 : (K : Int) + 1 ≤ (n : Int) := by omega
  have hI3 : (K : Int) + 1 ≤ (c : Int) := by omega
  have hwk : IntKind.i64.wrap ((K : Int) + 1) = (K : Int) + 1 := by rw [IntKind.wrap_i64]; omega
  have hI0 : (0 : Int) ≤ (I : Int) := by omega
  go_upto_region 1 with fail
  go_cut [8] from 18 to 26 (fun v8 wx => ∃ (A1 : Option Addr) (c1 lo1 : Nat), v8 = .slice A1 N c1 ∧ Own wx lo1 wx.heap.size 2 A1 N c1 ((labL (subL xss I (K + 1)) N).map (Value.int .i64)) ∧ W1.heap.size ≤ lo1 ∧ Below W1.heap.size W1 wx)
  case first =>
    go_region_held3 (fun w' => w'.cell? ⟨w.heap.size, 0, none⟩ = some (.slice (some ⟨b0, o0, none⟩) n c)) (first | (with_reducible exact D0) | (with_reducible exact D5) | (with_reducible exact D6) | go_keep) (first
        | (go_at_call 43
           with_reducible refine hFl.out.mono ?_
           rintro e w5 ⟨rfl, f5⟩
           have f5 := gd.out.trans f5
           have D5 := (f5.cell (p := ⟨w.heap.size, 0, none⟩) hz1).trans D0
           replace f5 := Lib.hid f5
           skip)
        | (go_at_call 90
           with_reducible refine (hOr.out _ f5.out).mono ?_
           rintro e w6 ⟨A1, c1, rfl, o6, f6⟩
           have f6 := f5.out.trans (f6.mono f5.out.size)
           have D6 := (f6.cell (p := ⟨w.heap.size, 0, none⟩) hz1).trans hC
           replace o6 := Lib.hid o6
           replace f6 := Lib.hid f6
           skip))
    all_goals
      go_wp2_with fail
      go_meet
      exact ⟨A1, c1, _, rfl, o6.out, f5.out.size, f6.out⟩
  case rest =>
    obtain ⟨wa, rfl⟩ : ∃ wa : World, wa = wc := ⟨_, rfl⟩
    obtain ⟨A1, c1, lo1, rfl, o1, hlo1, f1⟩ := hcut
    have y1 := f1.size
    have yw := hB.size
    have hB1 : Below w.heap.size w wa := hB.trans (f1.mono yw)
    have hgl : grt (labL (subL xss I (K + 1)) N) = (C : Int) := by rw [grt_lab hys, hCC.out]
    have hGr : ∀ V, Below wa.heap.size wa V → Calls Try.prog 64 #[.slice A1 N c1] V fun e w' => e = .returned (.int .i64 (C : Int)) ∧ V = w' := fun V hV => by
      rw [← hgl]
      refine l02Greatest_any A1 N c1 _ V (o1.ri.below hV (Nat.le_refl _)) fun x hx => ?_
      obtain ⟨q, hq⟩ := List.mem_iff_getElem?.1 hx
      have hql : q < N := by have := (List.getElem?_eq_some_iff.1 hq).1; rwa [labL_length] at this
      rw [labL_get hql] at hq
      have e := Option.some.inj hq
      have e1 := labOf_nonneg (subL xss I (K + 1)) q
      have e2 := lab_lt hys hql
      rw [hCC.out] at e2
      omega
    have S0 := FrmSt.zero wa (subL xss I (K + 1)) N
    have B0 : Below wa.heap.size wa ((wa.alloc (.cells #[] 38)).alloc (.cells #[] 38)) := ((Below.refl _ _).alloc (Nat.le_refl _) _).alloc (by simp) _
    replace hGr := Lib.hid hGr
    replace S0 := Lib.hid S0
    clear hFl hOr D0 gd hI1 hI2 hI3 hwk hI0 hci hic
    go_wp2_with fail
    go_loopw [11, 9, 10] (fun ov wv lv wq => ∃ (j : Nat) (A3 : Option Addr) (c3 b4 c4 : Nat) (ps qs : List VF), j ≤ C ∧ ov = .int .i64 j ∧ wv = .slice A3 j c3 ∧ lv = .slice (some ⟨b4, 0, none⟩) qs.length c4 ∧ Hid (FrmSt wq wa.heap.size (subL xss I (K + 1)) N j j A3 c3 b4 c4 ps qs) ∧ Below wa.heap.size wa wq) (fun ov _ _ _ => C - (intOf ov).toNat)
    case atStart => exact ⟨0, _, 0, _, 0, [], [], by omega, rfl, rfl, rfl, S0, B0⟩
    case round =>
      obtain ⟨j, A3, c3, b4, c4, ps, qs, hj, rfl, rfl, rfl, hSt, hBr⟩ := hrel
      have yr := hBr.size
      go_wp2_with fail
      ((with_reducible refine (hGr.out _ hBr).mono ?_); rintro e w' ⟨rfl, rfl⟩)
      by_cases hlt : j < C
      · obtain ⟨r, hr, hir, -⟩ := idx_lab (c := j) hys (by rw [hCC.out]; exact hlt)
        have hmF := (sec_man hP hN (show I < K + 1 by omega) (by rw [hxl]; omega) (f := (r : Int)) (by omega) (by omega)).1
        obtain ⟨F, hFe⟩ : ∃ F, formL (subL xss I (K + 1)) N (r : Int) = F := ⟨_, rfl⟩
        rw [hFe] at hmF
        have hfrm : frmL (subL xss I (K + 1)) N (idxI (labL (subL xss I (K + 1)) N) (j : Int)) = leastGo F (flg F) (flg F) := by unfold frmL; rw [hir, hFe]
        have F2 := hmF.f2
        have F4 := hmF.f4
        have FS := hmF.sys
        have FC := hmF.conn
        have hIx : ∀ V, Below wr.heap.size wr V → Calls Try.prog 85 #[.slice A1 N c1, .int .i64 (j : Int)] V fun e w' => e = .returned (.int .i64 (r : Int)) ∧ V = w' := fun V hV => by
          have := l01Index_any A1 N c1 (labL (subL xss I (K + 1)) N) (j : Int) V ((o1.ri.below hBr (Nat.le_refl _)).below hV (by omega))
          rw [hir] at this
          exact this
        have hRr := (hR.below f1 (by omega)).below hBr (by omega)
        have hSe : ∀ V, Below wr.heap.size wr V → Calls Try.prog 46 #[.agg #[.slice (some ⟨b0, o0, none⟩) n c], .int .i64 (r : Int), .int .i64 (I : Int), .int .i64 (K : Int)] V fun e w' => ∃ (A1 : Option Addr) (c1 : Nat), e = .returned (.agg #[.slice A1 (K + 1 - I) c1]) ∧ OwnS w' V.heap.size w'.heap.size 22 2 A1 (K + 1 - I) c1 F ∧ Below V.heap.size V w' := fun V hV => by
          have := l04Section_any N (some ⟨b0, o0, none⟩) n c xss (r : Int) I K I K rfl rfl V (hRr.below hV (by omega)) (by have := hV.size; omega) hnc hIK hKn (by omega) hN hN4 hS (by omega) (by omega)
          rw [hFe] at this
          exact this
        have hLe : ∀ V A5 c5 lo5 hi5, OwnS V lo5 hi5 22 2 A5 (K + 1 - I) c5 F → hi5 ≤ V.heap.size → Calls Try.prog 107 #[.agg #[.slice A5 (K + 1 - I) c5]] V fun e w' => ∃ (A1 : Option Addr) (c1 : Nat), e = .returned (.agg #[.slice A1 (K + 1 - I) c1]) ∧ OwnS w' V.heap.size w'.heap.size 22 2 A1 (K + 1 - I) c1 (leastGo F (flg F) (flg F)) ∧ Below V.heap.size V w' := fun V A5 c5 lo5 hi5 o5 hh => l02Least_any (flg F) A5 (K + 1 - I) c5 F V o5.rs hh (by omega) (by omega) rfl (by omega) F4 FS FC
        have hbw : w.heap.size < wr.heap.size := by omega
        have D0 : wr.cell? ⟨w.heap.size, 0, none⟩ = some (.slice (some ⟨b0, o0, none⟩) n c) := (hBr.cell (p := ⟨w.heap.size, 0, none⟩) (by simp; omega)).trans ((f1.cell (p := ⟨w.heap.size, 0, none⟩) (by simp; omega)).trans hC)
        have D1 : (wr.alloc (.cells #[.slice none 0 0] 38)).cell? ⟨w.heap.size, 0, none⟩ = some (.slice (some ⟨b0, o0, none⟩) n c) := (al_old _ _ _ _ hbw).trans D0
        have gd : Below wr.heap.size wr wr.drew := (Below.refl _ _).drew
        have ga : Below wr.heap.size wr (wr.alloc (.cells #[.slice none 0 0] 38)).drew := ((Below.refl _ _).alloc (Nat.le_refl _) _).drew
        replace hIx := Lib.hid hIx
        replace hSe := Lib.hid hSe
        replace hLe := Lib.hid hLe
        replace hfrm := Lib.hid hfrm
        replace FS := Lib.hid FS
        replace FC := Lib.hid FC
        replace gd := Lib.hid gd
        replace ga := Lib.hid ga
        clear hmF hFe hir hRr
        go_upto_region 6 with fail
        go_cut [12] from 35 to 42 (fun v12 wx => ∃ (bf : Nat) (Al : Option Addr) (cl : Nat), v12 = .pointer (some ⟨bf, 0, none⟩) ∧ wx.heap[bf]? = some (.cells #[.slice Al (K + 1 - I) cl] 38 (0, 0)) ∧ wr.heap.size ≤ bf ∧ OwnS wx wr.heap.size wx.heap.size 22 2 Al (K + 1 - I) cl (leastGo F (flg F) (flg F)) ∧ Below wr.heap.size wr wx)
        case first =>
          go_region_held3 (fun w' => w'.cell? ⟨w.heap.size, 0, none⟩ = some (.slice (some ⟨b0, o0, none⟩) n c)) (first | (with_reducible exact D0) | (with_reducible exact D1) | (with_reducible exact D5) | (with_reducible exact (al_old _ _ _ _ (by omega)).trans D5) | (with_reducible exact D6) | (with_reducible exact (al_old _ _ _ _ (by omega)).trans D6) | ((with_reducible refine (World.cell?_setCell_other _ _ _ _ ?_).trans D6); (intro q; have q2 := congrArg Addr.block q; simp only at q2; omega)) | go_keep) (first
            | (go_at_call 85
               first
                | (with_reducible refine (hIx.out _ gd.out).mono ?_)
                | (with_reducible refine (hIx.out _ ga.out).mono ?_)
               rintro e w' ⟨rfl, rfl⟩
               skip)
            | (go_at_call 46
               first
                | (with_reducible refine (hSe.out _ gd.out).mono ?_)
                | (with_reducible refine (hSe.out _ ga.out).mono ?_)
               rintro e w5 ⟨A5, c5, rfl, o5, f5⟩
               first
                | (have g5 := gd.out.trans f5)
                | (have g5 := ga.out.trans (f5.mono ga.out.size)
                   have E1 : w5.heap[wr.heap.size]? = some (.cells #[.slice none 0 0] 38) := (f5.block wr.heap.size (by simp)).trans (heap_new wr _ _ rfl)
                   have zk : wr.heap.size < w5.heap.size := by have := f5.size; simp at this; omega
                   have zk2 := zk
                   have zk4 := Nat.le_refl wr.heap.size
                   have zk3 := Nat.le_of_lt zk)
               have z5 := g5.size
               have D5 := (g5.cell (p := ⟨w.heap.size, 0, none⟩) hbw).trans D0
               replace g5 := Lib.hid g5
               replace o5 := Lib.hid o5
               skip)
            | (go_at_call 107
               first
                | (with_reducible refine (hLe.out _ A5 c5 _ _ o5.out (Nat.le_refl _)).mono ?_)
                | (with_reducible refine (hLe.out _ A5 c5 _ _ (o5.out.below (frm_al _ _) (Nat.le_refl _)) (by simp)).mono ?_)
               rintro e w6 ⟨Al, cl, rfl, o6, f6⟩
               first
                | (have g6 := g5.out.trans (f6.mono z5)
                   try have E1 := (f6.block wr.heap.size zk).trans E1)
                | (have g6 := (g5.out.trans ((frm_al w5 (.cells #[.slice none 0 0] 38)).mono z5)).trans (f6.mono (by simp; omega))
                   have E1 : w6.heap[w5.heap.size]? = some (.cells #[.slice none 0 0] 38) := (f6.block w5.heap.size (by simp)).trans (heap_new w5 _ _ rfl)
                   have zk : w5.heap.size < w6.heap.size := by have := f6.size; simp at this; omega
                   have zk2 : w5.heap.size < (w5.alloc (.cells #[.slice none 0 0] 38)).heap.size := by simp
                   have zk3 : wr.heap.size ≤ (w5.alloc (.cells #[.slice none 0 0] 38)).heap.size := by simp; omega
                   have zk4 := z5)
               have z6 := g6.size
               have D6 := (g6.cell (p := ⟨w.heap.size, 0, none⟩) hbw).trans D0
               try (have E2 := frm_cell E1; have E3 := frm_frz E1; replace E1 := Lib.hid E1)
               replace g6 := Lib.hid g6
               replace o6 := Lib.hid o6
               skip))
          all_goals
            first
            | (have h7 := heap_setCell_same _ _ 0 _ _ (Value.slice Al (K + 1 - I) cl) E1.out
               have h7 := Lib.hid h7
               have o7 := Lib.hid ((o6.out.keep (same_set w6 ⟨_, 0, none⟩ (Value.slice Al (K + 1 - I) cl) _ _ (.inl zk2))).more (lo' := wr.heap.size) zk3 (Nat.le_refl _))
               have g7 := Lib.hid (g6.out.setCell (p := ⟨_, 0, none⟩) zk4 (Value.slice Al (K + 1 - I) cl))
               go_wp2_with fail
               go_meet
               exact ⟨_, Al, cl, rfl, by simpa using h7.out, zk4, by simpa using o7.out, g7.out⟩)
            | (have h7 := heap_new w6 (.cells #[.slice Al (K + 1 - I) cl] 38) _ rfl
               have h7 := Lib.hid h7
               have o7 := Lib.hid ((o6.out.below (frm_al w6 (.cells #[.slice Al (K + 1 - I) cl] 38)) (Nat.le_refl _)).more (lo' := wr.heap.size) (hi' := w6.heap.size + 1) z5 (by omega))
               have g7 := Lib.hid (g6.out.trans ((frm_al w6 (.cells #[.slice Al (K + 1 - I) cl] 38)).mono z6))
               go_wp2_with fail
               go_meet
               exact ⟨_, Al, cl, rfl, h7.out, z6, by simpa using o7.out, g7.out⟩)
        case rest =>
          obtain ⟨we, rfl⟩ : ∃ we : World, we = wc := ⟨_, rfl⟩
          obtain ⟨bf, Al, cl, rfl, hbf, hbl, o6, f6⟩ := hcut
          obtain ⟨wo, rfl⟩ : ∃ wo : World, wo = wr := ⟨_, rfl⟩
          obtain ⟨f, hf⟩ : ∃ f, leastGo F (flg F) (flg F) = f := ⟨_, rfl⟩
          rw [hf] at o6 hfrm
          clear hIx hSe hLe gd ga D0 D1 FS FC
          have hbz : bf < we.heap.size := (Array.getElem?_eq_some_iff.1 hbf).1
          have CB : we.cell? ⟨bf, 0, none⟩ = some (.slice Al (K + 1 - I) cl) := frm_cell hbf
          have y6 := f6.size
          have hSe := hSt.out.below f6
          have howz : ∀ g, (Value.slice A3 j c3).ownBlock = some g → g < wo.heap.size := fun g hg => (hSt.out.own.lt g hg).2
          go_wp2_with (at_builtin; refine wpList_append1 we rfl (.tmp 43) (.tmp 45) 63 rfl wa.heap.size 38 m0 (.agg #[.slice none 0 0]) 24 Try.underlying63 hm0 hv0 hv1 hv2 rfl (by omega) _ j c3 _ (.slice Al (K + 1 - I) cl) rfl hSe.own _ rfl rfl rfl (by omega) (by omega) ?_)
          intro g1 c5 w8 ho8 hg8 hlo8 hlt8 hor8
          have y8 := hg8.size
          have hb8 : w8.heap[bf]? = some (.cells #[.slice Al (K + 1 - I) cl] 38 (0, 0)) := (hg8.block bf hbz (fun e => by have := howz _ e.symm; omega)).trans hbf
          have r8 : RS w8 wo.heap.size we.heap.size Al (K + 1 - I) f := by
            obtain ⟨vs, oA, oB⟩ := o6
            exact OwnS.rs ⟨vs, oA.kept_ty hSe.own (by decide) hg8, oB.kept_ty hSe.own (by decide) hg8⟩
          have S8 := hSe.app (by rw [hCC.out]; exact hlt) hfrm.out.symm o6 yr (by omega) ho8 hg8 hor8
          have B8 : Below wa.heap.size wa w8 := (hBr.trans (f6.mono yr)).grown hg8 (by omega) (fun q hq => by have := (hSt.out.own.lt q hq).1; omega)
          obtain ⟨T, hT⟩ : ∃ T, atF f qs = T := ⟨_, rfl⟩
          have hTl : T ≤ qs.length := by rw [← hT]; exact atF_le f qs
          have hq4 : qs.length ≤ c4 := hSe.cap
          have hqj := hSe.qlen
          have hpk : (ps ++ [((.slice Al (K + 1 - I) cl, f) : VF)])[j]? = some (.slice Al (K + 1 - I) cl, f) := by
            rw [List.getElem?_append_right (by rw [hSe.len]; exact Nat.le_refl _), hSe.len]
            simp
          replace hT := Lib.hid hT
          replace S8 := Lib.hid S8
          replace hpk := Lib.hid hpk
          replace hb8 := Lib.hid hb8
          clear hor8 hg8 ho8 howz hSe CB hbf o6 hSt hf hfrm
          go_wp2_with fail
          go_loopw [13] (fun av wq => ∃ t : Nat, t ≤ T ∧ av = .int .i64 t ∧ Below w8.heap.size w8 wq) (fun av _ => qs.length - (intOf av).toNat)
          case atStart => exact ⟨0, by omega, rfl, Below.refl _ _⟩
          case round =>
            obtain ⟨t, ht, rfl, hB9⟩ := hrel
            have y9 := hB9.size
            have k8 : wr.cell? ⟨bf, 0, none⟩ = some (.slice Al (K + 1 - I) cl) := (hB9.cell (p := ⟨bf, 0, none⟩) (by simp; omega)).trans (frm_cell hb8.out)
            have rf := r8.below hB9 (by omega)
            have hh2 : we.heap.size ≤ wr.heap.size := by omega
            have hm : 0 < K + 1 - I := by omega
            haveI := Since.ne wr
            have u2 : ∀ u : Since wr, u.val.cell? ⟨bf, 0, none⟩ = some (.slice Al (K + 1 - I) cl) := fun u => (u.ok.cell (p := ⟨bf, 0, none⟩) (by simp; omega)).trans k8
            by_cases hl9 : t < qs.length
            · obtain ⟨q, hq⟩ : ∃ q, qs[t]? = some q := ⟨_, List.getElem?_eq_getElem hl9⟩
              obtain ⟨Aq, nq, cq, eq, pq, _, oq⟩ := S8.out.good q (S8.out.qmem (List.mem_of_getElem? hq))
              have rq := oq.rs.below hB9 (Nat.le_refl _)
              have hh1 : w8.heap.size ≤ wr.heap.size := y9
              have k9 : wr.cell? ⟨b4, t, none⟩ = some (.slice Aq nq cq) := by
                have e1 := S8.out.row.cell (k := t) (v := q.1) (by simp [hq])
                rw [Nat.zero_add, eq] at e1
                exact (hB9.cell (p := ⟨b4, t, none⟩) (by have := S8.out.b4z.2; simp; omega)).trans e1
              have u1 : ∀ u : Since wr, u.val.cell? ⟨b4, t, none⟩ = some (.slice Aq nq cq) := fun u => (u.ok.cell (p := ⟨b4, t, none⟩) (by have := S8.out.b4z.2; simp; omega)).trans k9
              clear eq oq
              by_cases hc : cmpF q.2 f < 0
              · have hsm : decide (cmpF q.2 f < 0) = true := decide_eq_true hc
                have ht2 : t + 1 ≤ T := by rw [← hT.out]; exact atF_step (by rw [hT.out]; exact ht) hq hc
                replace hc := Lib.hid hc
                replace hsm := Lib.hid hsm
                replace hq := Lib.hid hq
                go_wp2_with fail
                refine wp_region_since_lit (by kernel_rfl) (by kernel_rfl) ?_
                repeat (go_big_quiet_step ((go_at_call 108; refine since_call (hsm.out ▸ l04Before_any Aq nq cq q.2 Al _ cl f _ (rq.below (Since.ok _) hh1) ?_ pq (rf.below (Since.ok _) hh2) ?_ hm); exact Nat.le_trans hh1 (Since.ok _).size; exact Nat.le_trans hh2 (Since.ok _).size)))
                refine wpQuiet_nil ?_
                intro w2 hw2
                have hb2 : Below wr.heap.size wr w2 := by obtain ⟨u, hu⟩ := hw2; rw [hu]; exact u.ok
                clear hw2 u1 u2
                have hB10 := hB9.trans (hb2.mono y9)
                go_wp2_with fail
                go_roundw
                case measure => simp [intOf]; omega
                case rel => exact ⟨t + 1, ht2, by go_num, hB10⟩
              ·
--@E1
                have hsm : decide (cmpF q.2 f < 0) = false := decide_eq_false hc
                have hTt : T = t := by
                  have := atF_stop (f := f) (by rw [hT.out]; exact ht) hq hc
                  rw [← hT.out]; exact this
                replace hc := Lib.hid hc
                replace hsm := Lib.hid hsm
                replace hq := Lib.hid hq
                replace hTt := Lib.hid hTt
                go_wp2_with fail
                refine wp_region_since_lit (by kernel_rfl) (by kernel_rfl) ?_
                repeat (go_big_quiet_step ((go_at_call 108; refine since_call (hsm.out ▸ l04Before_any Aq nq cq q.2 Al _ cl f _ (rq.below (Since.ok _) hh1) ?_ pq (rf.below (Since.ok _) hh2) ?_ hm); exact Nat.le_trans hh1 (Since.ok _).size; exact Nat.le_trans hh2 (Since.ok _).size)))
                refine wpQuiet_nil ?_
                intro w2 hw2
                have hb2 : Below wr.heap.size wr w2 := by obtain ⟨u, hu⟩ := hw2; rw [hu]; exact u.ok
                clear hw2
                clear u1 u2
                have hB10 := hB9.trans (hb2.mono y9)
                have y10 := hb2.size
                have rq2 := rq.below hb2 hh1
                have rf2 := rf.below hb2 hh2
                have hh3 : w8.heap.size ≤ w2.heap.size := by omega
                have hh4 : we.heap.size ≤ w2.heap.size := by omega
                have hb4z := S8.out.b4z.2
                haveI := Since.ne w2
                have u3 : ∀ u : Since w2, u.val.cell? ⟨b4, t, none⟩ = some (.slice Aq nq cq) := fun u => (u.ok.cell (p := ⟨b4, t, none⟩) (by simp; omega)).trans ((hb2.cell (p := ⟨b4, t, none⟩) (by simp; omega)).trans k9)
                have u4 : ∀ u : Since w2, u.val.cell? ⟨bf, 0, none⟩ = some (.slice Al (K + 1 - I) cl) := fun u => (u.ok.cell (p := ⟨bf, 0, none⟩) (by simp; omega)).trans ((hb2.cell (p := ⟨bf, 0, none⟩) (by simp; omega)).trans k8)
                have hct : ¬ c4 = t := by omega
                by_cases hqf : q.2 = f
                · have hsm2 : decide (q.2 = f) = true := decide_eq_true hqf
                  replace hqf := Lib.hid hqf
                  replace hsm2 := Lib.hid hsm2
                  clear k8 k9 rq rf
                  go_wp2_with fail
                  refine wp_region_since_lit (by kernel_rfl) (by kernel_rfl) ?_
                  repeat (go_big_quiet_step ((go_at_call 109; refine since_call (hsm2.out ▸ l02Same_any Aq nq cq q.2 Al _ cl f _ (rq2.below (Since.ok _) hh3) ?_ (rf2.below (Since.ok _) hh4) ?_); exact Nat.le_trans hh3 (Since.ok _).size; exact Nat.le_trans hh4 (Since.ok _).size)))
                  refine wpQuiet_nil ?_
                  intro w3 hw2
                  have hb3 : Below w2.heap.size w2 w3 := by obtain ⟨u, hu⟩ := hw2; rw [hu]; exact u.ok
                  clear hw2
                  clear u3 u4
                  have hB11 := hB10.trans (hb3.mono hh3)
                  have S12 := (S8.out.below hB11).stay hpk.out (insF_same (q := q) (by show qs[atF f qs]? = some q; rw [hT.out, hTt.out]; exact hq.out) hqf.out)
                  have B12 := B8.trans (hB11.mono (by omega))
                  replace S12 := Lib.hid S12
                  go_wp2_with fail
                  go_roundw
                  case measure => simp [intOf]; omega
                  case rel => exact ⟨j + 1, _, c5, b4, c4, ps ++ [((.slice Al (K + 1 - I) cl, f) : VF)], qs, by omega, by go_num, rfl, rfl, S12, B12⟩
                · have hsm2 : decide (q.2 = f) = false := decide_eq_false hqf
                  replace hqf := Lib.hid hqf
                  replace hsm2 := Lib.hid hsm2
                  clear k8 k9 rq rf
                  go_wp2_with fail
                  refine wp_region_since_lit (by kernel_rfl) (by kernel_rfl) ?_
                  repeat (go_big_quiet_step ((go_at_call 109; refine since_call (hsm2.out ▸ l02Same_any Aq nq cq q.2 Al _ cl f _ (rq2.below (Since.ok _) hh3) ?_ (rf2.below (Since.ok _) hh4) ?_); exact Nat.le_trans hh3 (Since.ok _).size; exact Nat.le_trans hh4 (Since.ok _).size)))
                  refine wpQuiet_nil ?_
                  intro w3 hw2
                  have hb3 : Below w2.heap.size w2 w3 := by obtain ⟨u, hu⟩ := hw2; rw [hu]; exact u.ok
                  clear hw2
                  clear u3 u4
                  have hB11 := hB10.trans (hb3.mono hh3)
                  replace hTt := hTt.out
                  have hTt : T = t := hTt
                  have S11 := S8.out.below hB11
                  have y11 := hB11.size
                  have hinF : insF qs (.slice Al (K + 1 - I) cl, f) = qs.take t ++ (.slice Al (K + 1 - I) cl, f) :: qs.drop t := by
                    have e := insF_diff (q := q) (l := qs) (p := (.slice Al (K + 1 - I) cl, f)) (by show qs[atF f qs]? = some q; rw [hT.out, hTt]; exact hq.out) hqf.out
                    rw [show atF ((.slice Al (K + 1 - I) cl, f) : VF).2 qs = t from by rw [show ((.slice Al (K + 1 - I) cl, f) : VF).2 = f from rfl, hT.out]; exact hTt] at e
                    exact e
                  have hlenI : (insF qs (.slice Al (K + 1 - I) cl, f)).length = t + (1 + (qs.length - t)) := by rw [hinF]; simp; omega
                  have hone : ∀ u ∈ qs.map (·.1), u.oneCell' = true := fun u hu => by
                    obtain ⟨q, hq, rfl⟩ := List.mem_map.1 hu
                    obtain ⟨Aq, nq, cq, eq, _⟩ := S11.good q (S11.qmem hq)
                    rw [eq]; rfl
                  have k12 : w3.cell? ⟨bf, 0, none⟩ = some (.slice Al (K + 1 - I) cl) := (hB11.cell (p := ⟨bf, 0, none⟩) (by simp; omega)).trans (frm_cell hb8.out)
                  have gA : Below w3.heap.size w3 (w3.alloc (.cells #[.slice Al (K + 1 - I) cl] 38)).drew := ((Below.refl _ _).alloc (Nat.le_refl _) _).drew
                  have hlit : (w3.alloc (.cells #[.slice Al (K + 1 - I) cl] 38)).drew.ownsRow w3.heap.size 38 1 (.slice (some ⟨w3.heap.size, 0, none⟩) 1 1) 1 [.slice Al (K + 1 - I) cl] := World.ownsRow_lit (e := 38) (base := w3.heap.size) (size := 1) w3 #[.slice Al (K + 1 - I) cl] 1 (Nat.le_refl _) (by simp only [maxLen]; omega) rfl
                  have hdr : ((qs.map (·.1)).drop t).take (qs.length - t) = (qs.map (·.1)).drop t := List.take_of_length_le (by simp)
                  have hsub3 : Rd (w3.alloc (.cells #[.slice Al (K + 1 - I) cl] 38)).drew b4 (b4 + 1) (some ⟨b4, t, none⟩) (qs.length - t) ((qs.map (·.1)).drop t) := by
                    rw [← hdr]
                    exact rd_sub (S11.row.below gA S11.b4z.2) (by omega) (Nat.le_refl _) (fun hh => by rw [Nat.zero_add])
                  clear hdr
                  have h1d : ∀ u ∈ (qs.map (·.1)).drop t, u.oneCell' = true := fun u hu => hone u (List.mem_of_mem_drop hu)
                  have h1t : ∀ u ∈ (qs.map (·.1)).take t, u.oneCell' = true := fun u hu => hone u (List.mem_of_mem_take hu)
                  replace hlit := Lib.hid hlit
                  replace hsub3 := Lib.hid hsub3
                  replace h1d := Lib.hid h1d
                  replace h1t := Lib.hid h1t
                  replace S11 := Lib.hid S11
                  replace gA := Lib.hid gA
                  replace hinF := Lib.hid hinF
                  replace hlenI := Lib.hid hlenI
                  clear hone
                  have hs0 : (0 : Int) ≤ (t : Int) := by omega
                  have hs1 : (t : Int) ≤ (qs.length : Int) := by omega
                  have hs2 : (qs.length : Int) ≤ (c4 : Int) := by omega
                  have hs3 : t ≤ qs.length := by omega
                  have hs4 : t ≤ c4 := by omega
                  try clear htl2
                  try clear hlen3
                  try clear hlen4
                  replace hTt := Lib.hid hTt
                  go_wp2_with fail
                  go_region_law (first
                    | (refine step_appendL _ rfl (.tmp 74) (.tmp 77) 63 rfl w3.heap.size 38 m0 (.agg #[.slice none 0 0]) 24 Try.underlying63 hm0 hv0 hv1 hv2 rfl (by decide) (some ⟨w3.heap.size, 0, none⟩) 1 1 _ (by simp [Act.eval]) hlit.out (some ⟨b4, t, none⟩) (qs.length - t) (c4 - t) _ b4 (b4 + 1) (by simp [Act.eval]) hsub3.out h1d.out (by omega) (by simp) ?_
                       intro A7 c7 w7 ho7 hg7 hor7
                       have g7 := gA.out.grown hg7 (by simp) (fun q hq => by simp [Value.ownBlock] at hq; omega)
                       have y7 := g7.size
                       have rd7 := (Own.of_row ho7).rd
                       replace g7 := Lib.hid g7
                       replace rd7 := Lib.hid rd7
                       clear ho7 hg7 hor7))
                  all_goals
                    have hlit0 : (w7.alloc (.cells #[] 38)).ownsRow w7.heap.size 38 1 (.slice (some ⟨w7.heap.size, 0, none⟩) 0 0) 0 [] := by simpa using World.ownsRow_lit (e := 38) (base := w7.heap.size) (size := 1) w7 #[] 0 (Nat.le_refl _) (by omega) rfl
                    have gB := frm_al w7 (.cells #[] 38)
                    have htk : (qs.map (·.1)).take t = ((qs.map (·.1)).drop 0).take (t - 0) := by simp
                    have hsub4 : Rd (w7.alloc (.cells #[] 38)) b4 (b4 + 1) (some ⟨b4, 0, none⟩) t ((qs.map (·.1)).take t) := by
                      rw [htk]
                      have := rd_sub ((S11.out.row.below g7.out S11.out.b4z.2).below gB (by have := S11.out.b4z.2; omega)) (i := 0) (j := t) (A' := some ⟨b4, 0, none⟩) (by omega) (by omega) (fun _ => rfl)
                      simpa using this
                    clear htk
                    go_wp2_with (at_builtin; refine wpList_appendL (w7.alloc (.cells #[] 38)) rfl (.tmp 79) (.tmp 82) 63 rfl w7.heap.size 38 m0 (.agg #[.slice none 0 0]) 24 Try.underlying63 hm0 hv0 hv1 hv2 rfl (by omega) (some ⟨w7.heap.size, 0, none⟩) 0 0 [] rfl hlit0 (some ⟨b4, 0, none⟩) t _ _ b4 (b4 + 1) rfl hsub4 h1t.out (by omega) (by simp) ?_)
                    intro A8 c8 w9 ho9 hg9 hor9
                    try rw [Nat.zero_add] at ho9 hor9 ⊢
                    have g9 := gB.grown hg9 (by simp) (fun q hq => by simp [Value.ownBlock] at hq; omega)
                    have y9b := g9.size
                    have rd9 := rd7.out.below g9 (Nat.le_refl _)
                    have h1e : ∀ u ∈ [Value.slice Al (K + 1 - I) cl] ++ (qs.map (·.1)).drop t, u.oneCell' = true := fun u hu => by
                      rcases List.mem_append.1 hu with e | e
                      · rw [List.mem_singleton.1 e]; rfl
                      · exact h1d.out u e
                    go_wp2_with (at_builtin; refine wpList_appendL w9 rfl (.tmp 83) (.tmp 84) 63 rfl w7.heap.size 38 m0 (.agg #[.slice none 0 0]) 24 Try.underlying63 hm0 hv0 hv1 hv2 rfl (by omega) A8 t c8 _ rfl ho9 A7 _ c7 _ _ _ rfl rd9 h1e (by omega) (by omega) ?_)
                    intro A9 c9 w10 ho10 hg10 hor10
                    have g10 := g9.grown hg10 (by omega) (fun q hq => by have := (ho9.lt q hq).1; omega)
                    obtain ⟨b9, cap9, e9, l9, z9⟩ := slice_of_own ho10 (by omega)
                    injection e9 with e9 _ _
                    subst e9
                    have g11 := g7.out.trans (g10.mono y7)
                    have S12 := S11.out.relist (p := (.slice Al (K + 1 - I) cl, f)) (b5 := b9) (c5 := c9) g11 hpk.out (by
                      have e := rd_one (Own.of_row ho10).rd
                      rw [hlenI.out, hinF.out]
                      simpa using e) ⟨by omega, z9⟩ (by rw [hlenI.out]; exact (Own.of_row ho10).cap)
                    have B12 := (B8.trans (hB11.mono (by omega))).trans (g11.mono (by omega))
                    replace S12 := Lib.hid S12
                    clear ho10 hg10 hor10 ho9 hg9 hor9 rd9 h1e hlit0 hsub4 gB g9 g10 g11
                    go_wp2_with fail
                    go_roundw
                    case measure => simp [intOf]; omega
                    case rel => exact ⟨j + 1, _, c5, b9, c9, ps ++ [((.slice Al (K + 1 - I) cl, f) : VF)], insF qs (.slice Al (K + 1 - I) cl, f), by omega, by go_num, rfl, congrArg (fun m => Value.slice (some ⟨b9, 0, none⟩) m c9) hlenI.out.symm, S12, B12⟩
--@E1e
                skip
            ·
--@E2
              have htl : t = qs.length := by omega
              have hTt : T = t := by omega
              have hlen3 : (qs.length : Int) ≤ (t : Int) := by omega
              have hlen4 : (t : Int) ≤ (qs.length : Int) := by omega
              replace htl := Lib.hid htl
              replace hTt := Lib.hid hTt
              clear k8 rf
              go_wp2_with fail
              refine wp_region_since_lit (by kernel_rfl) (by kernel_rfl) ?_
              repeat (go_big_quiet_step ((fail)))
              refine wpQuiet_nil ?_
              intro w2 hw2
              have hb2 : Below wr.heap.size wr w2 := by obtain ⟨u, hu⟩ := hw2; rw [hu]; exact u.ok
              clear hw2
              clear u2
              have hB10 := hB9.trans (hb2.mono y9)
              have y10 := hb2.size
              haveI := Since.ne w2
              go_wp2_with fail
              refine wp_region_since_lit (by kernel_rfl) (by kernel_rfl) ?_
              repeat (go_big_quiet_step ((fail)))
              refine wpQuiet_nil ?_
              intro w3 hw2
              have hb3 : Below w2.heap.size w2 w3 := by obtain ⟨u, hu⟩ := hw2; rw [hu]; exact u.ok
              clear hw2
              have hB11 := hB10.trans (hb3.mono (by omega))
              replace hTt := hTt.out
              have htl2 := htl.out
              have hTt : T = t := hTt
              by_cases hct : c4 = t
              · have hct := hct.symm
                subst hct
                have S11 := S8.out.below hB11
                have y11 := hB11.size
                have hinF : insF qs (.slice Al (K + 1 - I) cl, f) = qs.take t ++ (.slice Al (K + 1 - I) cl, f) :: [] := by
                  have e := insF_out (l := qs) (p := (.slice Al (K + 1 - I) cl, f)) (by show qs.length ≤ atF f qs; rw [hT.out, hTt]; omega)
                  rw [show atF ((.slice Al (K + 1 - I) cl, f) : VF).2 qs = t from by rw [show ((.slice Al (K + 1 - I) cl, f) : VF).2 = f from rfl, hT.out]; exact hTt] at e
                  rw [List.drop_eq_nil_of_le (show qs.length ≤ t by omega)] at e
                  exact e
                have hlenI : (insF qs (.slice Al (K + 1 - I) cl, f)).length = t + (1 + (0)) := by rw [hinF]; simp; omega
                have hone : ∀ u ∈ qs.map (·.1), u.oneCell' = true := fun u hu => by
                  obtain ⟨q, hq, rfl⟩ := List.mem_map.1 hu
                  obtain ⟨Aq, nq, cq, eq, _⟩ := S11.good q (S11.qmem hq)
                  rw [eq]; rfl
                have k12 : w3.cell? ⟨bf, 0, none⟩ = some (.slice Al (K + 1 - I) cl) := (hB11.cell (p := ⟨bf, 0, none⟩) (by simp; omega)).trans (frm_cell hb8.out)
                have gA : Below w3.heap.size w3 (w3.alloc (.cells #[.slice Al (K + 1 - I) cl] 38)).drew := ((Below.refl _ _).alloc (Nat.le_refl _) _).drew
                have hlit : (w3.alloc (.cells #[.slice Al (K + 1 - I) cl] 38)).drew.ownsRow w3.heap.size 38 1 (.slice (some ⟨w3.heap.size, 0, none⟩) 1 1) 1 [.slice Al (K + 1 - I) cl] := World.ownsRow_lit (e := 38) (base := w3.heap.size) (size := 1) w3 #[.slice Al (K + 1 - I) cl] 1 (Nat.le_refl _) (by simp only [maxLen]; omega) rfl
                have hsub3 : Rd (w3.alloc (.cells #[.slice Al (K + 1 - I) cl] 38)).drew b4 (b4 + 1) (some ⟨b4, 0, none⟩) 0 ([] : List Value) := Rd.nil
                have h1d : ∀ u ∈ ([] : List Value), u.oneCell' = true := fun u hu => by simp at hu
                have h1t : ∀ u ∈ (qs.map (·.1)).take t, u.oneCell' = true := fun u hu => hone u (List.mem_of_mem_take hu)
                replace hlit := Lib.hid hlit
                replace hsub3 := Lib.hid hsub3
                replace h1d := Lib.hid h1d
                replace h1t := Lib.hid h1t
                replace S11 := Lib.hid S11
                replace gA := Lib.hid gA
                replace hinF := Lib.hid hinF
                replace hlenI := Lib.hid hlenI
                clear hone
                have hs0 : (0 : Int) ≤ (t : Int) := by omega
                have hs1 : (t : Int) ≤ (qs.length : Int) := by omega
                have hs2 : (qs.length : Int) ≤ (t : Int) := by omega
                have hs3 : t ≤ qs.length := by omega
                have hs4 : t ≤ t := by omega
                try clear htl2
                try clear hlen3
                try clear hlen4
                replace hTt := Lib.hid hTt
                go_wp2_with fail
                go_region_law (first
                  | (refine step_appendL _ rfl (.tmp 74) (.tmp 77) 63 rfl w3.heap.size 38 m0 (.agg #[.slice none 0 0]) 24 Try.underlying63 hm0 hv0 hv1 hv2 rfl (by decide) (some ⟨w3.heap.size, 0, none⟩) 1 1 _ (by simp [Act.eval]) hlit.out (some ⟨b4, 0, none⟩) (0) (0) _ b4 (b4 + 1) (by simp [Act.eval]) hsub3.out h1d.out (by omega) (by simp) ?_
                     intro A7 c7 w7 ho7 hg7 hor7
                     have g7 := gA.out.grown hg7 (by simp) (fun q hq => by simp [Value.ownBlock] at hq; omega)
                     have y7 := g7.size
                     have rd7 := (Own.of_row ho7).rd
                     replace g7 := Lib.hid g7
                     replace rd7 := Lib.hid rd7
                     clear ho7 hg7 hor7))
                all_goals
                  have hlit0 : (w7.alloc (.cells #[] 38)).ownsRow w7.heap.size 38 1 (.slice (some ⟨w7.heap.size, 0, none⟩) 0 0) 0 [] := by simpa using World.ownsRow_lit (e := 38) (base := w7.heap.size) (size := 1) w7 #[] 0 (Nat.le_refl _) (by omega) rfl
                  have gB := frm_al w7 (.cells #[] 38)
                  have htk : (qs.map (·.1)).take t = ((qs.map (·.1)).drop 0).take (t - 0) := by simp
                  have hsub4 : Rd (w7.alloc (.cells #[] 38)) b4 (b4 + 1) (some ⟨b4, 0, none⟩) t ((qs.map (·.1)).take t) := by
                    rw [htk]
                    have := rd_sub ((S11.out.row.below g7.out S11.out.b4z.2).below gB (by have := S11.out.b4z.2; omega)) (i := 0) (j := t) (A' := some ⟨b4, 0, none⟩) (by omega) (by omega) (fun _ => rfl)
                    simpa using this
                  clear htk
                  go_wp2_with (at_builtin; refine wpList_appendL (w7.alloc (.cells #[] 38)) rfl (.tmp 79) (.tmp 82) 63 rfl w7.heap.size 38 m0 (.agg #[.slice none 0 0]) 24 Try.underlying63 hm0 hv0 hv1 hv2 rfl (by omega) (some ⟨w7.heap.size, 0, none⟩) 0 0 [] rfl hlit0 (some ⟨b4, 0, none⟩) t _ _ b4 (b4 + 1) rfl hsub4 h1t.out (by omega) (by simp) ?_)
                  intro A8 c8 w9 ho9 hg9 hor9
                  try rw [Nat.zero_add] at ho9 hor9 ⊢
                  have g9 := gB.grown hg9 (by simp) (fun q hq => by simp [Value.ownBlock] at hq; omega)
                  have y9b := g9.size
                  have rd9 := rd7.out.below g9 (Nat.le_refl _)
                  have h1e : ∀ u ∈ [Value.slice Al (K + 1 - I) cl] ++ ([] : List Value), u.oneCell' = true := fun u hu => by
                    rcases List.mem_append.1 hu with e | e
                    · rw [List.mem_singleton.1 e]; rfl
                    · exact h1d.out u e
                  go_wp2_with (at_builtin; refine wpList_appendL w9 rfl (.tmp 83) (.tmp 84) 63 rfl w7.heap.size 38 m0 (.agg #[.slice none 0 0]) 24 Try.underlying63 hm0 hv0 hv1 hv2 rfl (by omega) A8 t c8 _ rfl ho9 A7 _ c7 _ _ _ rfl rd9 h1e (by omega) (by omega) ?_)
                  intro A9 c9 w10 ho10 hg10 hor10
                  have g10 := g9.grown hg10 (by omega) (fun q hq => by have := (ho9.lt q hq).1; omega)
                  obtain ⟨b9, cap9, e9, l9, z9⟩ := slice_of_own ho10 (by omega)
                  injection e9 with e9 _ _
                  subst e9
                  have g11 := g7.out.trans (g10.mono y7)
                  have S12 := S11.out.relist (p := (.slice Al (K + 1 - I) cl, f)) (b5 := b9) (c5 := c9) g11 hpk.out (by
                    have e := rd_one (Own.of_row ho10).rd
                    rw [hlenI.out, hinF.out]
                    simpa using e) ⟨by omega, z9⟩ (by rw [hlenI.out]; exact (Own.of_row ho10).cap)
                  have B12 := (B8.trans (hB11.mono (by omega))).trans (g11.mono (by omega))
                  replace S12 := Lib.hid S12
                  clear ho10 hg10 hor10 ho9 hg9 hor9 rd9 h1e hlit0 hsub4 gB g9 g10 g11
                  go_wp2_with fail
                  go_roundw
                  case measure => simp [intOf]; omega
                  case rel => exact ⟨j + 1, _, c5, b9, c9, ps ++ [((.slice Al (K + 1 - I) cl, f) : VF)], insF qs (.slice Al (K + 1 - I) cl, f), by omega, by go_num, rfl, congrArg (fun m => Value.slice (some ⟨b9, 0, none⟩) m c9) hlenI.out.symm, S12, B12⟩
              · skip
                have S11 := S8.out.below hB11
                have y11 := hB11.size
                have hinF : insF qs (.slice Al (K + 1 - I) cl, f) = qs.take t ++ (.slice Al (K + 1 - I) cl, f) :: qs.drop t := by
                  have e := insF_out (l := qs) (p := (.slice Al (K + 1 - I) cl, f)) (by show qs.length ≤ atF f qs; rw [hT.out, hTt]; omega)
                  rw [show atF ((.slice Al (K + 1 - I) cl, f) : VF).2 qs = t from by rw [show ((.slice Al (K + 1 - I) cl, f) : VF).2 = f from rfl, hT.out]; exact hTt] at e
                  exact e
                have hlenI : (insF qs (.slice Al (K + 1 - I) cl, f)).length = t + (1 + (qs.length - t)) := by rw [hinF]; simp; omega
                have hone : ∀ u ∈ qs.map (·.1), u.oneCell' = true := fun u hu => by
                  obtain ⟨q, hq, rfl⟩ := List.mem_map.1 hu
                  obtain ⟨Aq, nq, cq, eq, _⟩ := S11.good q (S11.qmem hq)
                  rw [eq]; rfl
                have k12 : w3.cell? ⟨bf, 0, none⟩ = some (.slice Al (K + 1 - I) cl) := (hB11.cell (p := ⟨bf, 0, none⟩) (by simp; omega)).trans (frm_cell hb8.out)
                have gA : Below w3.heap.size w3 (w3.alloc (.cells #[.slice Al (K + 1 - I) cl] 38)).drew := ((Below.refl _ _).alloc (Nat.le_refl _) _).drew
                have hlit : (w3.alloc (.cells #[.slice Al (K + 1 - I) cl] 38)).drew.ownsRow w3.heap.size 38 1 (.slice (some ⟨w3.heap.size, 0, none⟩) 1 1) 1 [.slice Al (K + 1 - I) cl] := World.ownsRow_lit (e := 38) (base := w3.heap.size) (size := 1) w3 #[.slice Al (K + 1 - I) cl] 1 (Nat.le_refl _) (by simp only [maxLen]; omega) rfl
                have hdr : ((qs.map (·.1)).drop t).take (qs.length - t) = (qs.map (·.1)).drop t := List.take_of_length_le (by simp)
                have hsub3 : Rd (w3.alloc (.cells #[.slice Al (K + 1 - I) cl] 38)).drew b4 (b4 + 1) (some ⟨b4, t, none⟩) (qs.length - t) ((qs.map (·.1)).drop t) := by
                  rw [← hdr]
                  exact rd_sub (S11.row.below gA S11.b4z.2) (by omega) (Nat.le_refl _) (fun hh => absurd hh (by omega))
                clear hdr
                have h1d : ∀ u ∈ (qs.map (·.1)).drop t, u.oneCell' = true := fun u hu => hone u (List.mem_of_mem_drop hu)
                have h1t : ∀ u ∈ (qs.map (·.1)).take t, u.oneCell' = true := fun u hu => hone u (List.mem_of_mem_take hu)
                replace hlit := Lib.hid hlit
                replace hsub3 := Lib.hid hsub3
                replace h1d := Lib.hid h1d
                replace h1t := Lib.hid h1t
                replace S11 := Lib.hid S11
                replace gA := Lib.hid gA
                replace hinF := Lib.hid hinF
                replace hlenI := Lib.hid hlenI
                clear hone
                have hs0 : (0 : Int) ≤ (t : Int) := by omega
                have hs1 : (t : Int) ≤ (qs.length : Int) := by omega
                have hs2 : (qs.length : Int) ≤ (c4 : Int) := by omega
                have hs3 : t ≤ qs.length := by omega
                have hs4 : t ≤ c4 := by omega
                try clear htl2
                try clear hlen3
                try clear hlen4
                replace hTt := Lib.hid hTt
                go_wp2_with fail
                go_region_law (first
                  | (refine step_appendL _ rfl (.tmp 74) (.tmp 77) 63 rfl w3.heap.size 38 m0 (.agg #[.slice none 0 0]) 24 Try.underlying63 hm0 hv0 hv1 hv2 rfl (by decide) (some ⟨w3.heap.size, 0, none⟩) 1 1 _ (by simp [Act.eval]) hlit.out (some ⟨b4, t, none⟩) (qs.length - t) (c4 - t) _ b4 (b4 + 1) (by simp [Act.eval]) hsub3.out h1d.out (by omega) (by simp) ?_
                     intro A7 c7 w7 ho7 hg7 hor7
                     have g7 := gA.out.grown hg7 (by simp) (fun q hq => by simp [Value.ownBlock] at hq; omega)
                     have y7 := g7.size
                     have rd7 := (Own.of_row ho7).rd
                     replace g7 := Lib.hid g7
                     replace rd7 := Lib.hid rd7
                     clear ho7 hg7 hor7))
                all_goals
                  have hlit0 : (w7.alloc (.cells #[] 38)).ownsRow w7.heap.size 38 1 (.slice (some ⟨w7.heap.size, 0, none⟩) 0 0) 0 [] := by simpa using World.ownsRow_lit (e := 38) (base := w7.heap.size) (size := 1) w7 #[] 0 (Nat.le_refl _) (by omega) rfl
                  have gB := frm_al w7 (.cells #[] 38)
                  have htk : (qs.map (·.1)).take t = ((qs.map (·.1)).drop 0).take (t - 0) := by simp
                  have hsub4 : Rd (w7.alloc (.cells #[] 38)) b4 (b4 + 1) (some ⟨b4, 0, none⟩) t ((qs.map (·.1)).take t) := by
                    rw [htk]
                    have := rd_sub ((S11.out.row.below g7.out S11.out.b4z.2).below gB (by have := S11.out.b4z.2; omega)) (i := 0) (j := t) (A' := some ⟨b4, 0, none⟩) (by omega) (by omega) (fun _ => rfl)
                    simpa using this
                  clear htk
                  go_wp2_with (at_builtin; refine wpList_appendL (w7.alloc (.cells #[] 38)) rfl (.tmp 79) (.tmp 82) 63 rfl w7.heap.size 38 m0 (.agg #[.slice none 0 0]) 24 Try.underlying63 hm0 hv0 hv1 hv2 rfl (by omega) (some ⟨w7.heap.size, 0, none⟩) 0 0 [] rfl hlit0 (some ⟨b4, 0, none⟩) t _ _ b4 (b4 + 1) rfl hsub4 h1t.out (by omega) (by simp) ?_)
                  intro A8 c8 w9 ho9 hg9 hor9
                  try rw [Nat.zero_add] at ho9 hor9 ⊢
                  have g9 := gB.grown hg9 (by simp) (fun q hq => by simp [Value.ownBlock] at hq; omega)
                  have y9b := g9.size
                  have rd9 := rd7.out.below g9 (Nat.le_refl _)
                  have h1e : ∀ u ∈ [Value.slice Al (K + 1 - I) cl] ++ (qs.map (·.1)).drop t, u.oneCell' = true := fun u hu => by
                    rcases List.mem_append.1 hu with e | e
                    · rw [List.mem_singleton.1 e]; rfl
                    · exact h1d.out u e
                  go_wp2_with (at_builtin; refine wpList_appendL w9 rfl (.tmp 83) (.tmp 84) 63 rfl w7.heap.size 38 m0 (.agg #[.slice none 0 0]) 24 Try.underlying63 hm0 hv0 hv1 hv2 rfl (by omega) A8 t c8 _ rfl ho9 A7 _ c7 _ _ _ rfl rd9 h1e (by omega) (by omega) ?_)
                  intro A9 c9 w10 ho10 hg10 hor10
                  have g10 := g9.grown hg10 (by omega) (fun q hq => by have := (ho9.lt q hq).1; omega)
                  obtain ⟨b9, cap9, e9, l9, z9⟩ := slice_of_own ho10 (by omega)
                  injection e9 with e9 _ _
                  subst e9
                  have g11 := g7.out.trans (g10.mono y7)
                  have S12 := S11.out.relist (p := (.slice Al (K + 1 - I) cl, f)) (b5 := b9) (c5 := c9) g11 hpk.out (by
                    have e := rd_one (Own.of_row ho10).rd
                    rw [hlenI.out, hinF.out]
                    simpa using e) ⟨by omega, z9⟩ (by rw [hlenI.out]; exact (Own.of_row ho10).cap)
                  have B12 := (B8.trans (hB11.mono (by omega))).trans (g11.mono (by omega))
                  replace S12 := Lib.hid S12
                  clear ho10 hg10 hor10 ho9 hg9 hor9 rd9 h1e hlit0 hsub4 gB g9 g10 g11
                  go_wp2_with fail
                  go_roundw
                  case measure => simp [intOf]; omega
                  case rel => exact ⟨j + 1, _, c5, b9, c9, ps ++ [((.slice Al (K + 1 - I) cl, f) : VF)], insF qs (.slice Al (K + 1 - I) cl, f), by omega, by go_num, rfl, congrArg (fun m => Value.slice (some ⟨b9, 0, none⟩) m c9) hlenI.out.symm, S12, B12⟩
--@E2e
              skip
      · obtain rfl : j = C := by omega
        obtain ⟨wf, rfl⟩ : ∃ wf : World, wf = wr := ⟨_, rfl⟩
        have hC0 : 0 < j := by rw [← hCC.out]; exact Nat.lt_of_le_of_lt (Nat.zero_le _) (cntR_lt (rootB_zero _) (show 0 < N by omega))
        have hfin := hSt.out.post hCC.out hC0
        obtain ⟨b3, v3, rfl, _, hb3, _⟩ := (Own.of_row hSt.out.own).at_ (k := 0) hC0
        have hqC := hSt.out.qlen
        have hj4 : j ≤ 400 := by omega
        obtain ⟨j0, hj0, hy0, hy1, hy2⟩ := info_parts infoI
        have hBf : Below w.heap.size w wf := hB1.trans (hBr.mono (by omega))
        have yf := hBf.size
        have ol := o1.ri.below hBr (Nat.le_refl _)
        have K0 : (wf.alloc (.cells #[] 2)).ownsRow wf.heap.size 2 1 (.slice (some ⟨wf.heap.size, 0, none⟩) 0 0) 0 [] := by simpa using World.ownsRow_lit (e := 2) (base := wf.heap.size) (size := 1) wf #[] 0 (Nat.le_refl _) (by omega) rfl
        have BK := frm_al wf (.cells #[] 2)
        replace hfin := Lib.hid hfin
        replace K0 := Lib.hid K0
        replace ol := Lib.hid ol
        clear hGr S0 B0 f1 hR hC hsub hB
        go_wp2_with fail
        go_loopw [16, 15] (fun fv kv wq => ∃ (x nk ck : Nat) (Ak : Option Addr) (vs : List Value), x ≤ N ∧ fv = .int .i64 x ∧ kv = .slice Ak nk ck ∧ nk ≤ x * 400 ∧ Hid (wq.ownsRow wf.heap.size 2 1 (.slice Ak nk ck) nk vs) ∧ Below wf.heap.size wf wq) (fun fv _ _ => N - (intOf fv).toNat)
        case atStart => exact ⟨0, 0, 0, _, _, by omega, rfl, rfl, by omega, K0, BK⟩
        case round =>
          obtain ⟨x, nk, ck, Ak, vs, hx, rfl, rfl, hnk, hK, hBk⟩ := hrel
          by_cases hxN : x < N
          · obtain ⟨wv, rfl⟩ : ∃ wv : World, wv = wr := ⟨_, rfl⟩
            have yv := hBk.size
            obtain ⟨bL, oL, l0, rfl, _, hbL, hl0, hcl⟩ := ol.out.at_ hxN
            obtain ⟨l, rfl, hlj⟩ : ∃ l : Nat, l0 = (l : Int) ∧ l < j := by
              rw [labL_get hxN] at hl0
              have e := Option.some.inj hl0
              have e1 := labOf_nonneg (subL xss I (K + 1)) x
              have e2 := lab_lt hys hxN
              rw [hCC.out] at e2
              exact ⟨l0.toNat, by omega, by omega⟩
            clear hl0
            go_wp2_with fail
            go_loopw [17, 15] (fun av kv wq => ∃ (t nk ck : Nat) (Ak : Option Addr) (vs : List Value), t ≤ qs.length ∧ av = .int .i64 t ∧ kv = .slice Ak nk ck ∧ nk ≤ x * 400 + t ∧ Hid (wq.ownsRow wf.heap.size 2 1 (.slice Ak nk ck) nk vs) ∧ Below wf.heap.size wf wq) (fun av _ _ => qs.length - (intOf av).toNat)
            case atStart => exact ⟨0, nk, ck, Ak, vs, by omega, rfl, rfl, by omega, hK, hBk⟩
            case round =>
              clear hK hBk
              obtain ⟨t, nk, ck, Ak, vs, ht, rfl, rfl, hnk, hK, hBk⟩ := hrel
              have yk := hBk.size
              by_cases hl9 : t < qs.length
              · obtain ⟨q, hq⟩ : ∃ q, qs[t]? = some q := ⟨_, List.getElem?_eq_getElem hl9⟩
                obtain ⟨Aq, nq, cq, eq, pq, _, oq⟩ := hSt.out.good q (hSt.out.qmem (List.mem_of_getElem? hq))
                obtain ⟨pl, hpl⟩ : ∃ pl, ps[l]? = some pl := ⟨_, List.getElem?_eq_getElem (by rw [hSt.out.len]; exact hlj)⟩
                obtain ⟨Ap, np, cp, ep, pp, _, op⟩ := hSt.out.good pl (List.mem_of_getElem? hpl)
                have rq := oq.rs.below hBk (Nat.le_refl _)
                have rp := op.rs.below hBk (Nat.le_refl _)
                have hb4z := hSt.out.b4z.2
                have hbLz : bL < wf.heap.size := by omega
                have k9 : wr.cell? ⟨b4, t, none⟩ = some (.slice Aq nq cq) := by
                  have e1 := hSt.out.row.cell (k := t) (v := q.1) (by simp [hq])
                  rw [Nat.zero_add, eq] at e1
                  exact (hBk.cell (p := ⟨b4, t, none⟩) (by simp; omega)).trans e1
                have k10 : wr.cell? ⟨b3, l, none⟩ = some (.slice Ap np cp) := by
                  have e1 := (Own.of_row hSt.out.own).rd.cell (k := l) (v := pl.1) (by simp [hpl])
                  rw [Nat.zero_add, ep] at e1
                  exact (hBk.cell (p := ⟨b3, l, none⟩) (by simp; omega)).trans e1
                have k11 : wr.cell? ⟨bL, oL + x, none⟩ = some (.int .i64 (l : Int)) := by
                  exact (hBk.cell (p := ⟨bL, oL + x, none⟩) (by simp; omega)).trans hcl
                haveI := Since.ne wr
                have hh3 : wf.heap.size ≤ wr.heap.size := yk
                have u1 : ∀ u : Since wr, u.val.cell? ⟨b4, t, none⟩ = some (.slice Aq nq cq) := fun u => (u.ok.cell (p := ⟨b4, t, none⟩) (by simp; omega)).trans k9
                have u2 : ∀ u : Since wr, u.val.cell? ⟨b3, l, none⟩ = some (.slice Ap np cp) := fun u => (u.ok.cell (p := ⟨b3, l, none⟩) (by simp; omega)).trans k10
                have u3 : ∀ u : Since wr, u.val.cell? ⟨bL, oL + x, none⟩ = some (.int .i64 (l : Int)) := fun u => (u.ok.cell (p := ⟨bL, oL + x, none⟩) (by simp; omega)).trans k11
                replace hq := Lib.hid hq
                replace hpl := Lib.hid hpl
                clear eq ep oq op k9 k10 k11
                by_cases hqp : q.2 = pl.2
                · have hsm2 : decide (q.2 = pl.2) = true := decide_eq_true hqp
                  replace hqp := Lib.hid hqp
                  replace hsm2 := Lib.hid hsm2
                  go_wp2_with fail
                  refine wp_region_since_lit (by kernel_rfl) (by kernel_rfl) ?_
                  repeat (go_big_quiet_step ((go_at_call 109; refine since_call (hsm2.out ▸ l02Same_any Aq nq cq q.2 Ap np cp pl.2 _ (rq.below (Since.ok _) hh3) ?_ (rp.below (Since.ok _) hh3) ?_); exact Nat.le_trans hh3 (Since.ok _).size; exact Nat.le_trans hh3 (Since.ok _).size)))
                  refine wpQuiet_nil ?_
                  intro w3 hw3
                  have hb3' : Below wr.heap.size wr w3 := by obtain ⟨u, hu⟩ := hw3; rw [hu]; exact u.ok
                  clear hw3 u1 u2 u3
                  have hB3 := hBk.trans (hb3'.mono yk)
                  have y3 := hb3'.size
                  have hK3 := ((Own.of_row hK.out).below hb3' (Nat.le_refl _)).1
                  go_wp2_with (at_builtin; refine wpList_append1 w3 rfl (.tmp 111) (.tmp 113) 22 rfl wf.heap.size 2 j0 (.int .i64 0) 8 Try.underlying22 hj0 hy0 hy1 hy2 rfl (by omega) _ nk ck _ (.int .i64 (t : Int)) rfl hK3 _ rfl rfl rfl (by omega) (by omega) ?_)
                  intro g c9 w4 ho4 hg4 hlo4 hlt4 hor4
                  have hB4 := hB3.grown hg4 (by omega) (fun q hq => by have := (hK3.lt q hq).1; omega)
                  have ho4 := Lib.hid ho4
                  clear hg4 hor4
                  go_wp2_with fail
                  go_roundw
                  case measure => simp [intOf]; omega
                  case rel => exact ⟨t + 1, nk + 1, c9, _, _, by omega, by go_num, rfl, by omega, ho4, hB4⟩
                · have hsm2 : decide (q.2 = pl.2) = false := decide_eq_false hqp
                  replace hqp := Lib.hid hqp
                  replace hsm2 := Lib.hid hsm2
                  go_wp2_with fail
                  refine wp_region_since_lit (by kernel_rfl) (by kernel_rfl) ?_
                  repeat (go_big_quiet_step ((go_at_call 109; refine since_call (hsm2.out ▸ l02Same_any Aq nq cq q.2 Ap np cp pl.2 _ (rq.below (Since.ok _) hh3) ?_ (rp.below (Since.ok _) hh3) ?_); exact Nat.le_trans hh3 (Since.ok _).size; exact Nat.le_trans hh3 (Since.ok _).size)))
                  refine wpQuiet_nil ?_
                  intro w3 hw3
                  have hb3' : Below wr.heap.size wr w3 := by obtain ⟨u, hu⟩ := hw3; rw [hu]; exact u.ok
                  clear hw3 u1 u2 u3
                  have hB3 := hBk.trans (hb3'.mono yk)
                  have y3 := hb3'.size
                  have hK3 := ((Own.of_row hK.out).below hb3' (Nat.le_refl _)).1
                  replace hK3 := Lib.hid hK3
                  go_wp2_with fail
                  go_roundw
                  case measure => simp [intOf]; omega
                  case rel => exact ⟨t + 1, nk, ck, Ak, vs, by omega, by go_num, rfl, by omega, hK3, hB3⟩
              · obtain rfl : t = qs.length := by omega
                go_wp2_with fail
                go_roundw
                case measure => simp [intOf]; omega
                case rel => exact ⟨x + 1, nk, ck, Ak, vs, by omega, by go_num, rfl, by omega, hK, hBk⟩
          · go_wp2_with fail
            go_ret2
            exact ⟨_, _, _, _, _, _, rfl, hfin.out, hBf.trans (hBk.mono yf)⟩
end Go.Proofs.Ytbioelmofceaaaa
/- EqfX -/
namespace Go.Proofs.Ytbioelmofceaaaa
open Go.RowKit
set_option linter.unusedVariables false
set_option maxRecDepth 100000
set_option maxHeartbeats 4000000 in
theorem l04Equal_any (w : World) (A : Option Addr) (n c : Nat) (xss : List (List Int)) {lo hi : Nat} (h : RS w lo hi A n xss) (hhi : hi ≤ w.heap.size) (hnc : n ≤ c) :
    Calls Try.prog 51 #[.agg #[.slice A n c], .int .i64 0, .int .i64 2] w fun e w' => ∃ (y : Bool) (code : Int), e = .returned (.tuple #[.bool y, .int .i64 code]) ∧ Hid ((y, code) = eqfF xss) ∧ Below w.heap.size w w' := by
  have hm := h.max
  have hl := h.len
  have hR := rs_alloc h hhi (.cells #[.slice A n c] 38)
  have hC : (w.alloc (.cells #[.slice A n c] 38)).cell? ⟨w.heap.size, 0, none⟩ = some (.slice A n c) := al_new _ _ _ _ rfl
  have hB : Below w.heap.size w (w.alloc (.cells #[.slice A n c] 38)) := (Below.refl _ _).alloc (Nat.le_refl _) _
  obtain ⟨t, hM⟩ : ∃ t, isManB xss = t := ⟨_, rfl⟩
  have hIs := l02Is_any A n c xss (w.alloc (.cells #[.slice A n c] 38)) hR (by simp; omega)
  rw [hM] at hIs
  cases t with
  | false =>
    have hF : eqfF xss = (false, 1) := by unfold eqfF; rw [hM]; rfl
    replace hF := Lib.hid hF
    replace hM := Lib.hid hM
    go_enter Try.func51, Try.ntmps51
    go_wp2_with fail
    ((with_reducible refine hIs.mono ?_); rintro e w2 ⟨rfl, f2⟩)
    have B2 := hB.trans (f2.mono (by simp))
    go_wp2_with fail
    go_ret2
    exact ⟨_, _, rfl, Lib.hid hF.out.symm, B2⟩
  | true =>
    have hP := isManB_iff.1 hM
    have hr1 := hP.r1
    have hr5 := hP.r5
    by_cases h1 : n = 1
    · have hF : eqfF xss = (false, 5) := by unfold eqfF; rw [if_pos hM, if_pos (by omega)]
      have d1 : ((n : Int) == 1) = true := by simp; omega
      replace hF := Lib.hid hF
      replace hM := Lib.hid hM
      replace h1 := Lib.hid h1
      replace hl := Lib.hid hl
      go_enter Try.func51, Try.ntmps51
      go_wp2_with fail
      ((with_reducible refine hIs.mono ?_); rintro e w2 ⟨rfl, f2⟩)
      have B2 := hB.trans (f2.mono (by simp))
      have C2 := (f2.cell (p := ⟨w.heap.size, 0, none⟩) (by simp)).trans hC
      go_wp2_with fail
      go_ret2
      exact ⟨_, _, rfl, Lib.hid hF.out.symm, B2⟩
    · have d1 : ((n : Int) == 1) = false := by simp; omega
      have hn2 : 2 ≤ n := by omega
      have hv : ∀ t : Bool, (t = true ↔ AllSame (ownC (subL xss 0 (n - 2 + 1)) (flg xss))) → eqfF xss = (t, 0) := fun t ht => eqf_val hM (by omega) (by rw [hl, show n - 1 = n - 2 + 1 by omega]; exact ht)
      replace hv := Lib.hid hv
      replace hM := Lib.hid hM
      clear h1
      replace hl := Lib.hid hl
      go_enter Try.func51, Try.ntmps51
      go_wp2_with fail
      ((with_reducible refine hIs.mono ?_); rintro e w2 ⟨rfl, f2⟩)
      have B2 := hB.trans (f2.mono (by simp))
      have C2 := (f2.cell (p := ⟨w.heap.size, 0, none⟩) (by simp)).trans hC
      have R2 := hR.below f2 (by simp; omega)
      have y2 := B2.size
      have hSF := l04Forms_any A n c xss (flg xss) 0 (n - 2) 0 ((n : Int) - 2) rfl (by omega) w2 R2 (by have := f2.size; simp at this; omega) hnc (by omega) (by omega) hP rfl
      clear hIs R2 hR hC f2 hP
      go_wp2_with fail
      ((with_reducible refine hSF.mono ?_); rintro e w3 ⟨A1, c1, A2, n2, c2, m, rfl, hs, f3⟩)
      have B3 := B2.trans (f3.mono y2)
      replace hs := Lib.hid hs
      go_wp2_with fail
      go_ret2
      refine ⟨_, _, rfl, Lib.hid (hv.out _ ?_).symm, B3⟩
      rw [← hs.out]
      simp; omega
theorem s_HasEqualFacets_any (w : World) (A : Option Addr) (n c : Nat) (xss : List (List Int)) {lo hi : Nat} (h : RS w lo hi A n xss) (hhi : hi ≤ w.heap.size) (hnc : n ≤ c) :
    Calls Try.prog 22 #[.agg #[.slice A n c]] w fun e w' => ∃ (y : Bool) (code : Int), e = .returned (.tuple #[.bool y, .int .i64 code]) ∧ Hid ((y, code) = eqfF xss) ∧ Below w.heap.size w w' := by
  have hR := rs_alloc h hhi (.cells #[.slice A n c] 38)
  have hC : (w.alloc (.cells #[.slice A n c] 38)).cell? ⟨w.heap.size, 0, none⟩ = some (.slice A n c) := al_new _ _ _ _ rfl
  have hB : Below w.heap.size w (w.alloc (.cells #[.slice A n c] 38)) := (Below.refl _ _).alloc (Nat.le_refl _) _
  have hE := l04Equal_any (w.alloc (.cells #[.slice A n c] 38)) A n c xss hR (by simp; omega) hnc
  go_enter Try.func22, Try.ntmps22
  go_wp2_with fail
  ((with_reducible refine hE.mono ?_); rintro e w2 ⟨y, code, rfl, hH, f2⟩)
  have B2 := hB.trans (f2.mono (by simp))
  go_wp2_with fail
  go_ret2
  exact ⟨_, _, rfl, hH, B2⟩
end Go.Proofs.Ytbioelmofceaaaa
/- LHasEqualFacets -/
namespace Go.Proofs.Ytbioelmofceaaaa.fnExactHasEqualFacets
open Go.ChangeShapes Go.WideShapes Go.ChangeAt Go.RowKit
open Go.ChangeMaps (open_string shut_string)
set_option linter.unusedVariables false
theorem own : ownKnob Try.prog.godebug = none := by kernel_rfl
theorem laidOut : laidOutB Try.prog = true := by kernel_rfl
set_option maxRecDepth 100000 in
set_option maxHeartbeats 8000000 in
theorem walk (a0 : Option Addr) (n0 c0 : Nat) (xss0 : List (List Int)) (w : World) (h0 : RS w 0 w.heap.size a0 n0 xss0) (b0 : ∀ xs ∈ xss0, ∀ x ∈ xs, I64 x) :
    Calls Try.prog 6 #[.agg #[.slice a0 n0 c0]] w fun e w' => e = .returned (.bool true) ∧ Below w.heap.size w w' := by
  have m0 := h0.max
  have hR := rs_alloc h0 (Nat.le_refl _) (.cells #[.slice a0 n0 c0] 34)
  have hC0 : (w.alloc (.cells #[.slice a0 n0 c0] 34)).cell? ⟨w.heap.size, 0, none⟩ = some (.slice a0 n0 c0) := by simp
  have hB : Below w.heap.size w (w.alloc (.cells #[.slice a0 n0 c0] 34)) := (Below.refl _ _).alloc (Nat.le_refl _) _
  by_cases s0 : n0 + numsIn xss0 ≤ 1048576
  · skip
    have z0 := leftOf_pos s0
    replace z0 := Lib.hid z0
    go_enter Try.func6, Try.ntmps6
    go_wp2_with fail
    obtain ⟨W1, hW⟩ : ∃ W1 : World, (w.alloc (.cells #[.slice a0 n0 c0] 34)) = W1 := ⟨_, rfl⟩
    have hz1 : W1.heap.size = w.heap.size + 1 := by rw [← hW]; simp
    rw [hW] at hR hC0 hB ⊢
    clear hW
    have B0 : Below W1.heap.size W1 W1 := Below.refl _ _
    ((with_reducible refine (szM0_any a0 n0 c0 xss0 _ hR (by omega)).mono ?_); rintro e w1 ⟨rfl, f1⟩)
    rw [z0.out]
    have y1 := f1.size
    have B1 : Below W1.heap.size W1 w1 := below_then B0 f1 (by omega)
    clear B0
    have C0 := (B1.cell (p := ⟨w.heap.size, 0, none⟩) (by simp; omega)).trans hC0
    go_wp2_with fail
    ((with_reducible refine (toM_any a0 n0 c0 xss0 _ (hR.below B1 (by omega)) (by omega) (by omega)).mono ?_); rintro e w2 ⟨T2, rfl, t2, f2⟩)
    have y2 := f2.size
    have B2 : Below W1.heap.size W1 w2 := below_then B1 f2 (by omega)
    clear B1
    clear C0
    go_wp2_with fail
    ((with_reducible refine (s_HasEqualFacets_any _ T2 n0 n0 xss0 t2.rs (by omega) (Nat.le_refl _)).mono ?_); rintro e w3 ⟨p0, p1, rfl, Hp, f3⟩)
    have y3 := f3.size
    have B3 : Below W1.heap.size W1 w3 := below_then B2 f3 (by omega)
    have t2 := t2.below f3 (by omega)
    clear B2
    clear t2
    have C0 := (B3.cell (p := ⟨w.heap.size, 0, none⟩) (by simp; omega)).trans hC0
    go_wp2_with fail
    ((with_reducible refine (toM_any a0 n0 c0 xss0 _ (hR.below B3 (by omega)) (by omega) (by omega)).mono ?_); rintro e w4 ⟨T4, rfl, t4, f4⟩)
    have y4 := f4.size
    have B4 : Below W1.heap.size W1 w4 := below_then B3 f4 (by omega)
    clear B3
    clear C0
    have f5 : Below w4.heap.size w4 (w4.alloc (.cells #[.slice T4 n0 n0] 38)) := (Below.refl _ _).alloc (Nat.le_refl _) _
    have Z5 : (w4.alloc (.cells #[.slice T4 n0 n0] 38)).heap.size = w4.heap.size + 1 := by simp
    have D5_0 : (w4.alloc (.cells #[.slice T4 n0 n0] 38)).cell? ⟨w4.heap.size, 0, none⟩ = some (.slice T4 n0 n0) := by simp
    have t4 := t4.below f5 (by omega)
    have X0 := (f5.cell (p := ⟨w.heap.size, 0, none⟩) (by simp; omega)).trans ((B4.cell (p := ⟨w.heap.size, 0, none⟩) (by simp; omega)).trans hC0)
    go_wp2_with fail
    obtain ⟨w5, hq5⟩ : ∃ w5 : World, (w4.alloc (.cells #[.slice T4 n0 n0] 38)) = w5 := ⟨_, rfl⟩
    rw [hq5] at f5 Z5 D5_0 t4 X0 ⊢
    clear hq5
    have y5 := f5.size
    have B5 : Below W1.heap.size W1 w5 := below_then B4 f5 (by omega)
    clear B4 X0
    go_wp2_with fail
    ((with_reducible refine (i_HasEqualFacets_any _ T4 n0 n0 xss0 t4.rs (by omega) (Nat.le_refl _)).mono ?_); rintro e w6 ⟨q0, q1, rfl, Hq, f6⟩)
    have y6 := f6.size
    have B6 : Below W1.heap.size W1 w6 := below_then B5 f6 (by omega)
    have t4 := t4.below f6 (by omega)
    have D5_0 := (f6.cell (p := ⟨w4.heap.size, 0, none⟩) (by simp; omega)).trans D5_0
    clear B5
    obtain ⟨rfl, rfl⟩ : p0 = q0 ∧ p1 = q1 := by have e := Hp.out.trans Hq.out.symm; simpa [and_assoc] using e
    clear Hq
    have C0 := (B6.cell (p := ⟨w.heap.size, 0, none⟩) (by simp; omega)).trans hC0
    have Bd := below_drew B6
    have hT := toM_any a0 n0 c0 xss0 w6.drew (rs_drew (hR.below B6 (by omega))) (show _ ≤ w6.heap.size by omega) (by omega)
    have rd := rs_drew t4.rs
    go_wp2_with fail
    go_region_with (first
      | (go_at_call 14; refine hT.mono ?_; rintro e w7 ⟨T7, rfl, t7, f7⟩; have GD5_0 := (f7.cell (p := ⟨w4.heap.size, 0, none⟩) (by simp; omega)).trans D5_0; have y7 : w6.heap.size ≤ w7.heap.size := f7.size; have qe := eqM_any T4 n0 n0 xss0 T7 n0 n0 xss0 w7 (rd.below f7 (show _ ≤ w6.heap.size by omega)) t7.rs (by omega) (Nat.le_refl _))
      | (go_at_call 16; refine qe.mono ?_; rintro e w8 ⟨rfl, f8⟩))
    all_goals
      clear qe hT rd GD5_0
      have f7 : Below w6.heap.size w6 w7 := ⟨f7.os, f7.tape, f7.output, f7.size, f7.block⟩
      clear y7 Bd
      have y7 := f7.size
      have B7 : Below W1.heap.size W1 w7 := below_then B6 f7 (by omega)
      have t4 := t4.below f7 (by omega)
      have D5_0 := (f7.cell (p := ⟨w4.heap.size, 0, none⟩) (by simp; omega)).trans D5_0
      clear B6
      have y8 := f8.size
      have B8 : Below W1.heap.size W1 w8 := below_then B7 f8 (by omega)
      have t4 := t4.below f8 (by omega)
      have D5_0 := (f8.cell (p := ⟨w4.heap.size, 0, none⟩) (by simp; omega)).trans D5_0
      clear B7
      clear C0
      go_wp2_with fail
      go_ret
      exact ⟨rfl, hB.trans (B8.mono (by omega))⟩
  · have z0 := leftOf_neg s0
    replace z0 := Lib.hid z0
    go_enter Try.func6, Try.ntmps6
    go_wp2_with fail
    ((with_reducible refine (szM0_any a0 n0 c0 xss0 _ hR (by simp)).mono ?_); rintro e w2 ⟨rfl, f2⟩)
    rw [z0.out]
    go_wp2_with fail
    go_ret
    exact ⟨rfl, hB.trans (f2.mono (by simp))⟩
set_option maxRecDepth 100000 in
theorem lifted (os : Os) (started : os.Started) (H : Type) (enc : TypeId × Value → H) :
    ReturnsInHanded {} Try.checked os 6 .any (Rows.fnExactHasEqualFacetsSpec.pre6 enc Try.prog Try.f6 Rows.fnExactHasEqualFacetsRow.domain false) (Rows.fnExactHasEqualFacetsSpec.post enc Try.prog Try.f6 false true false false) := by
  refine returnsInHanded_of_change (C := Try.checked) own started (by kernel_rfl) Try.func6
    (ChangeSpec.witness6 (enc := enc) (C := Try.checked) false ⟨#[], #[.agg #[.slice none 0 0]], []⟩ 8 (by kernel_rfl) (by kernel_rfl) (by kernel_rfl) (by kernel_rfl)) ?_
  intro W base args ds gs before hval0 hW hcnd _
  have hval : ∀ (j : Nat) t v, Try.f6.params[j]? = some t → args[j]? = some v → Value.okWide Try.prog W .any base t v := hval0
  have hW' := hW
  obtain ⟨p, q, hA0, hV, rfl, hfz, hnd⟩ := hW
  have hA : DataW.TrodAll enc Try.prog W 0 (fun _ => true) true Try.f6.params.toList args.toList ds p := hA0
  rw [Try.params6] at hA hval
  obtain ⟨v0, vs0, dd0, ds0, p0, q0, hargs, rfl, rfl, h0, rr0⟩ := trodAll_cons hA
  obtain ⟨rfl, rfl, rfl⟩ := trodAll_nil rr0
  obtain rfl : args = #[v0] := by cases args; simp_all
  obtain ⟨rfl, rfl⟩ := trodVars_none hV
  have kk0 := h0
  have lt0 : ∀ x ∈ p0, x.block < W.heap.size := by obtain ⟨m, hm⟩ := kk0; exact DataW.trod_lt m _ _ _ hm
  obtain ⟨a0, n0, c0, xss0, rfl, w0, b0⟩ := open_RM Try.underlying34 (by kernel_rfl) (by kernel_rfl) rfl Try.underlying23 Try.underlying22 Try.underlying2 (by kernel_rfl) (by kernel_rfl) (hval 0 34 v0 rfl rfl) h0
  clear hA0 hval0
  refine (walk a0 n0 c0 xss0 W w0 b0).mono fun e W' ⟨he, bel⟩ => ?_
  subst he
  exact ⟨_, rfl, _, _, _, [], _, [], hW', trodAll_mk1 (shut_bool Try.underlying4 _), (trodAll_cons_mk (Below.trod laidOut (by kernel_rfl) (of_decide_eq_true (by kernel_rfl)) kk0 bel lt0) trodAll_mk0), rfl, bel.frame _, fun h => by cases h⟩
theorem over : Rows.fnExactHasEqualFacetsRow.holds Try.pinned (OpenSpec.ofChange Rows.fnExactHasEqualFacetsSpec) :=
  OpenClaim.holds_of_wide 6 Try.f6 rfl rfl rfl rfl rfl rfl rfl ⟨rfl, rfl, rfl, rfl, rfl⟩ rfl rfl rfl rfl rfl (by kernel_rfl) Try.func6 (by kernel_rfl)
    (of_decide_eq_true (by kernel_rfl)) (by unfold Func.isWrapper; first | (rw [if_pos (by decide +kernel)]; kernel_rfl) | (rw [if_neg (by decide +kernel)]; exact ⟨rfl, rfl⟩))
    (fun os started H enc _ => lifted os started H enc)
/-- THE STATEMENT -/
theorem proved : Rows.FnExactHasEqualFacetsSaid := over
end Go.Proofs.Ytbioelmofceaaaa.fnExactHasEqualFacets
