/- A bag of rows of the call's own, of whatever element types, no two of which share a block. No condition. -/
import Derived.Test.YtcjnhiglfkcmiaaDoorRow
import Derived.Test.YtcjnhiglfkcmiaaDoorOrbL
namespace Go.Proofs.YtcjnhiglfkcmiaaDoor
open Go.RowKit
set_option linter.unusedVariables false
set_option maxRecDepth 100000
/-- one row: its element type, the slice, its length, what it holds -/
structure Ent where
  T : TypeId
  v : Value
  n : Nat
  xs : List Value
/-- the rows lie in blocks from lo on, below hi, each in a block of its own -/
structure Bag (w : World) (lo hi : Nat) (L : List Ent) : Prop where
  own : ∀ e ∈ L, w.ownsRow lo e.T 1 e.v e.n e.xs
  lt : ∀ e ∈ L, ∀ z, e.v.ownBlock = some z → z < hi
  ap : L.Pairwise (fun a b => Apart a.v b.v)
section
variable {w w' : World} {lo hi hi' : Nat} {L L' P Q : List Ent} {e e' : Ent}
theorem row_same {T : TypeId} {v : Value} {n : Nat} {xs : List Value} (h : w.ownsRow lo T 1 v n xs) (hl : ∀ z, v.ownBlock = some z → z < hi) (hs : Same lo hi w w') : w'.ownsRow lo T 1 v n xs := by
  refine ⟨h.1, ?_⟩
  rcases h.2 with hn | ⟨g, cap, cur, hv, hb, hg, rest⟩
  · exact .inl hn
  · refine .inr ⟨g, cap, cur, hv, hb, ?_, rest⟩
    rw [hs g hb (hl g (by rw [hv]; rfl))]
    exact hg
theorem row_lower {T : TypeId} {v : Value} {n : Nat} {xs : List Value} {lo' : Nat} (h : w.ownsRow lo T 1 v n xs) (hl : lo' ≤ lo) : w.ownsRow lo' T 1 v n xs := by
  refine ⟨h.1, ?_⟩
  rcases h.2 with hn | ⟨g, cap, cur, hv, hb, hg, rest⟩
  · exact .inl hn
  · exact .inr ⟨g, cap, cur, hv, by omega, hg, rest⟩
theorem Bag.nil : Bag w lo hi [] := ⟨fun e h => absurd h (by simp), fun e h => absurd h (by simp), List.Pairwise.nil⟩
theorem Bag.keep (h : Bag w lo hi L) (hs : Same lo hi w w') : Bag w' lo hi L := ⟨fun e he => row_same (h.own e he) (h.lt e he) hs, h.lt, h.ap⟩
theorem Bag.below {B : Nat} (h : Bag w lo hi L) (hb : Below B w w') (hB : hi ≤ B) : Bag w' lo hi L := h.keep (Same.of_below hb hB)
theorem Bag.more (h : Bag w lo hi L) (h2 : hi ≤ hi') : Bag w lo hi' L := ⟨h.own, fun e he z hz => by have := h.lt e he z hz; omega, h.ap⟩
theorem Bag.perm (h : Bag w lo hi L) (hp : L.Perm L') : Bag w lo hi L' :=
  ⟨fun e he => h.own e (hp.mem_iff.2 he), fun e he => h.lt e (hp.mem_iff.2 he), (hp.pairwise_iff (fun {a b} hab z h1 h2 => hab z h2 h1)).1 h.ap⟩
theorem Bag.sub (h : Bag w lo hi L) (hs : L'.Sublist L) : Bag w lo hi L' := ⟨fun e he => h.own e (hs.mem he), fun e he => h.lt e (hs.mem he), h.ap.sublist hs⟩
theorem Bag.tail (h : Bag w lo hi (e :: L)) : Bag w lo hi L := h.sub (List.sublist_cons_self e L)
theorem Bag.get {j : Nat} (h : Bag w lo hi L) (hj : L[j]? = some e) : w.ownsRow lo e.T 1 e.v e.n e.xs := h.own e (mem_of_get? hj)
theorem Bag.getO {j : Nat} {T : TypeId} {A : Option Addr} {n c : Nat} {xs : List Value} (h : Bag w lo hi L) (hj : L[j]? = some ⟨T, .slice A n c, n, xs⟩) : Own w lo hi T A n c xs :=
  ⟨h.get hj, fun a ha => h.lt _ (mem_of_get? hj) a.block (by simp [Value.ownBlock, ha])⟩
theorem Bag.apart {i j : Nat} {a b : Ent} (h : Bag w lo hi L) (hi' : L[i]? = some a) (hj : L[j]? = some b) (hne : i ≠ j) : Apart a.v b.v := by
  obtain ⟨h1, rfl⟩ := List.getElem?_eq_some_iff.1 hi'
  obtain ⟨h2, rfl⟩ := List.getElem?_eq_some_iff.1 hj
  have hp := List.pairwise_iff_getElem.1 h.ap
  rcases Nat.lt_or_gt_of_ne hne with g | g
  · exact hp i j h1 h2 g
  · intro z z1 z2
    exact hp j i h2 h1 g z z2 z1
/-- a new row -/
theorem Bag.ins (h : Bag w lo hi (P ++ Q)) (hlo : lo ≤ hi) (hh : hi ≤ hi') (ho : w.ownsRow hi e.T 1 e.v e.n e.xs) (hl : ∀ z, e.v.ownBlock = some z → z < hi') : Bag w lo hi' (P ++ e :: Q) := by
  have h0 : Bag w lo hi' (e :: (P ++ Q)) := by
    refine ⟨fun x hx => ?_, fun x hx z hz => ?_, ?_⟩
    · rcases List.mem_cons.1 hx with rfl | hx
      · exact row_lower ho hlo
      · exact h.own x hx
    · rcases List.mem_cons.1 hx with rfl | hx
      · exact hl z hz
      · have := h.lt x hx z hz; omega
    · rw [List.pairwise_cons]
      refine ⟨fun x hx z h1 h2 => ?_, h.ap⟩
      have := (ho.lt z h1).1
      have := h.lt x hx z h2
      omega
  exact h0.perm List.perm_middle.symm
/-- one row has grown, or was written -/
theorem Bag.set {j : Nat} (h : Bag w lo hi L) (hj : L[j]? = some e) (hhi : hi ≤ w.heap.size) (ho : w'.ownsRow lo e'.T 1 e'.v e'.n e'.xs) (hg : w.grownBy w' e.v.ownBlock) (hor : ∀ z, e'.v.ownBlock = some z → e.v.ownBlock = some z ∨ hi ≤ z) : Bag w' lo w'.heap.size (L.set j e') := by
  have hjl : j < L.length := (List.getElem?_eq_some_iff.1 hj).1
  have hsz := hg.size
  have hother : ∀ (k : Nat) (x : Ent), (L.set j e')[k]? = some x → (k = j ∧ x = e') ∨ (k ≠ j ∧ L[k]? = some x) := by
    intro k x hk
    rw [List.getElem?_set] at hk
    by_cases q : j = k
    · rw [if_pos q, if_pos hjl] at hk
      exact .inl ⟨q.symm, (Option.some.inj hk).symm⟩
    · rw [if_neg q] at hk
      exact .inr ⟨fun g => q g.symm, hk⟩
  have hcr : ∀ (k : Nat) (x : Ent), k ≠ j → L[k]? = some x → ∀ z, e'.v.ownBlock = some z → x.v.ownBlock ≠ some z := by
    intro k x hk hx z hz hxz
    rcases hor z hz with g | g
    · exact h.apart hx hj hk z hxz g
    · have := h.lt x (mem_of_get? hx) z hxz; omega
  refine ⟨fun x hx => ?_, fun x hx z hz => ?_, ?_⟩
  · obtain ⟨k, hk⟩ := List.mem_iff_getElem?.1 hx
    rcases hother k x hk with ⟨_, rfl⟩ | ⟨hne, hk2⟩
    · exact ho
    · refine (h.get hk2).kept hg ?_
      cases hq : x.v.ownBlock with
      | none => exact .inl rfl
      | some z => exact .inr fun g => h.apart hk2 hj hne z hq g.symm
  · obtain ⟨k, hk⟩ := List.mem_iff_getElem?.1 hx
    rcases hother k x hk with ⟨_, rfl⟩ | ⟨hne, hk2⟩
    · exact (ho.lt z hz).2
    · have := h.lt x (mem_of_get? hk2) z hz; omega
  · rw [List.pairwise_iff_getElem]
    intro a b ha hb hab
    have h1 := hother a _ (List.getElem?_eq_getElem ha)
    have h2 := hother b _ (List.getElem?_eq_getElem hb)
    rcases h1 with ⟨e1, e2⟩ | ⟨n1, k1⟩
    · rcases h2 with ⟨e3, _⟩ | ⟨n2, k2⟩
      · omega
      · rw [e2]; exact fun z hz => hcr b _ n2 k2 z hz
    · rcases h2 with ⟨_, e4⟩ | ⟨n2, k2⟩
      · rw [e4]; exact fun z hz hz2 => hcr a _ n1 k1 z hz2 hz
      · exact h.apart k1 k2 (by omega)
/-- a store into the row j -/
theorem Bag.store {j k n c g : Nat} {T : TypeId} {xs : List Value} (h : Bag w lo hi L) (hj : L[j]? = some ⟨T, .slice (some ⟨g, 0, none⟩) n c, n, xs⟩) (hhi : hi ≤ w.heap.size) (u : Value) :
    Bag (w.setCell ⟨g, k, none⟩ u) lo hi (L.set j ⟨T, .slice (some ⟨g, 0, none⟩) n c, n, xs.set k u⟩) := by
  have hs := (h.get hj).stored k u
  have h2 := h.set (e' := ⟨T, .slice (some ⟨g, 0, none⟩) n c, n, xs.set k u⟩) hj hhi hs.1 hs.2 (fun z hz => .inl hz)
  refine ⟨h2.own, fun x hx z hz => ?_, h2.ap⟩
  rcases List.mem_or_eq_of_mem_set hx with hx | rfl
  · exact h.lt x hx z hz
  · exact h.lt _ (mem_of_get? hj) z hz
/-- the rows vs with the numbers xss -/
def rowsE (T : TypeId) (vs : List Value) (xss : List (List Int)) : List Ent := List.zipWith (fun v xs => ⟨T, v, xs.length, xs.map (Value.int .i64)⟩) vs xss
variable {T : TypeId} {vs : List Value} {xss : List (List Int)}
theorem rowsE_get {k : Nat} {v : Value} {ys : List Int} (h1 : vs[k]? = some v) (h2 : xss[k]? = some ys) : (rowsE T vs xss)[k]? = some ⟨T, v, ys.length, ys.map (Value.int .i64)⟩ := by
  unfold rowsE
  rw [List.getElem?_zipWith, h1, h2]
theorem rowsE_set {k : Nat} {v' : Value} {ys' : List Int} : rowsE T (vs.set k v') (xss.set k ys') = (rowsE T vs xss).set k ⟨T, v', ys'.length, ys'.map (Value.int .i64)⟩ := by
  unfold rowsE
  apply List.ext_getElem?
  intro i
  rw [List.getElem?_zipWith, List.getElem?_set, List.getElem?_set, List.getElem?_set, List.getElem?_zipWith]
  by_cases e : k = i
  · subst e
    rw [if_pos rfl, if_pos rfl, if_pos rfl]
    by_cases h1 : k < vs.length
    · by_cases h2 : k < xss.length
      · rw [if_pos h1, if_pos h2, if_pos (by simp; omega)]
      · rw [if_pos h1, if_neg h2, if_neg (by simp; omega)]
    · rw [if_neg h1, if_neg (show ¬ k < (List.zipWith (fun (v : Value) (xs : List Int) => (⟨T, v, xs.length, xs.map (Value.int .i64)⟩ : Ent)) vs xss).length by simp; omega)]
  · rw [if_neg e, if_neg e, if_neg e]
theorem rowsE_snoc {v : Value} {ys : List Int} (h : vs.length = xss.length) : rowsE T (vs ++ [v]) (xss ++ [ys]) = rowsE T vs xss ++ [⟨T, v, ys.length, ys.map (Value.int .i64)⟩] := by
  unfold rowsE
  rw [List.zipWith_append h]
  rfl
theorem rowsE_length (h : vs.length = xss.length) : (rowsE T vs xss).length = vs.length := by unfold rowsE; simp [h]
/-- the row k -/
theorem Bag.row {k : Nat} {v : Value} {ys : List Int} (h : Bag w lo hi L) (hm : ∀ e ∈ rowsE T vs xss, e ∈ L) (h1 : vs[k]? = some v) (h2 : xss[k]? = some ys) : ∃ A n c, v = .slice A n c ∧ Own w lo hi T A n c (ys.map (Value.int .i64)) := by
  have hk := rowsE_get (T := T) h1 h2
  have hin := hm _ (mem_of_get? hk)
  have ho := h.own _ hin
  obtain ⟨A, c, hv⟩ := slice_of_own' ho
  have hv' : v = .slice A ys.length c := hv
  subst hv'
  exact ⟨A, ys.length, c, rfl, ho, fun a ha => h.lt _ hin a.block (by simp [Value.ownBlock, ha])⟩
theorem Bag.rs {T2 : TypeId} {A : Option Addr} {n c : Nat} (h : Bag w lo hi L) (hm : ∀ e ∈ rowsE T vs xss, e ∈ L) (ho : (⟨T2, .slice A n c, n, vs⟩ : Ent) ∈ L) (hl : vs.length = xss.length) : RS w lo hi A n xss := by
  have o1 : Own w lo hi T2 A n c vs := ⟨h.own _ ho, fun a ha => h.lt _ ho a.block (by simp [Value.ownBlock, ha])⟩
  refine ⟨vs, o1.rd, hl, fun k v xs h1 h2 => ?_⟩
  obtain ⟨A1, n1, c1, e, o⟩ := h.row hm h1 h2
  exact ⟨A1, n1, c1, e, o.ri⟩
/-- one of the last rows has grown -/
theorem Bag.grow {j : Nat} {v v' : Value} {ys ys' : List Int} (h : Bag w lo hi (P ++ rowsE T vs xss)) (h1 : vs[j]? = some v) (h2 : xss[j]? = some ys) (hhi : hi ≤ w.heap.size) (ho : w'.ownsRow lo T 1 v' ys'.length (ys'.map (Value.int .i64))) (hg : w.grownBy w' v.ownBlock) (hor : ∀ z, v'.ownBlock = some z → v.ownBlock = some z ∨ hi ≤ z) :
    Bag w' lo w'.heap.size (P ++ rowsE T (vs.set j v') (xss.set j ys')) := by
  have hk := rowsE_get (T := T) h1 h2
  have hk2 : (P ++ rowsE T vs xss)[P.length + j]? = some ⟨T, v, ys.length, ys.map (Value.int .i64)⟩ := by
    rw [List.getElem?_append_right (by omega), Nat.add_sub_cancel_left]
    exact hk
  have := h.set (e' := ⟨T, v', ys'.length, ys'.map (Value.int .i64)⟩) hk2 hhi ho hg hor
  rw [rowsE_set]
  rwa [List.set_append_right _ _ (by omega), Nat.add_sub_cancel_left] at this
theorem RowsOwn.bag (h : RowsOwn w lo hi T vs xss) : Bag w lo hi (rowsE T vs xss) := by
  have hget : ∀ (k : Nat) (x : Ent), (rowsE T vs xss)[k]? = some x → ∃ v ys, vs[k]? = some v ∧ xss[k]? = some ys ∧ x = ⟨T, v, ys.length, ys.map (Value.int .i64)⟩ := by
    intro k x hk
    unfold rowsE at hk
    rw [List.getElem?_zipWith] at hk
    cases h1 : vs[k]? with
    | none => rw [h1] at hk; simp at hk
    | some v =>
      cases h2 : xss[k]? with
      | none => rw [h1, h2] at hk; simp at hk
      | some ys => rw [h1, h2] at hk; exact ⟨v, ys, rfl, rfl, (Option.some.inj hk).symm⟩
  refine ⟨fun e he => ?_, fun e he z hz => ?_, ?_⟩
  · obtain ⟨k, hk⟩ := List.mem_iff_getElem?.1 he
    obtain ⟨v, ys, h1, h2, rfl⟩ := hget k e hk
    obtain ⟨A, n, c, rfl, o⟩ := h.2.2 k v ys h1 h2
    have hn : ys.length = n := by have := o.len; simpa using this
    subst hn
    exact o.1
  · obtain ⟨k, hk⟩ := List.mem_iff_getElem?.1 he
    obtain ⟨v, ys, h1, h2, rfl⟩ := hget k e hk
    exact h.block_lt (mem_of_get? h1) hz
  · rw [List.pairwise_iff_getElem]
    intro a b ha hb hab
    obtain ⟨v, ys, h1, h2, e1⟩ := hget a _ (List.getElem?_eq_getElem ha)
    obtain ⟨v', ys', h1', h2', e2⟩ := hget b _ (List.getElem?_eq_getElem hb)
    rw [e1, e2]
    obtain ⟨p1, rfl⟩ := List.getElem?_eq_some_iff.1 h1
    obtain ⟨p2, rfl⟩ := List.getElem?_eq_some_iff.1 h1'
    exact List.pairwise_iff_getElem.1 h.2.1 a b p1 p2 hab
theorem Bag.rowsOwn (h : Bag w lo hi (rowsE T vs xss)) (hl : vs.length = xss.length) : RowsOwn w lo hi T vs xss := by
  refine ⟨hl, ?_, fun k v xs h1 h2 => h.row (fun e he => he) h1 h2⟩
  rw [List.pairwise_iff_getElem]
  intro a b ha hb hab
  have h1 := rowsE_get (T := T) (List.getElem?_eq_getElem ha) (List.getElem?_eq_getElem (show a < xss.length by omega))
  have h2 := rowsE_get (T := T) (List.getElem?_eq_getElem hb) (List.getElem?_eq_getElem (show b < xss.length by omega))
  exact h.apart h1 h2 (by omega)
end
end Go.Proofs.YtcjnhiglfkcmiaaDoor
