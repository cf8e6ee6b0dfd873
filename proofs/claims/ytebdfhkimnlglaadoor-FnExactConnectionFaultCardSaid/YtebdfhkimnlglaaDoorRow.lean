/- Vocabulary: one row of a slice of slices has got one more; rows that are nil; literals of three numbers. No condition. -/
import Derived.Test.YtebdfhkimnlglaaDoorSls
import Derived.Test.YtebdfhkimnlglaaDoorLawM
import Derived.Test.YtebdfhkimnlglaaDoorRep
namespace Go.Proofs.YtebdfhkimnlglaaDoor
open Go.RowKit
set_option linter.unusedVariables false
set_option maxRecDepth 100000
/-- one row has got one more -/
theorem RowsOwn.app {w w' : World} {lo hi i n c g c' : Nat} {T : TypeId} {A : Option Addr} {vs : List Value} {xss : List (List Int)} {ys : List Int} {x : Int} (h : RowsOwn w lo hi T vs xss) (hv : vs[i]? = some (.slice A n c)) (hy : xss[i]? = some ys)
    (ho : w'.ownsRow lo T 1 (.slice (some ⟨g, 0, none⟩) (n + 1) c') (n + 1) ((ys ++ [x]).map (Value.int .i64))) (hg : w.grownBy w' (Value.slice A n c).ownBlock) (hor : (Value.slice A n c).ownBlock = some g ∨ hi ≤ g) (hh : hi ≤ w'.heap.size) :
    RowsOwn w' lo w'.heap.size T (vs.set i (.slice (some ⟨g, 0, none⟩) (n + 1) c')) (xss.set i (ys ++ [x])) := by
  have hil : i < vs.length := (List.getElem?_eq_some_iff.1 hv).1
  have hix : i < xss.length := by have := h.1; omega
  have hblk : ∀ (k : Nat) (v : Value), vs[k]? = some v → ∀ q, v.ownBlock = some q → lo ≤ q ∧ q < hi := by
    intro k v hk q hq
    have hkl : k < xss.length := by have := (List.getElem?_eq_some_iff.1 hk).1; have := h.1; omega
    obtain ⟨A1, n1, c1, rfl, hr⟩ := h.2.2 k v _ hk (List.getElem?_eq_getElem hkl)
    refine ⟨(hr.1.lt q hq).1, ?_⟩
    rcases A1 with _ | ad
    · simp [Value.ownBlock] at hq
    · have := hr.2 ad rfl; simp [Value.ownBlock] at hq; omega
  have hfar : ∀ (k : Nat) (v : Value), vs[k]? = some v → k ≠ i → v.ownBlock ≠ some g := by
    intro k v hk hne hq
    rcases hor with hA | hge
    · obtain ⟨hkl, hkv⟩ := List.getElem?_eq_some_iff.1 hk
      obtain ⟨_, hiv⟩ := List.getElem?_eq_some_iff.1 hv
      have hp := List.pairwise_iff_getElem.1 h.2.1
      rcases Nat.lt_or_gt_of_ne hne with hlt | hlt
      · have := hp k i hkl hil hlt
        rw [hkv, hiv] at this
        exact this g hq hA
      · have := hp i k hil hkl hlt
        rw [hkv, hiv] at this
        exact this g hA hq
    · have := hblk k v hk g hq; omega
  refine ⟨by simp [h.1], ?_, fun k v xs h1 h2 => ?_⟩
  · rw [List.pairwise_iff_getElem]
    intro a b ha hb hab
    simp at ha hb
    have hp := List.pairwise_iff_getElem.1 h.2.1
    rw [List.getElem_set, List.getElem_set]
    by_cases e1 : i = a
    · rw [if_pos e1, if_neg (by omega)]
      intro q hq hq2
      simp [Value.ownBlock] at hq
      subst hq
      exact hfar b _ (List.getElem?_eq_getElem hb) (by omega) hq2
    · rw [if_neg e1]
      by_cases e2 : i = b
      · rw [if_pos e2]
        intro q hq hq2
        simp [Value.ownBlock] at hq2
        subst hq2
        exact hfar a _ (List.getElem?_eq_getElem ha) (by omega) hq
      · rw [if_neg e2]
        exact hp a b ha hb hab
  · rw [List.getElem?_set] at h1 h2
    by_cases e : i = k
    · subst e
      rw [if_pos rfl, if_pos hil] at h1
      rw [if_pos rfl, if_pos hix] at h2
      have e1 := Option.some.inj h1
      have e2 := Option.some.inj h2
      subst e1; subst e2
      refine ⟨_, _, _, rfl, ho, fun a ha => ?_⟩
      injection ha with ha
      subst ha
      exact (ho.lt g (by simp [Value.ownBlock])).2
    · rw [if_neg e] at h1 h2
      obtain ⟨A1, n1, c1, rfl, hr⟩ := h.2.2 k v xs h1 h2
      refine ⟨A1, n1, c1, rfl, hr.1.kept hg ?_, fun a ha => by have := hr.2 a ha; omega⟩
      cases hq : (Value.slice A1 n1 c1).ownBlock with
      | none => exact .inl rfl
      | some q =>
        refine .inr fun hx => ?_
        obtain ⟨hkl, hkv⟩ := List.getElem?_eq_some_iff.1 h1
        obtain ⟨_, hiv⟩ := List.getElem?_eq_some_iff.1 hv
        have hp := List.pairwise_iff_getElem.1 h.2.1
        rcases Nat.lt_or_gt_of_ne e with hlt | hlt
        · have := hp i k hil hkl hlt
          rw [hiv, hkv] at this
          exact this q hx.symm hq
        · have := hp k i hkl hil hlt
          rw [hiv, hkv] at this
          exact this q hq hx.symm
theorem a3_0 (W : World) (a b c : Obj) (N : Nat) (h : N = W.heap.size) : (((W.alloc a).alloc b).alloc c).drew.heap[N]? = some a :=
  ((Below.heap_alloc ((W.alloc a).alloc b) c N (by simp; omega)).trans (Below.heap_alloc (W.alloc a) b N (by simp; omega))).trans (heap_new W a N h)
theorem a3_1 (W : World) (a b c : Obj) (N : Nat) (h : N = W.heap.size) : (((W.alloc a).alloc b).alloc c).drew.heap[N + 1]? = some b :=
  (Below.heap_alloc ((W.alloc a).alloc b) c (N + 1) (by simp; omega)).trans (heap_new (W.alloc a) b (N + 1) (by simp; omega))
theorem a3_2 (W : World) (a b c : Obj) (N : Nat) (h : N = W.heap.size) : (((W.alloc a).alloc b).alloc c).drew.heap[N + 1 + 1]? = some c :=
  heap_new ((W.alloc a).alloc b) c (N + 1 + 1) (by simp; omega)
theorem made_own {w : World} {base g n : Nat} {e : TypeId} {z : Value} (hz : z.cells = #[z]) (h : w.heap[g]? = some (.cells (madeCells #[z] n) e (0, 0))) (hb : base ≤ g) (hn : n ≤ maxLen) : w.ownsRow base e 1 (.slice (some ⟨g, 0, none⟩) n n) n (List.replicate n z) := by
  refine blk_own (vs := List.replicate n z) ?_ (by simp) hb hn
  have : madeCells #[z] n = (List.replicate n z).toArray := by
    have := toList_madeCells_one z n
    rw [← this]
  rw [h, this]
theorem cell_far_set (w : World) (p : Addr) (v : Value) (a : Addr) (h : a.block ≠ p.block) : (w.setCell p v).cell? a = w.cell? a := World.cell?_of_block (Below.heap_setCell w p v a.block h)
theorem RowsOwn.nils (w : World) (lo hi : Nat) (T : TypeId) (n : Nat) {f : Nat → List Int} (h : ∀ j, j < n → f j = []) : RowsOwn w lo hi T (List.replicate n (.slice none 0 0)) ((List.range n).map f) := by
  refine ⟨by simp, ?_, fun k v xs h1 h2 => ?_⟩
  · rw [List.pairwise_iff_getElem]
    intro a b ha hb hab
    simp only [List.getElem_replicate]
    intro q hq
    simp [Value.ownBlock] at hq
  · obtain ⟨hk, e1⟩ := List.getElem?_eq_some_iff.1 h1
    simp at hk e1
    simp [hk] at h2
    subst e1
    rw [← h2, h k hk]
    exact ⟨_, _, _, rfl, Own.nil⟩
theorem own_lit0 (w : World) (T : TypeId) {lo : Nat} (hlo : lo ≤ w.heap.size) : Own (w.alloc (.cells #[] T)) lo (w.heap.size + 1) T (some ⟨w.heap.size, 0, none⟩) 0 0 [] := by
  have h0 := World.ownsRow_lit (e := T) (base := lo) (size := 1) w #[] 0 hlo (by omega) rfl
  have h1 := Own.of_row h0
  simpa using h1
theorem RowsOwn.kept_apart {w w' : World} {lo hi : Nat} {T : TypeId} {vs : List Value} {xss : List (List Int)} {row : Option Nat} (h : RowsOwn w lo hi T vs xss) (hg : w.grownBy w' row) (ha : ∀ v ∈ vs, ∀ z, row = some z → v.ownBlock ≠ some z) : RowsOwn w' lo hi T vs xss := by
  refine ⟨h.1, h.2.1, fun k v xs h1 h2 => ?_⟩
  obtain ⟨A, n, c, rfl, hr⟩ := h.2.2 k v xs h1 h2
  refine ⟨A, n, c, rfl, hr.1.kept hg ?_, hr.2⟩
  cases hv : (Value.slice A n c).ownBlock with
  | none => exact .inl rfl
  | some z => exact .inr (fun hx => ha _ (mem_of_get? h1) z hx.symm hv)
theorem RowsOwn.block_lt {w : World} {lo hi : Nat} {T : TypeId} {vs : List Value} {xss : List (List Int)} (h : RowsOwn w lo hi T vs xss) {v : Value} (hv : v ∈ vs) {z : Nat} (hz : v.ownBlock = some z) : z < hi := by
  obtain ⟨k, hk⟩ := List.mem_iff_getElem?.1 hv
  have hkl : k < xss.length := by have := (List.getElem?_eq_some_iff.1 hk).1; have := h.1; omega
  obtain ⟨A, n, c, rfl, hr⟩ := h.2.2 k v _ hk (List.getElem?_eq_getElem hkl)
  rcases A with _ | ad
  · simp [Value.ownBlock] at hz
  · have := hr.2 ad rfl; simp [Value.ownBlock] at hz; omega
theorem own_lit3 (w : World) (T : TypeId) (x y z : Int) {lo : Nat} (hlo : lo ≤ w.heap.size) : Own (w.alloc (.cells #[.int .i64 x, .int .i64 y, .int .i64 z] T)) lo (w.heap.size + 1) T (some ⟨w.heap.size, 0, none⟩) 3 3 ([x, y, z].map (Value.int .i64)) := by
  have h0 := World.ownsRow_lit (e := T) (base := lo) (size := 1) w #[.int .i64 x, .int .i64 y, .int .i64 z] 3 hlo (by simp only [maxLen]; omega) rfl
  have h1 := Own.of_row h0
  simpa using h1
end Go.Proofs.YtebdfhkimnlglaaDoor
