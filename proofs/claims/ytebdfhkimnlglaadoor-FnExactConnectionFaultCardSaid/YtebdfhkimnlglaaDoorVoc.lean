/- Vocabulary of these proofs: slices that read as lists, rows of the call's own, worlds that differ in a range of blocks alone. No condition. -/
import Derived.WalkKit
import Derived.WalkSpells
import Derived.WalkLawsBesides
import Derived.Lib.Hide
import Derived.Deep.AppendLies
import Derived.Deep.Draws
import Derived.Deep.QuietTactic
import Derived.BigQuiet
namespace Go.Proofs.YtebdfhkimnlglaaDoor
open Go.RowKit
set_option linter.unusedVariables false
set_option maxRecDepth 100000

/-- From w to w' nothing has turned but blocks from lo on, below hi (and new blocks). -/
structure Chg (lo hi : Nat) (w w' : World) : Prop where
  os : w'.os = w.os
  tape : w'.tape = w.tape
  output : w'.output = w.output
  size : w.heap.size ≤ w'.heap.size
  block : ∀ k, k < w.heap.size → (k < lo ∨ hi ≤ k) → w'.heap[k]? = w.heap[k]?

/-- w' is as w on the blocks from lo on, below hi -/
def Same (lo hi : Nat) (w w' : World) : Prop := ∀ k, lo ≤ k → k < hi → w'.heap[k]? = w.heap[k]?

theorem Same.refl (lo hi : Nat) (w : World) : Same lo hi w w := fun _ _ _ => rfl
theorem Same.trans {lo hi : Nat} {a b c : World} (h : Same lo hi a b) (k : Same lo hi b c) : Same lo hi a c := fun i h1 h2 => (k i h1 h2).trans (h i h1 h2)
theorem Same.mono {lo hi lo' hi' : Nat} {a b : World} (h : Same lo hi a b) (h1 : lo ≤ lo') (h2 : hi' ≤ hi) : Same lo' hi' a b := fun i g1 g2 => h i (by omega) (by omega)
theorem Same.of_below {B lo hi : Nat} {a b : World} (h : Below B a b) (h2 : hi ≤ B) : Same lo hi a b := fun i _ g2 => h.block i (by omega)
theorem Same.of_chg {lo hi lo' hi' : Nat} {a b : World} (h : Chg lo hi a b) (hs : hi' ≤ a.heap.size) (h2 : hi' ≤ lo ∨ hi ≤ lo') : Same lo' hi' a b := fun i g1 g2 => h.block i (by omega) (by omega)

theorem Chg.refl (lo hi : Nat) (w : World) : Chg lo hi w w := ⟨rfl, rfl, rfl, Nat.le_refl _, fun _ _ _ => rfl⟩
theorem Chg.of_below {w w' : World} (lo hi : Nat) (h : Below w.heap.size w w') : Chg lo hi w w' := ⟨h.os, h.tape, h.output, h.size, fun k hk _ => h.block k hk⟩
theorem Chg.below {lo hi B : Nat} {w w' : World} (h : Chg lo hi w w') (hB : B ≤ lo) (hs : B ≤ w.heap.size) : Below B w w' := ⟨h.os, h.tape, h.output, h.size, fun k hk => h.block k (by omega) (by omega)⟩
theorem Chg.trans {lo hi lo' hi' lo'' hi'' : Nat} {a b c : World} (h : Chg lo hi a b) (k : Chg lo' hi' b c) (h1 : lo'' ≤ lo ∧ hi ≤ hi'') (h2 : lo'' ≤ lo' ∧ hi' ≤ hi'') : Chg lo'' hi'' a c :=
  ⟨k.os.trans h.os, k.tape.trans h.tape, k.output.trans h.output, Nat.le_trans h.size k.size, fun i hi g => (k.block i (by have := h.size; omega) (by omega)).trans (h.block i hi (by omega))⟩
theorem Chg.trans_below {lo hi : Nat} {a b c : World} (h : Chg lo hi a b) (k : Below b.heap.size b c) : Chg lo hi a c := h.trans (Chg.of_below lo hi k) ⟨Nat.le_refl _, Nat.le_refl _⟩ ⟨Nat.le_refl _, Nat.le_refl _⟩
theorem Chg.drew {lo hi : Nat} {a w : World} (h : Chg lo hi a w) : Chg lo hi a w.drew := ⟨h.os, h.tape, h.output, h.size, h.block⟩
theorem Chg.alloc {lo hi : Nat} {a w : World} (h : Chg lo hi a w) (o : Obj) : Chg lo hi a (w.alloc o) := h.trans_below ((Below.refl _ _).alloc (Nat.le_refl _) o)
theorem Chg.setCell {lo hi : Nat} {a w : World} (h : Chg lo hi a w) {p : Addr} (h1 : lo ≤ p.block) (h2 : p.block < hi) (u : Value) : Chg lo hi a (w.setCell p u) :=
  ⟨h.os, h.tape, h.output, by have := h.size; simp only [World.size_setCell]; omega, fun k hk g => (Below.heap_setCell _ _ _ _ (by omega)).trans (h.block k hk g)⟩
theorem Chg.of_grown {w w' : World} {row : Option Nat} {lo hi : Nat} (hg : w.grownBy w' row) (h : ∀ k, row = some k → lo ≤ k ∧ k < hi) : Chg lo hi w w' :=
  ⟨hg.os, hg.tape, hg.output, hg.size, fun k hk g => hg.block k hk (fun e => by have := h k e.symm; omega)⟩
theorem below_of_grown {B : Nat} {w w' : World} {row : Option Nat} (hg : w.grownBy w' row) (hB : B ≤ w.heap.size) (hr : ∀ k, row = some k → B ≤ k) : Below B w w' :=
  (Below.refl B w).grown hg hB hr
theorem below_then {B : Nat} {a b c : World} (h : Below B a b) (k : Below b.heap.size b c) (hB : B ≤ b.heap.size) : Below B a c := h.trans (k.mono hB)

/-- the slice '.slice A n c' holds the cells vs, in a block from lo on, below hi -/
def Rd (w : World) (lo hi : Nat) (A : Option Addr) (n : Nat) (vs : List Value) : Prop :=
  vs.length = n ∧ n ≤ 9223372036854775807 ∧ (0 < n → ∃ b o, A = some ⟨b, o, none⟩ ∧ lo ≤ b ∧ b < hi ∧ ∀ k v, vs[k]? = some v → w.cell? ⟨b, o + k, none⟩ = some v)

section
variable {w w' : World} {lo hi lo' hi' n : Nat} {A : Option Addr} {vs : List Value} {xs : List Int}
theorem Rd.nil : Rd w lo hi A 0 [] := ⟨rfl, by omega, fun h => absurd h (by omega)⟩
theorem Rd.keep (h : Rd w lo hi A n vs) (hs : Same lo hi w w') : Rd w' lo hi A n vs := by
  refine ⟨h.1, h.2.1, fun hn => ?_⟩
  obtain ⟨b, o, e, h1, h2, hc⟩ := h.2.2 hn
  exact ⟨b, o, e, h1, h2, fun k v hv => (World.cell?_of_block (w := w) (a := ⟨b, o + k, none⟩) (hs b h1 h2)).trans (hc k v hv)⟩
theorem Rd.more (h : Rd w lo hi A n vs) (h1 : lo' ≤ lo) (h2 : hi ≤ hi') : Rd w lo' hi' A n vs := by
  refine ⟨h.1, h.2.1, fun hn => ?_⟩
  obtain ⟨b, o, e, g1, g2, hc⟩ := h.2.2 hn
  exact ⟨b, o, e, by omega, by omega, hc⟩
theorem Rd.below {B : Nat} (h : Rd w lo hi A n vs) (hb : Below B w w') (hB : hi ≤ B) : Rd w' lo hi A n vs := h.keep (Same.of_below hb hB)
theorem Rd.at_ {k : Nat} (h : Rd w lo hi A n vs) (hk : k < n) : ∃ b o v, A = some ⟨b, o, none⟩ ∧ lo ≤ b ∧ b < hi ∧ vs[k]? = some v ∧ w.cell? ⟨b, o + k, none⟩ = some v := by
  obtain ⟨b, o, e, h1, h2, hc⟩ := h.2.2 (by omega)
  have hl : k < vs.length := by have := h.1; omega
  exact ⟨b, o, vs[k], e, h1, h2, List.getElem?_eq_getElem hl, hc k _ (List.getElem?_eq_getElem hl)⟩

/-- ints -/
def RI (w : World) (lo hi : Nat) (A : Option Addr) (n : Nat) (xs : List Int) : Prop := Rd w lo hi A n (xs.map (Value.int .i64))
theorem RI.nil : RI w lo hi A 0 [] := Rd.nil
theorem RI.len (h : RI w lo hi A n xs) : xs.length = n := by have := h.1; simpa using this
theorem RI.max (h : RI w lo hi A n xs) : n ≤ 9223372036854775807 := h.2.1
theorem RI.keep (h : RI w lo hi A n xs) (hs : Same lo hi w w') : RI w' lo hi A n xs := Rd.keep h hs
theorem RI.more (h : RI w lo hi A n xs) (h1 : lo' ≤ lo) (h2 : hi ≤ hi') : RI w lo' hi' A n xs := Rd.more h h1 h2
theorem RI.below {B : Nat} (h : RI w lo hi A n xs) (hb : Below B w w') (hB : hi ≤ B) : RI w' lo hi A n xs := Rd.below h hb hB
theorem RI.at_ {k : Nat} (h : RI w lo hi A n xs) (hk : k < n) : ∃ b o x, A = some ⟨b, o, none⟩ ∧ lo ≤ b ∧ b < hi ∧ xs[k]? = some x ∧ w.cell? ⟨b, o + k, none⟩ = some (.int .i64 x) := by
  obtain ⟨b, o, v, e, h1, h2, hv, hc⟩ := Rd.at_ h hk
  simp only [List.getElem?_map, Option.map_eq_some_iff] at hv
  obtain ⟨x, hx, rfl⟩ := hv
  exact ⟨b, o, x, e, h1, h2, hx, hc⟩

/-- the cells of a row whose address is known -/
theorem Rd.cell {b o k : Nat} {v : Value} (h : Rd w lo hi (some ⟨b, o, none⟩) n vs) (hv : vs[k]? = some v) : w.cell? ⟨b, o + k, none⟩ = some v := by
  have hk : k < n := by have := (List.getElem?_eq_some_iff.1 hv).1; have := h.1; omega
  obtain ⟨b', o', e, _, _, hc⟩ := h.2.2 (by omega)
  injection e with e; injection e with e1 e2 _; subst e1; subst e2
  exact hc k v hv
theorem RI.cell {b o k : Nat} {x : Int} (h : RI w lo hi (some ⟨b, o, none⟩) n xs) (hv : xs[k]? = some x) : w.cell? ⟨b, o + k, none⟩ = some (.int .i64 x) :=
  Rd.cell h (by simp [hv])

/-- a row of the call's own, in the blocks from lo on, below hi: '.slice A n c' -/
def Own (w : World) (lo hi : Nat) (T : TypeId) (A : Option Addr) (n c : Nat) (vs : List Value) : Prop :=
  w.ownsRow lo T 1 (.slice A n c) n vs ∧ ∀ a, A = some a → a.block < hi
variable {T : TypeId} {c : Nat}
theorem Own.nil : Own w lo hi T none 0 0 [] := ⟨World.ownsRow_nil w lo T 1, fun _ h => by cases h⟩
theorem Own.len (h : Own w lo hi T A n c vs) : vs.length = n := by have := h.1.1; simpa using this
theorem Own.of_row (h : w.ownsRow lo T 1 (.slice A n c) n vs) : Own w lo w.heap.size T A n c vs :=
  ⟨h, fun a e => (h.lt a.block (by simp [Value.ownBlock, e])).2⟩
theorem Own.rd (h : Own w lo hi T A n c vs) : Rd w lo hi A n vs := by
  refine ⟨h.len, ?_, fun hn => ?_⟩
  · rcases h.1.2 with ⟨hv, hn⟩ | ⟨g, cap, cur, hv, hb, hg, hnc, hcm, hcs, htake⟩
    · omega
    · simp only [maxLen] at hcm; omega
  · rcases h.1.2 with ⟨hv, hn⟩ | ⟨g, cap, cur, hv, hb, hg, hnc, hcm, hcs, htake⟩
    · omega
    · injection hv with hA _ _
      refine ⟨g, 0, hA, hb, h.2 _ hA, fun k v hk => ?_⟩
      have := h.1.cells (g := g) (by simp [Value.ownBlock, hA]) k v hk
      simpa [Addr.add_lit] using this
theorem Own.ri (h : Own w lo hi T A n c (xs.map (Value.int .i64))) : RI w lo hi A n xs := h.rd
theorem Own.keep (h : Own w lo hi T A n c vs) (hs : Same lo hi w w') : Own w' lo hi T A n c vs := by
  refine ⟨⟨h.1.1, ?_⟩, h.2⟩
  rcases h.1.2 with hn | ⟨g, cap, cur, hv, hb, hg, rest⟩
  · exact .inl hn
  · refine .inr ⟨g, cap, cur, hv, hb, ?_, rest⟩
    injection hv with hA _ _
    rw [hs g hb (h.2 _ hA)]
    exact hg
theorem Own.below {B : Nat} (h : Own w lo hi T A n c vs) (hb : Below B w w') (hB : hi ≤ B) : Own w' lo hi T A n c vs := h.keep (Same.of_below hb hB)
theorem Own.more (h : Own w lo hi T A n c vs) (h1 : lo' ≤ lo) (h2 : hi ≤ hi') : Own w lo' hi' T A n c vs := by
  refine ⟨⟨h.1.1, ?_⟩, fun a e => by have := h.2 a e; omega⟩
  rcases h.1.2 with hn | ⟨g, cap, cur, hv, hb, hg, rest⟩
  · exact .inl hn
  · exact .inr ⟨g, cap, cur, hv, by omega, hg, rest⟩
theorem Own.at_ {k : Nat} (h : Own w lo hi T A n c vs) (hk : k < n) : ∃ b v, A = some ⟨b, 0, none⟩ ∧ lo ≤ b ∧ b < hi ∧ b < w.heap.size ∧ vs[k]? = some v ∧ (∀ j, w.cell? ⟨b, j, none⟩ = if j < n then vs[j]? else w.cell? ⟨b, j, none⟩) ∧ w.cell? ⟨b, k, none⟩ = some v ∧ ∀ j, w.frozen? ⟨b, j, none⟩ = false := by
  have hl : k < vs.length := by have := h.len; omega
  rcases h.1.2 with ⟨hv, hn⟩ | ⟨g, cap, cur, hv, hb, hg, hnc, hcm, hcs, htake⟩
  · omega
  · have ho := h.1
    injection hv with hA hn hc
    subst hA
    have hcell : ∀ j, j < n → w.cell? ⟨g, j, none⟩ = vs[j]? := fun j hj => ho.cellAt j (by omega)
    refine ⟨g, vs[k], rfl, hb, h.2 _ rfl, (Array.getElem?_eq_some_iff.1 hg).1, List.getElem?_eq_getElem hl, fun j => ?_, ?_, fun j => ho.frozenAt j⟩
    · split
      · exact hcell j ‹_›
      · rfl
    · rw [hcell k hk]; exact List.getElem?_eq_getElem hl
/-- a store into a row of the call's own -/
theorem Own.set {b k : Nat} (h : Own w lo hi T (some ⟨b, 0, none⟩) n c vs) (u : Value) : Own (w.setCell ⟨b, k, none⟩ u) lo hi T (some ⟨b, 0, none⟩) n c (vs.set k u) :=
  ⟨(h.1.stored k u).1, h.2⟩
/-- a store elsewhere -/
theorem Own.far (h : Own w lo hi T A n c vs) {p : Addr} (hp : p.block < lo ∨ hi ≤ p.block) (u : Value) : Own (w.setCell p u) lo hi T A n c vs :=
  h.keep fun k h1 h2 => Below.heap_setCell _ _ _ _ (by omega)
theorem Rd.far (h : Rd w lo hi A n vs) {p : Addr} (hp : p.block < lo ∨ hi ≤ p.block) (u : Value) : Rd (w.setCell p u) lo hi A n vs :=
  h.keep fun k h1 h2 => Below.heap_setCell _ _ _ _ (by omega)
end

theorem quiet_left {P : Program} {f : FuncId} {args : Array Value} {w : World} {n : Nat} {v : Value}
    (h : Calls P f args (w.drewN n) fun e w' => e = .returned v ∧ w.drewN n = w') : Calls P f args (w.drewN n) fun e w'' => e = .returned v ∧ ∃ m, w'' = w.drewN m :=
  h.mono fun _ _ ⟨he, hm⟩ => ⟨he, n, hm.symm⟩
/-- the worlds that are as w was below its heap's size: what pure calls may leave -/
structure Since (w : World) where
  val : World
  ok : Below w.heap.size w val
theorem Since.ne (w : World) : Nonempty (Since w) := ⟨⟨w, Below.refl _ _⟩⟩
/-- a region that draws its order and holds calls that may make memory, their values known: one walk in the order of the text -/
theorem wp_region_since_lit {P : Program} {id : Nat} {Q : Exit → Act → World → Prop} {a : Act} {w : World} {l : List Oper} (hm : P.follows .mixedOrders = true) (hB : Region.lexB .any l.toArray = true)
    (h : wpQuiet P l.toArray (fun w' => ∃ u : Since w, w' = u.val) (fun a' => ∀ w', (∃ u : Since w, w' = u.val) → Q .normal a' w') l a) : (Code.region id l.toArray true).wp P Q a w :=
  wp_region_quiet (C := fun w' => ∃ u : Since w, w' = u.val) hm hB ⟨⟨w.drew, (Below.refl _ _).drew⟩, rfl⟩ (by simpa using h)
/-- a pure call inside such a region -/
theorem since_call {P : Program} {f : FuncId} {args : Array Value} {w : World} {u : Since w} {v : Value} (h : Calls P f args u.val fun e w' => e = .returned v ∧ Below u.val.heap.size u.val w') :
    Calls P f args u.val fun e w' => e = .returned v ∧ ∃ u' : Since w, w' = u'.val :=
  h.mono fun e w' ⟨he, hb⟩ => ⟨he, ⟨w', below_then u.ok hb u.ok.size⟩, rfl⟩
theorem since_call_same {P : Program} {f : FuncId} {args : Array Value} {w : World} {u : Since w} {v : Value} (h : Calls P f args u.val fun e w' => e = .returned v ∧ u.val = w') :
    Calls P f args u.val fun e w' => e = .returned v ∧ ∃ u' : Since w, w' = u'.val :=
  h.mono fun e w' ⟨he, hb⟩ => ⟨he, u, hb.symm⟩
theorem ret_bool {a b : Bool} (h : a = b) : Ending.returned (.bool a) = .returned (.bool b) := by rw [h]
theorem ret_int {k : IntKind} {a b : Int} (h : a = b) : Ending.returned (.int k a) = .returned (.int k b) := by rw [h]
theorem bcell {B : Nat} {W w1 : World} (hb : Below B W w1) : (∀ b o, b < B → w1.cell? ⟨b, o, none⟩ = W.cell? ⟨b, o, none⟩) ∧ (∀ b o, b < B → w1.frozen? ⟨b, o, none⟩ = W.frozen? ⟨b, o, none⟩) :=
  ⟨fun b o h => hb.cell (p := ⟨b, o, none⟩) h, fun b o h => hb.frozen (p := ⟨b, o, none⟩) h⟩
theorem list_ext_upto {α : Type} {xs ys : List α} (k : Nat) (hx : xs.length ≤ k) (hy : ys.length ≤ k) (h : ∀ j, j < k → xs[j]? = ys[j]?) : xs = ys := by
  apply List.ext_getElem?
  intro j
  by_cases hj : j < k
  · exact h j hj
  · rw [List.getElem?_eq_none (by omega), List.getElem?_eq_none (by omega)]
end Go.Proofs.YtebdfhkimnlglaaDoor
