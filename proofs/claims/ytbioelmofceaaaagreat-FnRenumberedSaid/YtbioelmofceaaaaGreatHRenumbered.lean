/- Merged texts: what the statement wants besides (DrwC DrwM DrwO LexP Lex LexS Lst LstX RenX FormX ColP FwP Que Dist Dia PthP CntP TypP IsoQ LexQ LabP FsQ SeqP RenQ Face FaceS Cnt CntX). No condition but those that each lemma names. -/
import Derived.Deep.RegionLaw
import Derived.Deep.AppendLies
import Derived.Deep.RegionWith
import Derived.ArgAppend
import Derived.Lib.SlicesCompact
import Derived.Lib.SliceRun
import Derived.Test.YtbioelmofceaaaaGreatGd2
/- DrwC -/
namespace Go.Proofs.YtbioelmofceaaaaGreat
open Go.RowKit
set_option linter.unusedVariables false
set_option maxRecDepth 100000
/-- two lists in rows of their own -/
def PairP (w w' : World) (T : TypeId) (A1 : Option Addr) (n1 c1 : Nat) (A2 : Option Addr) (n2 c2 : Nat) : Prop :=
  ∃ (xs ys : List Int), Own w' w.heap.size w'.heap.size T A1 n1 c1 (xs.map (Value.int .i64)) ∧ Own w' w.heap.size w'.heap.size T A2 n2 c2 (ys.map (Value.int .i64)) ∧ n1 ≤ 402 ∧ n2 ≤ 402 ∧ Below w.heap.size w w'
end Go.Proofs.YtbioelmofceaaaaGreat
/- DrwM -/
namespace Go.Proofs.YtbioelmofceaaaaGreat
open Go.RowKit
set_option linter.unusedVariables false
set_option maxRecDepth 100000
/-- a list of lists of the call's own (blocks from B on), each of at most 402 numbers, and the source -/
structure SmS (w wr : World) (lo g : Nat) (T TS TI : TypeId) (A : Option Addr) (n c : Nat) (bs : List Int) (vs : List Value) (A1 : Option Addr) (c1 : Nat) (xss : List (List Int)) (i' h' : Nat) : Prop where
  row : wr.ownsRow w.heap.size TS 1 (.slice A1 vs.length c1) vs.length vs
  rows : RowsOwn wr w.heap.size wr.heap.size TI vs xss
  len : ∀ xs ∈ xss, xs.length ≤ 402
  src : Src wr lo g T A n c bs i' h'
  chg : Chg g (g + 1) w wr
  old : g < w.heap.size
section
variable {w wr wq : World} {lo g : Nat} {T TS TI : TypeId} {A : Option Addr} {n c : Nat} {bs : List Int} {vs : List Value} {A1 : Option Addr} {c1 : Nat} {xss : List (List Int)} {i' h' i2 h2 : Nat}
/-- the source goes on -/
theorem SmS.next (s : SmS w wr lo g T TS TI A n c bs vs A1 c1 xss i' h') (S : Src wq lo g T A n c bs i2 h2) (C : Chg g (g + 1) wr wq) : SmS w wq lo g T TS TI A n c bs vs A1 c1 xss i2 h2 := by
  have hz := C.size
  have ho := s.old
  have hsz := s.chg.size
  have hs : Same w.heap.size wr.heap.size wr wq := Same.of_chg C (Nat.le_refl _) (by omega)
  exact ⟨((Own.of_row s.row).keep hs).1, (s.rows.keep hs).more (Nat.le_refl _) hz, s.len, S, s.chg.trans C ⟨Nat.le_refl _, Nat.le_refl _⟩ ⟨Nat.le_refl _, Nat.le_refl _⟩, ho⟩
/-- the rows and a fresh row behind them, where the source goes on -/
theorem SmS.keepRows {hi : Nat} (s : SmS w wr lo g T TS TI A n c bs vs A1 c1 xss i' h') (hrow : RowsOwn wr w.heap.size hi TI vs xss) (hh : hi ≤ wr.heap.size) (C : Chg g (g + 1) wr wq) : RowsOwn wq w.heap.size hi TI vs xss :=
  hrow.keep (Same.of_chg C hh (by have := s.old; omega))
theorem SmS.start (s : Src wr lo g T A n c bs i' h') (C : Chg g (g + 1) w wr) (hold : g < w.heap.size) (b0 : wr.ownsRow w.heap.size TS 1 (.slice A1 0 c1) 0 []) : SmS w wr lo g T TS TI A n c bs [] A1 c1 [] i' h' :=
  ⟨b0, RowsOwn.nil, by simp, s, C, hold⟩
/-- a store into a row of the call's own that is none of the list's -/
theorem SmS.set {b N c3 : Nat} {us : List Value} (s : SmS w wr lo g T TS TI A n c bs vs A1 c1 xss i' h') {hi hi2 : Nat} (hrow : RowsOwn wr w.heap.size hi TI vs xss) (h1 : w.heap.size ≤ hi) (h2 : hi ≤ wr.heap.size) (hne : TS ≠ TI)
    (O : Own wr hi hi2 TI (some ⟨b, 0, none⟩) N c3 us) (j : Nat) (u : Value) : SmS w (wr.setCell ⟨b, j, none⟩ u) lo g T TS TI A n c bs vs A1 c1 xss i' h' ∧ RowsOwn (wr.setCell ⟨b, j, none⟩ u) w.heap.size hi TI vs xss := by
  have hb : hi ≤ b := (O.1.lt b rfl).1
  have ho := s.old
  have hr : RowsOwn (wr.setCell ⟨b, j, none⟩ u) w.heap.size hi TI vs xss := hrow.keep (same_set wr _ u _ _ (.inr hb))
  exact ⟨⟨own_kept_ty s.row O.1 hne (O.1.stored j u).2, hr.more (Nat.le_refl _) (by rw [World.size_setCell]; exact h2), s.len, s.src.far (by simp; omega) (by have := s.src.above; simp; omega) u, s.chg.setNew (by simp; omega) u, ho⟩, hr⟩
/-- a row has been appended -/
theorem SmS.app {A2 : Option Addr} {m c2 c3 : Nat} {A3 : Option Addr} {xs : List Int} {hi : Nat} (s : SmS w wr lo g T TS TI A n c bs vs A1 c1 xss i' h') (hne : TI ≠ TS) (hTS : True)
    (ho : Own wr hi wr.heap.size TI A2 m c2 (xs.map (Value.int .i64))) (hrow : RowsOwn wr w.heap.size hi TI vs xss) (h1 : w.heap.size ≤ hi) (hb : hi ≤ wr.heap.size) (hx : xs.length ≤ 402)
    (hg : wr.grownBy wq (Value.slice A1 vs.length c1).ownBlock) (ho2 : wq.ownsRow w.heap.size TS 1 (.slice A3 (vs.length + 1) c3) (vs.length + 1) (vs ++ [.slice A2 m c2])) :
    SmS w wq lo g T TS TI A n c bs (vs ++ [.slice A2 m c2]) A3 c3 (xss ++ [xs]) i' h' := by
  have hz := hg.size
  have hk := hrow.kept_ty s.row hne hg
  have hc := ho.kept_ty s.row hne hg
  have hw := s.chg.size
  have hnew : ∀ q, (Value.slice A1 vs.length c1).ownBlock = some q → w.heap.size ≤ q := fun q hq => (s.row.lt q hq).1
  have hold : ∀ k, k < w.heap.size → wq.heap[k]? = wr.heap[k]? := fun k hk => hg.block k (by omega) (fun e => by have := hnew k e.symm; omega)
  have ho' := s.old
  refine ⟨by rw [List.length_append]; exact ho2, ((hk.snoc hc h1 hb).more (Nat.le_refl _) hz), ?_, ?_, ?_, s.old⟩
  · intro ys hy
    rcases List.mem_append.1 hy with h | h
    · exact s.len ys h
    · rw [List.mem_singleton.1 h]; exact hx
  · exact ⟨(hold g ho').trans s.src.blk, s.src.above, s.src.code.keep fun k _ hk => hold k (by have := s.src.above; omega), s.src.byte, s.src.le, s.src.st⟩
  · exact ⟨hg.os.trans s.chg.os, hg.tape.trans s.chg.tape, hg.output.trans s.chg.output, by omega, fun k hk e => (hold k hk).trans (s.chg.block k hk e)⟩
end
def lenV : Value → Nat
  | .slice _ n _ => n
  | _ => 0
/-- what l01Small leaves -/
def SmallP (w w' : World) (lo g : Nat) (T TS TI : TypeId) (A : Option Addr) (n c : Nat) (bs : List Int) (N : Int) (A1 : Option Addr) (m c1 : Nat) : Prop :=
  ∃ (xss : List (List Int)) (i' h' : Nat), OwnS w' w.heap.size w'.heap.size TS TI A1 m c1 xss ∧ m ≤ 17 ∧ (∀ xs ∈ xss, xs.length ≤ 402) ∧ -1 ≤ N ∧ N ≤ 402 ∧ Src w' lo g T A n c bs i' h' ∧ Chg g (g + 1) w w'
end Go.Proofs.YtbioelmofceaaaaGreat
/- DrwO -/
namespace Go.Proofs.YtbioelmofceaaaaGreat
open Go.RowKit
set_option linter.unusedVariables false
set_option maxRecDepth 100000
/-- a row of numbers of the call's own, and the source -/
structure WrdS (w wr : World) (lo g : Nat) (T TI : TypeId) (A : Option Addr) (n c : Nat) (bs : List Int) (ys : List Int) (A1 : Option Addr) (c1 : Nat) (i' h' : Nat) : Prop where
  row : wr.ownsRow w.heap.size TI 1 (.slice A1 ys.length c1) ys.length (ys.map (Value.int .i64))
  src : Src wr lo g T A n c bs i' h'
  chg : Chg g (g + 1) w wr
  old : g < w.heap.size
section
variable {w wr wq : World} {lo g : Nat} {T TI : TypeId} {A : Option Addr} {n c : Nat} {bs ys : List Int} {A1 : Option Addr} {c1 : Nat} {i' h' i2 h2 : Nat}
theorem WrdS.next (s : WrdS w wr lo g T TI A n c bs ys A1 c1 i' h') (S : Src wq lo g T A n c bs i2 h2) (C : Chg g (g + 1) wr wq) : WrdS w wq lo g T TI A n c bs ys A1 c1 i2 h2 := by
  have ho := s.old
  have hsz := s.chg.size
  have hs : Same w.heap.size wr.heap.size wr wq := Same.of_chg C (Nat.le_refl _) (by omega)
  exact ⟨((Own.of_row s.row).keep hs).1, S, s.chg.trans C ⟨Nat.le_refl _, Nat.le_refl _⟩ ⟨Nat.le_refl _, Nat.le_refl _⟩, ho⟩
theorem WrdS.app {x : Int} {c3 : Nat} {A3 : Option Addr} (s : WrdS w wr lo g T TI A n c bs ys A1 c1 i' h') (hg : wr.grownBy wq (Value.slice A1 ys.length c1).ownBlock)
    (ho2 : wq.ownsRow w.heap.size TI 1 (.slice A3 (ys.length + 1) c3) (ys.length + 1) ((ys.map (Value.int .i64)) ++ [.int .i64 x])) : WrdS w wq lo g T TI A n c bs (ys ++ [x]) A3 c3 i' h' := by
  have hz := hg.size
  have hw := s.chg.size
  have hnew : ∀ q, (Value.slice A1 ys.length c1).ownBlock = some q → w.heap.size ≤ q := fun q hq => (s.row.lt q hq).1
  have hold : ∀ k, k < w.heap.size → wq.heap[k]? = wr.heap[k]? := fun k hk => hg.block k (by omega) (fun e => by have := hnew k e.symm; omega)
  have ho' := s.old
  refine ⟨by rw [List.length_append, List.map_append]; exact ho2, ?_, ?_, ho'⟩
  · exact ⟨(hold g ho').trans s.src.blk, s.src.above, s.src.code.keep fun k _ hk => hold k (by have := s.src.above; omega), s.src.byte, s.src.le, s.src.st⟩
  · exact ⟨hg.os.trans s.chg.os, hg.tape.trans s.chg.tape, hg.output.trans s.chg.output, by omega, fun k hk e => (hold k hk).trans (s.chg.block k hk e)⟩
end
/-- a number and a system's rows of the call's own -/
def DrwSysP (w w' : World) (TS TI : TypeId) (N : Int) (A1 : Option Addr) (m c1 : Nat) : Prop :=
  ∃ (xss : List (List Int)), OwnS w' w.heap.size w'.heap.size TS TI A1 m c1 xss ∧ m ≤ 17 ∧ (∀ xs ∈ xss, xs.length ≤ 402) ∧ -1 ≤ N ∧ N ≤ 402 ∧ Below w.heap.size w w'
theorem below_nat (w : World) (lo g : Nat) (A : Option Addr) (n c : Nat) (bs : List Int) (i h : Nat) (s : Src w lo g 56 A n c bs i h) (x : Int) (h1 : 1 ≤ x) (hx : x ≤ 1099511627776) :
    Calls Tryz.prog 14 #[.pointer (some ⟨g, 0, none⟩), .int .i64 x] w fun e w' => ∃ (v : Nat), e = .returned (.int .i64 v) ∧ StepP w w' lo g 56 A n c bs (x - 1).toNat v := by
  refine (below_any w lo g A n c bs i h s x h1 hx).mono ?_
  rintro e w' ⟨v, i', rfl, P⟩
  obtain ⟨V, rfl⟩ := Int.eq_ofNat_of_zero_le P.ge
  have := P.lt
  exact ⟨V, rfl, by omega, i', _, P.src, P.chg⟩
end Go.Proofs.YtbioelmofceaaaaGreat
/- LexP -/
namespace Go.Proofs.YtbioelmofceaaaaGreat
set_option linter.unusedVariables false
set_option maxRecDepth 100000
/-- -1, 0 or 1 -/
def cmpL : List Int → List Int → Int
  | [], [] => 0
  | [], _ :: _ => -1
  | _ :: _, [] => 1
  | x :: s, y :: t => if x < y then -1 else if y < x then 1 else cmpL s t
theorem cmpL_refl (a : List Int) : cmpL a a = 0 := by
  induction a with
  | nil => rfl
  | cons x s ih => simp [cmpL, ih]
theorem cmpL_zero : ∀ a b : List Int, cmpL a b = 0 ↔ a = b := by
  intro a
  induction a with
  | nil => intro b; cases b <;> simp [cmpL]
  | cons x s ih =>
    intro b
    cases b with
    | nil => simp [cmpL]
    | cons y t =>
      unfold cmpL
      split
      · simp; omega
      · split
        · simp; omega
        · rw [ih t]; simp; omega
theorem cmpL_vals : ∀ a b : List Int, cmpL a b = -1 ∨ cmpL a b = 0 ∨ cmpL a b = 1 := by
  intro a
  induction a with
  | nil => intro b; cases b <;> simp [cmpL]
  | cons x s ih =>
    intro b
    cases b with
    | nil => simp [cmpL]
    | cons y t =>
      unfold cmpL
      split
      · exact .inl rfl
      · split
        · exact .inr (.inr rfl)
        · exact ih t
def cmp2 : List (List Int) → List (List Int) → Int
  | [], [] => 0
  | [], _ :: _ => -1
  | _ :: _, [] => 1
  | x :: s, y :: t => if cmpL x y = 0 then cmp2 s t else cmpL x y
theorem cmp2_refl (a : List (List Int)) : cmp2 a a = 0 := by
  induction a with
  | nil => rfl
  | cons x s ih => simp [cmp2, cmpL_refl, ih]
theorem drop_get {α : Type} {xs : List α} {k : Nat} {x : α} (h : xs[k]? = some x) : xs.drop k = x :: xs.drop (k + 1) := by
  have hk := (List.getElem?_eq_some_iff.1 h).1
  rw [List.drop_eq_getElem_cons hk]
  congr 1
  exact (List.getElem?_eq_some_iff.1 h).2
theorem cmpL_step {a b : List Int} {k : Nat} {x y : Int} (hx : a[k]? = some x) (hy : b[k]? = some y) : cmpL (a.drop k) (b.drop k) = if x < y then -1 else if y < x then 1 else cmpL (a.drop (k + 1)) (b.drop (k + 1)) := by
  rw [drop_get hx, drop_get hy]; rfl
theorem cmpL_short {a b : List Int} {k : Nat} {x : Int} (hx : a[k]? = some x) (hb : b.length ≤ k) : cmpL (a.drop k) (b.drop k) = 1 := by
  rw [drop_get hx, List.drop_of_length_le hb]; rfl
theorem cmpL_long {a b : List Int} {k : Nat} (ha : a.length ≤ k) (hb : k < b.length) : cmpL (a.drop k) (b.drop k) = -1 := by
  rw [List.drop_of_length_le ha, drop_get (List.getElem?_eq_getElem hb)]; rfl
theorem cmpL_end {a b : List Int} {k : Nat} (ha : a.length ≤ k) (hb : b.length ≤ k) : cmpL (a.drop k) (b.drop k) = 0 := by
  rw [List.drop_of_length_le ha, List.drop_of_length_le hb]; rfl
theorem cmp2_step {a b : List (List Int)} {k : Nat} {x y : List Int} (hx : a[k]? = some x) (hy : b[k]? = some y) : cmp2 (a.drop k) (b.drop k) = if cmpL x y = 0 then cmp2 (a.drop (k + 1)) (b.drop (k + 1)) else cmpL x y := by
  rw [drop_get hx, drop_get hy]; rfl
theorem cmp2_short {a b : List (List Int)} {k : Nat} {x : List Int} (hx : a[k]? = some x) (hb : b.length ≤ k) : cmp2 (a.drop k) (b.drop k) = 1 := by
  rw [drop_get hx, List.drop_of_length_le hb]; rfl
theorem cmp2_long {a b : List (List Int)} {k : Nat} (ha : a.length ≤ k) (hb : k < b.length) : cmp2 (a.drop k) (b.drop k) = -1 := by
  rw [List.drop_of_length_le ha, drop_get (List.getElem?_eq_getElem hb)]; rfl
theorem cmp2_end {a b : List (List Int)} {k : Nat} (ha : a.length ≤ k) (hb : b.length ≤ k) : cmp2 (a.drop k) (b.drop k) = 0 := by
  rw [List.drop_of_length_le ha, List.drop_of_length_le hb]; rfl
/-- the least of the first k forms -/
def minF (form best : List (List Int)) : List (List Int) := if cmp2 form best < 0 then form else best
def leastGo (xss : List (List Int)) (n k : Nat) : List (List Int) := (List.range k).foldl (fun (best : List (List Int)) (f : Nat) => minF (formL xss n (f : Int)) best) (formL xss n 0)
theorem leastGo_succ (xss : List (List Int)) (n k : Nat) : leastGo xss n (k + 1) = minF (formL xss n (k : Int)) (leastGo xss n k) := by unfold leastGo; rw [List.range_succ, List.foldl_append]; rfl
theorem leastGo_one (xss : List (List Int)) (n : Nat) : leastGo xss n 1 = formL xss n 0 := by
  rw [leastGo_succ]
  unfold minF leastGo
  show (if cmp2 (formL xss n 0) (formL xss n 0) < 0 then formL xss n 0 else formL xss n 0) = _
  by_cases h : cmp2 (formL xss n 0) (formL xss n 0) < 0
  · rw [if_pos h]
  · rw [if_neg h]
theorem leastGo_form (xss : List (List Int)) (n : Nat) : ∀ k, ∃ f : Nat, (f < k ∨ f = 0) ∧ leastGo xss n k = formL xss n (f : Int) := by
  intro k
  induction k with
  | zero => exact ⟨0, .inr rfl, rfl⟩
  | succ k ih =>
    rw [leastGo_succ]
    unfold minF
    split
    · exact ⟨k, .inl (by omega), rfl⟩
    · obtain ⟨f, hf, e⟩ := ih
      exact ⟨f, by omega, e⟩
/-- what LeastForm returns -/
noncomputable def lstF (xss : List (List Int)) : List (List Int) × Int := if isManB xss = true then (leastGo xss (flg xss) (flg xss), 0) else ([], 1)
end Go.Proofs.YtbioelmofceaaaaGreat
/- Lex -/
namespace Go.Proofs.YtbioelmofceaaaaGreat
open Go.RowKit
set_option linter.unusedVariables false
set_option maxRecDepth 100000
theorem cmpCompare_any (x y : Int) (w : World) : Calls Tryz.prog 83 #[.int .i64 x, .int .i64 y] w fun e w' => e = .returned (.int .i64 (if x < y then -1 else if y < x then 1 else 0)) ∧ w = w' := by
  rcases Int.lt_trichotomy x y with h | h | h
  · have h1 : (if x < y then (-1 : Int) else if y < x then 1 else 0) = -1 := if_pos h
    have hd : decide (x < y) = true := decide_eq_true h
    rw [h1]
    go_enter Tryz.func83, Tryz.ntmps83
    go_wp2
    all_goals (go_ret; exact ⟨rfl, rfl⟩)
  · subst h
    have h1 : (if x < x then (-1 : Int) else if x < x then 1 else 0) = 0 := by simp
    rw [h1]
    go_enter Tryz.func83, Tryz.ntmps83
    go_wp2
    all_goals (go_ret; exact ⟨rfl, rfl⟩)
  · have h1 : (if x < y then (-1 : Int) else if y < x then 1 else 0) = 1 := by rw [if_neg (by omega), if_pos h]
    have hd : decide (x < y) = false := decide_eq_false (by omega)
    have hd2 : decide (y < x) = true := decide_eq_true h
    have hd3 : decide (x > y) = true := decide_eq_true h
    rw [h1]
    go_enter Tryz.func83, Tryz.ntmps83
    go_wp2
    all_goals (go_ret; exact ⟨rfl, rfl⟩)
set_option maxHeartbeats 2000000 in
theorem compare_any (A : Option Addr) (n c : Nat) (xs : List Int) (A' : Option Addr) (n' c' : Nat) (ys : List Int) (w : World) {lo hi lo' hi' : Nat} (h : RI w lo hi A n xs) (h' : RI w lo' hi' A' n' ys) :
    Calls Tryz.prog 70 #[.slice A n c, .slice A' n' c'] w fun e w' => e = .returned (.int .i64 (cmpL xs ys)) ∧ w = w' := by
  have hm := h.max
  have hm' := h'.max
  have hl := Lib.hid h.len
  have hl' := Lib.hid h'.len
  go_enter Tryz.func70, Tryz.ntmps70
  go_wp2_with fail
  go_loopw [11] (fun kv wq => ∃ k : Nat, k ≤ n ∧ k ≤ n' ∧ kv = .int .i64 k ∧ Hid (cmpL (xs.drop k) (ys.drop k) = cmpL xs ys) ∧ w = wq) (fun kv _ => n - (intOf kv).toNat)
  case atStart => exact ⟨0, by omega, by omega, rfl, Lib.hid rfl, by first | rfl | trivial⟩
  case round =>
    obtain ⟨k, hk, hk', rfl, heq, rfl⟩ := hrel
    by_cases hlt : k < n
    · obtain ⟨b, o, x, rfl, _, _, hx, hcx⟩ := h.at_ hlt
      by_cases hlt' : k < n'
      · obtain ⟨b', o', y, rfl, _, _, hy, hcy⟩ := h'.at_ hlt'
        have hge : decide ((k : Int) ≥ (n' : Int)) = false := by simp; omega
        have hst := cmpL_step hx hy
        rw [heq.out] at hst
        replace hx := Lib.hid hx
        replace hy := Lib.hid hy
        by_cases h1 : x < y
        · rw [if_pos h1] at hst
          have hc : (if x < y then (-1 : Int) else if y < x then 1 else 0) = -1 := if_pos h1
          replace hst := Lib.hid hst
          replace h1 := Lib.hid h1
          go_wp2_with fail
          ((with_reducible refine (cmpCompare_any x y _).mono ?_); rintro e w' ⟨rfl, rfl⟩)
          rw [hc]
          go_wp2_with fail
          go_ret
          exact ⟨ret_int hst.out.symm, rfl⟩
        · by_cases h2 : y < x
          · rw [if_neg h1, if_pos h2] at hst
            have hc : (if x < y then (-1 : Int) else if y < x then 1 else 0) = 1 := by rw [if_neg h1, if_pos h2]
            replace hst := Lib.hid hst
            replace h1 := Lib.hid h1
            replace h2 := Lib.hid h2
            go_wp2_with fail
            ((with_reducible refine (cmpCompare_any x y _).mono ?_); rintro e w' ⟨rfl, rfl⟩)
            rw [hc]
            go_wp2_with fail
            go_ret
            exact ⟨ret_int hst.out.symm, rfl⟩
          · rw [if_neg h1, if_neg h2] at hst
            have hc : (if x < y then (-1 : Int) else if y < x then 1 else 0) = 0 := by rw [if_neg h1, if_neg h2]
            replace hst := Lib.hid hst
            replace h1 := Lib.hid h1
            replace h2 := Lib.hid h2
            go_wp2_with fail
            ((with_reducible refine (cmpCompare_any x y _).mono ?_); rintro e w' ⟨rfl, rfl⟩)
            rw [hc]
            go_wp2_with fail
            go_roundw
            case measure => simp [intOf]; omega
            case rel => exact ⟨k + 1, by omega, by omega, by go_num, Lib.hid hst.out.symm, by first | rfl | trivial⟩
      · have hge : decide ((k : Int) ≥ (n' : Int)) = true := by simp; omega
        have hst := cmpL_short (b := ys) hx (by have := hl'.out; omega)
        rw [heq.out] at hst
        replace hst := Lib.hid hst
        replace hx := Lib.hid hx
        go_wp2_with fail
        go_ret
        exact ⟨ret_int hst.out.symm, rfl⟩
    · have hkn : k = n := by omega
      subst hkn
      by_cases hlt' : k < n'
      · have hst := cmpL_long (a := xs) (b := ys) (k := k) (by have := hl.out; omega) (by have := hl'.out; omega)
        rw [heq.out] at hst
        replace hst := Lib.hid hst
        go_wp2_with fail
        go_ret
        exact ⟨ret_int hst.out.symm, rfl⟩
      · have hst := cmpL_end (a := xs) (b := ys) (k := k) (by have := hl.out; omega) (by have := hl'.out; omega)
        rw [heq.out] at hst
        replace hst := Lib.hid hst
        go_wp2_with fail
        go_ret
        exact ⟨ret_int hst.out.symm, rfl⟩
set_option maxHeartbeats 2000000 in
theorem compareFunc_any (A : Option Addr) (n c : Nat) (xss : List (List Int)) (A' : Option Addr) (n' c' : Nat) (yss : List (List Int)) (w : World) {lo hi lo' hi' : Nat} (h : RS w lo hi A n xss) (h' : RS w lo' hi' A' n' yss) :
    Calls Tryz.prog 69 #[.slice A n c, .slice A' n' c', .func (.func 70) #[] #[]] w fun e w' => e = .returned (.int .i64 (cmp2 xss yss)) ∧ w = w' := by
  have hm := h.max
  have hm' := h'.max
  have hl := Lib.hid h.len
  have hl' := Lib.hid h'.len
  go_enter Tryz.func69, Tryz.ntmps69
  go_wp2_with fail
  go_loopw [13] (fun kv wq => ∃ k : Nat, k ≤ n ∧ k ≤ n' ∧ kv = .int .i64 k ∧ Hid (cmp2 (xss.drop k) (yss.drop k) = cmp2 xss yss) ∧ w = wq) (fun kv _ => n - (intOf kv).toNat)
  case atStart => exact ⟨0, by omega, by omega, rfl, Lib.hid rfl, by first | rfl | trivial⟩
  case round =>
    obtain ⟨k, hk, hk', rfl, heq, rfl⟩ := hrel
    by_cases hlt : k < n
    · obtain ⟨b, o, Ak, nk, ck, x, rfl, _, _, hx, hcx, hrx⟩ := h.at_ hlt
      by_cases hlt' : k < n'
      · obtain ⟨b', o', Ak', nk', ck', y, rfl, _, _, hy, hcy, hry⟩ := h'.at_ hlt'
        have hge : decide ((k : Int) ≥ (n' : Int)) = false := by simp; omega
        have hst := cmp2_step hx hy
        rw [heq.out] at hst
        replace hx := Lib.hid hx
        replace hy := Lib.hid hy
        by_cases h1 : cmpL x y = 0
        · rw [if_pos h1] at hst
          replace hst := Lib.hid hst
          go_wp2_with fail
          ((with_reducible refine (compare_any Ak nk ck x Ak' nk' ck' y _ hrx hry).mono ?_); rintro e w' ⟨rfl, rfl⟩)
          rw [h1]
          replace h1 := Lib.hid h1
          go_wp2_with fail
          go_roundw
          case measure => simp [intOf]; omega
          case rel => exact ⟨k + 1, by omega, by omega, by go_num, Lib.hid hst.out.symm, by first | rfl | trivial⟩
        · rw [if_neg h1] at hst
          have hne : (cmpL x y != 0) = true := by simpa using h1
          replace hst := Lib.hid hst
          replace h1 := Lib.hid h1
          go_wp2_with fail
          ((with_reducible refine (compare_any Ak nk ck x Ak' nk' ck' y _ hrx hry).mono ?_); rintro e w' ⟨rfl, rfl⟩)
          generalize cmpL x y = v at *
          go_wp2_with fail
          go_ret
          exact ⟨ret_int hst.out.symm, rfl⟩
      · have hge : decide ((k : Int) ≥ (n' : Int)) = true := by simp; omega
        have hst := cmp2_short (b := yss) hx (by have := hl'.out; omega)
        rw [heq.out] at hst
        replace hst := Lib.hid hst
        replace hx := Lib.hid hx
        go_wp2_with fail
        go_ret
        exact ⟨ret_int hst.out.symm, rfl⟩
    · have hkn : k = n := by omega
      subst hkn
      by_cases hlt' : k < n'
      · have hst := cmp2_long (a := xss) (b := yss) (k := k) (by have := hl.out; omega) (by have := hl'.out; omega)
        rw [heq.out] at hst
        replace hst := Lib.hid hst
        go_wp2_with fail
        go_ret
        exact ⟨ret_int hst.out.symm, rfl⟩
      · have hst := cmp2_end (a := xss) (b := yss) (k := k) (by have := hl.out; omega) (by have := hl'.out; omega)
        rw [heq.out] at hst
        replace hst := Lib.hid hst
        go_wp2_with fail
        go_ret
        exact ⟨ret_int hst.out.symm, rfl⟩
theorem compareM_any (A : Option Addr) (n c : Nat) (xss : List (List Int)) (A' : Option Addr) (n' c' : Nat) (yss : List (List Int)) (w : World) {lo hi lo' hi' : Nat} (h : RS w lo hi A n xss) (hhi : hi ≤ w.heap.size) (h' : RS w lo' hi' A' n' yss) (hhi' : hi' ≤ w.heap.size) :
    Calls Tryz.prog 51 #[.agg #[.slice A n c], .agg #[.slice A' n' c']] w fun e w' => e = .returned (.int .i64 (cmp2 xss yss)) ∧ Below w.heap.size w w' := by
  have hR := rs_alloc (rs_alloc h hhi (.cells #[.slice A n c] 26)) (by simp; omega) (.cells #[.slice A' n' c'] 26)
  have hR' := rs_alloc (rs_alloc h' hhi' (.cells #[.slice A n c] 26)) (by simp; omega) (.cells #[.slice A' n' c'] 26)
  have hB : Below w.heap.size w ((w.alloc (.cells #[.slice A n c] 26)).alloc (.cells #[.slice A' n' c'] 26)) := ((Below.refl _ _).alloc (Nat.le_refl _) _).alloc (by simp) _
  go_enter Tryz.func51, Tryz.ntmps51
  go_wp2_with fail
  ((with_reducible refine (compareFunc_any A n c xss A' n' c' yss _ hR hR').mono ?_); rintro e w' ⟨rfl, rfl⟩)
  go_wp2_with fail
  go_ret
  exact ⟨rfl, hB⟩
end Go.Proofs.YtbioelmofceaaaaGreat
/- LexS -/
namespace Go.Proofs.YtbioelmofceaaaaGreat
open Go.RowKit
set_option linter.unusedVariables false
set_option maxRecDepth 100000
set_option maxHeartbeats 2000000 in
theorem l01Same_any (A : Option Addr) (n c : Nat) (xs : List Int) (A' : Option Addr) (n' c' : Nat) (ys : List Int) (w : World) {lo hi lo' hi' : Nat} (h : RI w lo hi A n xs) (hhi : hi ≤ w.heap.size) (h' : RI w lo' hi' A' n' ys) (hhi' : hi' ≤ w.heap.size) :
    Calls Tryz.prog 73 #[.slice A n c, .slice A' n' c'] w fun e w' => e = .returned (.bool (decide (xs = ys))) ∧ Below w.heap.size w w' := by
  have hm := h.max
  have hm' := h'.max
  have hl := h.len
  have hl' := h'.len
  by_cases hn : n = n'
  · subst hn
    have hd : ((n : Int) != (n : Int)) = false := by simp
    replace hl := Lib.hid hl
    replace hl' := Lib.hid hl'
    go_enter Tryz.func73, Tryz.ntmps73
    go_wp2_with fail
    go_loopw [5] (fun kv wq => ∃ k : Nat, k ≤ n ∧ kv = .int .i64 k ∧ Hid (∀ j, j < k → xs[j]? = ys[j]?) ∧ Below w.heap.size w wq) (fun kv _ => n - (intOf kv).toNat)
    case atStart => exact ⟨0, by omega, rfl, Lib.hid (fun j hj => by omega), Below.refl _ _⟩
    case round =>
      obtain ⟨k, hk, rfl, hall, hb⟩ := hrel
      by_cases hlt : k < n
      · obtain ⟨b, o, x, rfl, _, _, hx, hcx⟩ := (h.below hb hhi).at_ hlt
        obtain ⟨b', o', y, rfl, _, _, hy, hcy⟩ := (h'.below hb hhi').at_ hlt
        by_cases hxy : x = y
        · subst hxy
          have hne : (x != x) = false := by simp
          have hall2 : ∀ j, j < k + 1 → xs[j]? = ys[j]? := fun j hj => by
            by_cases e : j = k
            · subst e; rw [hx, hy]
            · exact hall.out j (by omega)
          replace hall2 := Lib.hid hall2
          replace hx := Lib.hid hx
          replace hy := Lib.hid hy
          go_wp2_with fail
          go_quiet (fail)
          go_wp2_with fail
          go_roundw
          case measure => simp [intOf]; omega
          case rel => exact ⟨k + 1, by omega, by go_num, hall2, below_dn hb _⟩
        · have hne : (x != y) = true := by simpa using hxy
          have hF : decide (xs = ys) = false := decide_eq_false (fun e => by rw [e, hy] at hx; exact hxy (Option.some.inj hx).symm)
          replace hF := Lib.hid hF
          replace hx := Lib.hid hx
          replace hy := Lib.hid hy
          replace hxy := Lib.hid hxy
          go_wp2_with fail
          go_quiet (fail)
          go_wp2_with fail
          go_ret
          exact ⟨ret_bool hF.out.symm, below_dn hb _⟩
      · have hkn : k = n := by omega
        subst hkn
        have hF : decide (xs = ys) = true := decide_eq_true (list_ext_upto k (by have := hl.out; omega) (by have := hl'.out; omega) hall.out)
        replace hF := Lib.hid hF
        go_wp2_with fail
        go_ret
        exact ⟨ret_bool (by first | exact hF.out.symm | (rw [hF.out]; simp; omega)), hb⟩
  · have hd : ((n : Int) != (n' : Int)) = true := by simp; omega
    have hF : decide (xs = ys) = false := decide_eq_false (fun e => by subst e; omega)
    replace hF := Lib.hid hF
    replace hl := Lib.hid hl
    replace hl' := Lib.hid hl'
    replace hn := Lib.hid hn
    go_enter Tryz.func73, Tryz.ntmps73
    go_wp2_with fail
    go_ret
    exact ⟨ret_bool hF.out.symm, Below.refl _ _⟩
set_option maxHeartbeats 4000000 in
theorem l01Less_any (A : Option Addr) (n c : Nat) (xs : List Int) (A' : Option Addr) (n' c' : Nat) (ys : List Int) (w : World) {lo hi lo' hi' : Nat} (h : RI w lo hi A n xs) (hhi : hi ≤ w.heap.size) (h' : RI w lo' hi' A' n' ys) (hhi' : hi' ≤ w.heap.size) :
    Calls Tryz.prog 74 #[.slice A n c, .slice A' n' c'] w fun e w' => e = .returned (.bool (decide (cmpL xs ys < 0))) ∧ Below w.heap.size w w' := by
  have hm := h.max
  have hm' := h'.max
  have hl := Lib.hid h.len
  have hl' := Lib.hid h'.len
  go_enter Tryz.func74, Tryz.ntmps74
  go_wp2_with fail
  go_loopw [5] (fun kv wq => ∃ k : Nat, k ≤ n ∧ k ≤ n' ∧ kv = .int .i64 k ∧ Hid (cmpL (xs.drop k) (ys.drop k) = cmpL xs ys) ∧ Below w.heap.size w wq) (fun kv _ => n - (intOf kv).toNat)
  case atStart => exact ⟨0, by omega, by omega, rfl, Lib.hid rfl, Below.refl _ _⟩
  case round =>
    obtain ⟨k, hk, hk', rfl, heq, hb⟩ := hrel
    by_cases hlt : k < n
    · by_cases hlt' : k < n'
      · obtain ⟨b, o, x, rfl, _, hbu, hx, hcx⟩ := (h.below hb hhi).at_ hlt
        obtain ⟨b', o', y, rfl, _, hbu', hy, hcy⟩ := (h'.below hb hhi').at_ hlt'
        have hst := cmpL_step hx hy
        rw [heq.out] at hst
        replace hx := Lib.hid hx
        replace hy := Lib.hid hy
        by_cases hxy : x = y
        · subst hxy
          have hne : (x != x) = false := by simp
          rw [if_neg (by omega), if_neg (by omega)] at hst
          replace hst := Lib.hid hst
          go_wp2_with fail
          go_quiet (fail)
          go_wp2_with fail
          go_roundw
          case measure => simp [intOf]; omega
          case rel => exact ⟨k + 1, by omega, by omega, by go_num, Lib.hid hst.out.symm, below_dn hb _⟩
        · have hne : (x != y) = true := by simpa using hxy
          have hF : decide (cmpL xs ys < 0) = decide (x < y) := by
            rw [hst]
            by_cases h1 : x < y
            · simp [h1]
            · rw [if_neg h1, if_pos (by omega)]; simp [h1]
          replace hF := Lib.hid hF
          replace hst := Lib.hid hst
          replace hxy := Lib.hid hxy
          go_wp2_with fail
          go_quiet (fail)
          go_wp2_with fail
          go_quiet (fail)
          go_wp2_with fail
          go_ret
          exact ⟨ret_bool hF.out.symm, below_dn (below_dn hb _) _⟩
      · obtain ⟨b, o, x, hAe, _, _, hx, _⟩ := (h.below hb hhi).at_ hlt
        have hst := cmpL_short (b := ys) hx (by have := hl'.out; omega)
        rw [heq.out] at hst
        have hF : decide (cmpL xs ys < 0) = false := by rw [hst]; rfl
        have hnl : decide ((n : Int) < (n' : Int)) = false := by simp; omega
        clear hAe
        replace hF := Lib.hid hF
        replace hst := Lib.hid hst
        replace hx := Lib.hid hx
        go_wp2_with fail
        go_ret
        exact ⟨ret_bool (by first | exact hF.out.symm | (rw [hF.out]; simp; omega)), hb⟩
    · have hkn : k = n := by omega
      subst hkn
      by_cases hlt' : k < n'
      · have hst := cmpL_long (a := xs) (b := ys) (k := k) (by have := hl.out; omega) (by have := hl'.out; omega)
        rw [heq.out] at hst
        have hF : decide (cmpL xs ys < 0) = true := by rw [hst]; rfl
        have hnl : decide ((k : Int) < (n' : Int)) = true := by simp; omega
        replace hF := Lib.hid hF
        replace hst := Lib.hid hst
        go_wp2_with fail
        go_ret
        exact ⟨ret_bool (by first | exact hF.out.symm | (rw [hF.out]; simp; omega)), hb⟩
      · have hst := cmpL_end (a := xs) (b := ys) (k := k) (by have := hl.out; omega) (by have := hl'.out; omega)
        rw [heq.out] at hst
        have hF : decide (cmpL xs ys < 0) = false := by rw [hst]; rfl
        have hnl : decide ((k : Int) < (n' : Int)) = false := by simp; omega
        replace hF := Lib.hid hF
        replace hst := Lib.hid hst
        go_wp2_with fail
        go_ret
        exact ⟨ret_bool (by first | exact hF.out.symm | (rw [hF.out]; simp; omega)), hb⟩
set_option maxHeartbeats 4000000 in
theorem l01Less2_any (A : Option Addr) (n c : Nat) (xs : List (List Int)) (A' : Option Addr) (n' c' : Nat) (ys : List (List Int)) (w : World) {lo hi lo' hi' : Nat} (h : RS w lo hi A n xs) (hhi : hi ≤ w.heap.size) (h' : RS w lo' hi' A' n' ys) (hhi' : hi' ≤ w.heap.size) :
    Calls Tryz.prog 56 #[.slice A n c, .slice A' n' c'] w fun e w' => e = .returned (.bool (decide (cmp2 xs ys < 0))) ∧ Below w.heap.size w w' := by
  have hm := h.max
  have hm' := h'.max
  have hl := Lib.hid h.len
  have hl' := Lib.hid h'.len
  go_enter Tryz.func56, Tryz.ntmps56
  go_wp2_with fail
  go_loopw [5] (fun kv wq => ∃ k : Nat, k ≤ n ∧ k ≤ n' ∧ kv = .int .i64 k ∧ Hid (cmp2 (xs.drop k) (ys.drop k) = cmp2 xs ys) ∧ Below w.heap.size w wq) (fun kv _ => n - (intOf kv).toNat)
  case atStart => exact ⟨0, by omega, by omega, rfl, Lib.hid rfl, Below.refl _ _⟩
  case round =>
    obtain ⟨k, hk, hk', rfl, heq, hb⟩ := hrel
    by_cases hlt : k < n
    · by_cases hlt' : k < n'
      · obtain ⟨b, o, Ak, nk, ck, x, rfl, _, hbu, hx, hcx, hrx⟩ := (h.below hb hhi).at_ hlt
        obtain ⟨b', o', Ak', nk', ck', y, rfl, _, hbu', hy, hcy, hry⟩ := (h'.below hb hhi').at_ hlt'
        have hst := cmp2_step hx hy
        rw [heq.out] at hst
        replace hx := Lib.hid hx
        replace hy := Lib.hid hy
        have hhb : hi ≤ wr.heap.size := Nat.le_trans hhi hb.size
        have hhb' : hi' ≤ wr.heap.size := Nat.le_trans hhi' hb.size
        haveI := Since.ne wr
        have u1 : ∀ u : Since wr, u.val.cell? ⟨b, o + k, none⟩ = some (.slice Ak nk ck) := fun u => (u.ok.cell (p := ⟨b, o + k, none⟩) (by simp; omega)).trans hcx
        have u2 : ∀ u : Since wr, u.val.cell? ⟨b', o' + k, none⟩ = some (.slice Ak' nk' ck') := fun u => (u.ok.cell (p := ⟨b', o' + k, none⟩) (by simp; omega)).trans hcy
        have hpn : 0 < n := by omega
        have hpn2 : ¬ n = 0 := by omega
        have hpn3 : 0 < n' := by omega
        have hpn4 : ¬ n' = 0 := by omega
        by_cases hxy : x = y
        · have hsm : decide (x = y) = true := decide_eq_true hxy
          rw [if_pos ((cmpL_zero x y).2 hxy)] at hst
          replace hst := Lib.hid hst
          replace hxy := Lib.hid hxy
          replace hsm := Lib.hid hsm
          go_wp2_with fail
          refine wp_region_since_lit (by kernel_rfl) (by kernel_rfl) ?_
          repeat (go_big_quiet_step ((go_at_call 73; refine since_call (hsm.out ▸ l01Same_any _ _ _ x _ _ _ y _ (hrx.below (Since.ok _) hhb) ?_ (hry.below (Since.ok _) hhb') ?_); exact Nat.le_trans hhb (Since.ok _).size; exact Nat.le_trans hhb' (Since.ok _).size)))
          refine wpQuiet_nil ?_
          intro w2 hw2
          have hb2 : Below wr.heap.size wr w2 := by obtain ⟨u, hu⟩ := hw2; rw [hu]; exact u.ok
          clear hw2 u1 u2
          have hbz := hb.size
          have hb3 := below_then hb hb2 hbz
          go_wp2_with fail
          go_roundw
          case measure => simp [intOf]; omega
          case rel => exact ⟨k + 1, by omega, by omega, by go_num, Lib.hid hst.out.symm, hb3⟩
        · have hsm : decide (x = y) = false := decide_eq_false hxy
          rw [if_neg (fun e => hxy ((cmpL_zero x y).1 e))] at hst
          have hF : decide (cmp2 xs ys < 0) = decide (cmpL x y < 0) := by rw [hst]
          replace hF := Lib.hid hF
          replace hst := Lib.hid hst
          replace hxy := Lib.hid hxy
          replace hsm := Lib.hid hsm
          go_wp2_with fail
          refine wp_region_since_lit (by kernel_rfl) (by kernel_rfl) ?_
          repeat (go_big_quiet_step ((go_at_call 73; refine since_call (hsm.out ▸ l01Same_any _ _ _ x _ _ _ y _ (hrx.below (Since.ok _) hhb) ?_ (hry.below (Since.ok _) hhb') ?_); exact Nat.le_trans hhb (Since.ok _).size; exact Nat.le_trans hhb' (Since.ok _).size)))
          refine wpQuiet_nil ?_
          intro w2 hw2
          have hb2 : Below wr.heap.size wr w2 := by obtain ⟨u, hu⟩ := hw2; rw [hu]; exact u.ok
          clear hw2 u1 u2
          have hbz := hb.size
          have hb3 := below_then hb hb2 hbz
          have hz2 := hb2.size
          have hrx2 := hrx.below hb2 hhb
          have hry2 := hry.below hb2 hhb'
          have hcx2 := (hb2.cell (p := ⟨b, o + k, none⟩) (by simp; omega)).trans hcx
          have hcy2 := (hb2.cell (p := ⟨b', o' + k, none⟩) (by simp; omega)).trans hcy
          have hhc : hi ≤ w2.heap.size := by omega
          have hhc' : hi' ≤ w2.heap.size := by omega
          haveI := Since.ne w2
          have u1 : ∀ u : Since w2, u.val.cell? ⟨b, o + k, none⟩ = some (.slice Ak nk ck) := fun u => (u.ok.cell (p := ⟨b, o + k, none⟩) (by simp; omega)).trans hcx2
          have u2 : ∀ u : Since w2, u.val.cell? ⟨b', o' + k, none⟩ = some (.slice Ak' nk' ck') := fun u => (u.ok.cell (p := ⟨b', o' + k, none⟩) (by simp; omega)).trans hcy2
          go_wp2_with fail
          refine wp_region_since_lit (by kernel_rfl) (by kernel_rfl) ?_
          repeat (go_big_quiet_step ((go_at_call 74; refine since_call (l01Less_any _ _ _ x _ _ _ y _ (hrx2.below (Since.ok _) hhc) ?_ (hry2.below (Since.ok _) hhc') ?_); exact Nat.le_trans hhc (Since.ok _).size; exact Nat.le_trans hhc' (Since.ok _).size)))
          refine wpQuiet_nil ?_
          intro w3 hw3
          have hb4 : Below w2.heap.size w2 w3 := by obtain ⟨u, hu⟩ := hw3; rw [hu]; exact u.ok
          clear hw3 u1 u2
          go_wp2_with fail
          go_ret
          exact ⟨ret_bool hF.out.symm, below_then hb3 hb4 (by omega)⟩
      · obtain ⟨b, o, Ak, nk, ck, x, hAe, _, _, hx, _, _⟩ := (h.below hb hhi).at_ hlt
        have hst := cmp2_short (b := ys) hx (by have := hl'.out; omega)
        rw [heq.out] at hst
        have hF : decide (cmp2 xs ys < 0) = false := by rw [hst]; rfl
        have hnl : decide ((n : Int) < (n' : Int)) = false := by simp; omega
        clear hAe
        replace hF := Lib.hid hF
        replace hst := Lib.hid hst
        replace hx := Lib.hid hx
        go_wp2_with fail
        go_ret
        exact ⟨ret_bool (by first | exact hF.out.symm | (rw [hF.out]; simp; omega)), hb⟩
    · have hkn : k = n := by omega
      subst hkn
      by_cases hlt' : k < n'
      · have hst := cmp2_long (a := xs) (b := ys) (k := k) (by have := hl.out; omega) (by have := hl'.out; omega)
        rw [heq.out] at hst
        have hF : decide (cmp2 xs ys < 0) = true := by rw [hst]; rfl
        have hnl : decide ((k : Int) < (n' : Int)) = true := by simp; omega
        replace hF := Lib.hid hF
        replace hst := Lib.hid hst
        go_wp2_with fail
        go_ret
        exact ⟨ret_bool (by first | exact hF.out.symm | (rw [hF.out]; simp; omega)), hb⟩
      · have hst := cmp2_end (a := xs) (b := ys) (k := k) (by have := hl.out; omega) (by have := hl'.out; omega)
        rw [heq.out] at hst
        have hF : decide (cmp2 xs ys < 0) = false := by rw [hst]; rfl
        have hnl : decide ((k : Int) < (n' : Int)) = false := by simp; omega
        replace hF := Lib.hid hF
        replace hst := Lib.hid hst
        go_wp2_with fail
        go_ret
        exact ⟨ret_bool (by first | exact hF.out.symm | (rw [hF.out]; simp; omega)), hb⟩
end Go.Proofs.YtbioelmofceaaaaGreat
/- Lst -/
namespace Go.Proofs.YtbioelmofceaaaaGreat
open Go.RowKit
set_option linter.unusedVariables false
set_option maxRecDepth 100000
set_option maxHeartbeats 4000000 in
theorem leastForm_any (N : Nat) (A : Option Addr) (n c : Nat) (xss : List (List Int)) (w : World) {lo hi : Nat} (h : RS w lo hi A n xss) (hhi : hi ≤ w.heap.size) (hn : 0 < n) (hn5 : n ≤ 20) (hN : flg xss = N) (hN0 : 0 < N) (h4 : N ≤ 400) (hs : SysOf xss N) :
    Calls Tryz.prog 26 #[.agg #[.slice A n c]] w fun e w' => ∃ (A1 : Option Addr) (c1 : Nat), e = .returned (.agg #[.slice A1 n c1]) ∧ OwnS w' w.heap.size w'.heap.size 35 2 A1 n c1 (leastGo xss N N) ∧ Below w.heap.size w w' := by
  have hm := h.max
  have hR := rs_alloc (rs_alloc h hhi (.cells #[.slice A n c] 26)) (by simp; omega) (.cells #[.slice none 0 0] 26)
  have hC : ((w.alloc (.cells #[.slice A n c] 26)).alloc (.cells #[.slice none 0 0] 26)).cell? ⟨w.heap.size, 0, none⟩ = some (.slice A n c) := (al_old _ _ _ _ (by simp)).trans (al_new _ _ _ _ rfl)
  have hQ : ((w.alloc (.cells #[.slice A n c] 26)).alloc (.cells #[.slice none 0 0] 26)).heap[w.heap.size + 1]? = some (.cells #[.slice none 0 0] 26 (0, 0)) := heap_new _ _ _ (by simp)
  have hB : Below w.heap.size w ((w.alloc (.cells #[.slice A n c] 26)).alloc (.cells #[.slice none 0 0] 26)) := ((Below.refl _ _).alloc (Nat.le_refl _) _).alloc (by simp) _
  replace hs := Lib.hid hs
  replace hN := Lib.hid hN
  go_enter Tryz.func26, Tryz.ntmps26
  go_wp2_with fail
  obtain ⟨W1, hW⟩ : ∃ W1 : World, (w.alloc (.cells #[.slice A n c] 26)).alloc (.cells #[.slice none 0 0] 26) = W1 := ⟨_, rfl⟩
  have hz1 : W1.heap.size = w.heap.size + 2 := by rw [← hW]; simp
  rw [hW] at hR hC hB hQ ⊢
  replace hQ := Lib.hid hQ
  clear hW h
  ((with_reducible refine (formFrom_any N A n c xss 0 _ hR (by omega) hn hn5 h4 hs.out (by omega) (by omega)).mono ?_); rintro e w2 ⟨A2, c2, rfl, o2, f2⟩)
  have z2 := f2.size
  go_wp2_with fail
  obtain ⟨W3, hW3⟩ : ∃ W3 : World, w2.alloc (.cells #[.slice A2 n c2] 26) = W3 := ⟨_, rfl⟩
  have B3 : Below W1.heap.size W1 (w2.alloc (.cells #[.slice A2 n c2] 26)) := f2.alloc (by omega) _
  have L3 : (w2.alloc (.cells #[.slice A2 n c2] 26)).heap[w2.heap.size]? = some (.cells #[.slice A2 n c2] 26 (0, 0)) := heap_new _ _ _ rfl
  have o3 : OwnS (w2.alloc (.cells #[.slice A2 n c2] 26)) W1.heap.size w2.heap.size 35 2 A2 n c2 (formL xss N 0) := o2.keep (same_alloc _ _ _ _ (Nat.le_refl _))
  have z3 : (w2.alloc (.cells #[.slice A2 n c2] 26)).heap.size = w2.heap.size + 1 := by simp
  rw [hW3] at B3 L3 o3 z3 ⊢
  clear hW3
  replace L3 := Lib.hid L3
  have C3 := (B3.cell (p := ⟨w.heap.size, 0, none⟩) (by simp; omega)).trans hC
  ((with_reducible refine (flags_any _ A n c xss _ C3 (hR.below B3 (by omega)) hn).mono ?_); rintro e w' ⟨rfl, rfl⟩)
  rw [hN.out]
  go_wp2_with fail
  go_loopw [10] (fun kv wq => ∃ (k : Nat) (A3 : Option Addr) (c3 lo3 hi3 : Nat), 0 ≤ k ∧ k ≤ N ∧ kv = .int .i64 k ∧ Below W1.heap.size W1 wq ∧ w2.heap.size + 1 ≤ wq.heap.size ∧ Hid (wq.heap[w2.heap.size]? = some (.cells #[.slice A3 n c3] 26 (0, 0))) ∧ OwnS wq lo3 hi3 35 2 A3 n c3 (leastGo xss N k) ∧ W1.heap.size ≤ lo3 ∧ hi3 ≤ wq.heap.size ∧ (hi3 ≤ w2.heap.size ∨ w2.heap.size < lo3)) (fun kv _ => N - (intOf kv).toNat)
  case atStart => exact ⟨0, A2, c2, W1.heap.size, w2.heap.size, by omega, by omega, by go_num, B3, by omega, L3, o3, by omega, by omega, .inl (Nat.le_refl _)⟩
  case round =>
    obtain ⟨k, A3, c3, lo3, hi3, hk0, hk, rfl, hb, hzw, hL, ho, hl1, hl2, hl3⟩ := hrel
    have y1 := hb.size
    have Ck := (hb.cell (p := ⟨w.heap.size, 0, none⟩) (by simp; omega)).trans hC
    have Rk := hR.below hb (by omega)
    by_cases hlt : k < N
    · have hst := leastGo_succ xss N k
      unfold minF at hst
      replace hst := Lib.hid hst
      go_wp2_with fail
      ((with_reducible refine (formFrom_any N A n c xss (k : Int) _ Rk (by omega) hn hn5 h4 hs.out (by omega) (by omega)).mono ?_); rintro e w4 ⟨A4, c4, rfl, o4, f4⟩)
      have y4 := f4.size
      have B5 : Below W1.heap.size W1 (w4.alloc (.cells #[.slice A4 n c4] 26)) := (below_then hb f4 (by omega)).alloc (by omega) _
      have b5 : Below wr.heap.size wr (w4.alloc (.cells #[.slice A4 n c4] 26)) := f4.alloc (by omega) _
      have M5 : (w4.alloc (.cells #[.slice A4 n c4] 26)).heap[w4.heap.size]? = some (.cells #[.slice A4 n c4] 26 (0, 0)) := heap_new _ _ _ rfl
      have o5 : OwnS (w4.alloc (.cells #[.slice A4 n c4] 26)) wr.heap.size w4.heap.size 35 2 A4 n c4 (formL xss N (k : Int)) := o4.keep (same_alloc _ _ _ _ (Nat.le_refl _))
      have z5 : (w4.alloc (.cells #[.slice A4 n c4] 26)).heap.size = w4.heap.size + 1 := by simp
      have L5 := (b5.block w2.heap.size (by omega)).trans hL.out
      have p5 := ho.below b5 (by omega)
      have l5C : (w4.alloc (.cells #[.slice A4 n c4] 26)).cell? ⟨w2.heap.size, 0, none⟩ = some (.slice A3 n c3) := (cell_of_row _ _ _ _ _ _ L5).trans rfl
      have l5F : (w4.alloc (.cells #[.slice A4 n c4] 26)).frozen? ⟨w2.heap.size, 0, none⟩ = false := frozen_of_row _ _ _ _ _ L5
      replace L5 := Lib.hid L5
      replace M5 := Lib.hid M5
      go_wp2_with fail
      obtain ⟨W5, hW5⟩ : ∃ W5 : World, w4.alloc (.cells #[.slice A4 n c4] 26) = W5 := ⟨_, rfl⟩
      rw [hW5] at B5 b5 M5 o5 z5 L5 p5 ⊢
      clear hW5 l5C l5F
      ((with_reducible refine (compareM_any A4 n c4 _ A3 n c3 _ _ o5.rs (by omega) p5.rs (by omega)).mono ?_); rintro e w6 ⟨rfl, f6⟩)
      have y6 := f6.size
      have L6 := (f6.block w2.heap.size (by omega)).trans L5.out
      have M6 := (f6.block w4.heap.size (by omega)).trans M5.out
      have l6C : w6.cell? ⟨w2.heap.size, 0, none⟩ = some (.slice A3 n c3) := (cell_of_row _ _ _ _ _ _ L6).trans rfl
      have l6F : w6.frozen? ⟨w2.heap.size, 0, none⟩ = false := frozen_of_row _ _ _ _ _ L6
      have m6C : w6.cell? ⟨w4.heap.size, 0, none⟩ = some (.slice A4 n c4) := (cell_of_row _ _ _ _ _ _ M6).trans rfl
      have m6F : w6.frozen? ⟨w4.heap.size, 0, none⟩ = false := frozen_of_row _ _ _ _ _ M6
      replace L6 := Lib.hid L6
      replace M6 := Lib.hid M6
      have B6 : Below W1.heap.size W1 w6 := below_then B5 f6 (by omega)
      by_cases hc : cmp2 (formL xss N (k : Int)) (leastGo xss N k) < 0
      · have hd : decide (cmp2 (formL xss N (k : Int)) (leastGo xss N k) < 0) = true := decide_eq_true hc
        replace hst := hst.out
        rw [if_pos hc] at hst
        replace hst := Lib.hid hst
        replace hc := Lib.hid hc
        have o6 := (o5.below f6 (by omega)).keep (same_set w6 ⟨w2.heap.size, 0, none⟩ (Value.slice A4 n c4) _ _ (.inl (by simp; omega)))
        rw [← hst.out] at o6
        have S6 := heap_setCell_same _ _ 0 _ _ (Value.slice A4 n c4) L6.out
        replace S6 := Lib.hid S6
        have B7 := B6.setCell (p := ⟨w2.heap.size, 0, none⟩) (by simp; omega) (Value.slice A4 n c4)
        generalize cmp2 (formL xss N (k : Int)) (leastGo xss N k) = cv at hd ⊢
        go_wp2_with fail
        go_roundw
        case measure => simp [intOf]; omega
        case rel => exact ⟨k + 1, A4, c4, wr.heap.size, w4.heap.size, by omega, by omega, by go_num, B7, by simp; omega, Lib.hid (by simpa using S6.out), o6, by omega, by simp; omega, .inr (by omega)⟩
      · have hd : decide (cmp2 (formL xss N (k : Int)) (leastGo xss N k) < 0) = false := decide_eq_false hc
        replace hst := hst.out
        rw [if_neg hc] at hst
        replace hst := Lib.hid hst
        replace hc := Lib.hid hc
        have p6 := p5.below f6 (by omega)
        rw [← hst.out] at p6
        generalize cmp2 (formL xss N (k : Int)) (leastGo xss N k) = cv at hd ⊢
        go_wp2_with fail
        go_roundw
        case measure => simp [intOf]; omega
        case rel => exact ⟨k + 1, A3, c3, lo3, hi3, by omega, by omega, by go_num, B6, by omega, L6, p6, by omega, by omega, hl3⟩
    · have hkn : k = N := by omega
      subst hkn
      have Qk := (hb.block (w.heap.size + 1) (by omega)).trans hQ.out
      have qC : wr.cell? ⟨w.heap.size + 1, 0, none⟩ = some (.slice none 0 0) := (cell_of_row _ _ _ _ _ _ Qk).trans rfl
      have qF : wr.frozen? ⟨w.heap.size + 1, 0, none⟩ = false := frozen_of_row _ _ _ _ _ Qk
      have lC : wr.cell? ⟨w2.heap.size, 0, none⟩ = some (.slice A3 n c3) := (cell_of_row _ _ _ _ _ _ hL.out).trans rfl
      have lF : wr.frozen? ⟨w2.heap.size, 0, none⟩ = false := frozen_of_row _ _ _ _ _ hL.out
      replace Qk := Lib.hid Qk
      go_wp2_with fail
      have g2 := heap_setCell_same _ _ 0 _ _ (Value.slice A3 n c3) Qk.out
      (try simp only [Exit.inBlock, Exit.then])
      refine bodyPost_ret (v := .agg #[.slice A3 n c3]) ?_ rfl ?_
      · exact results_cell_row rfl _ _ (w.heap.size + 1) 26 #[.slice A3 n c3] (0, 0) _ rfl (by simpa using g2) Tryz.underlying26 rfl (by kernel_rfl)
      · exact ⟨A3, c3, rfl, (ho.keep (same_set _ _ _ _ _ (.inl (by simp; omega)))).more (by omega) (by simp; omega), (hB.trans (hb.mono (by omega))).setCell (by simp) _⟩
set_option maxHeartbeats 4000000 in
theorem l02Least_any (N : Nat) (A : Option Addr) (n c : Nat) (xss : List (List Int)) (w : World) {lo hi : Nat} (h : RS w lo hi A n xss) (hhi : hi ≤ w.heap.size) (hn : 0 < n) (hn5 : n ≤ 20) (hN : flg xss = N) (hN0 : 0 < N) (h4 : N ≤ 400) (hs : SysOf xss N) (hcon : Conn xss N) :
    Calls Tryz.prog 28 #[.agg #[.slice A n c]] w fun e w' => ∃ (A1 : Option Addr) (c1 : Nat), e = .returned (.agg #[.slice A1 n c1]) ∧ OwnS w' w.heap.size w'.heap.size 35 2 A1 n c1 (leastGo xss N N) ∧ Below w.heap.size w w' := by
  have hm := h.max
  have hR := rs_alloc (rs_alloc h hhi (.cells #[.slice A n c] 26)) (by simp; omega) (.cells #[.slice none 0 0] 26)
  have hC : ((w.alloc (.cells #[.slice A n c] 26)).alloc (.cells #[.slice none 0 0] 26)).cell? ⟨w.heap.size, 0, none⟩ = some (.slice A n c) := (al_old _ _ _ _ (by simp)).trans (al_new _ _ _ _ rfl)
  have hQ : ((w.alloc (.cells #[.slice A n c] 26)).alloc (.cells #[.slice none 0 0] 26)).heap[w.heap.size + 1]? = some (.cells #[.slice none 0 0] 26 (0, 0)) := heap_new _ _ _ (by simp)
  have hB : Below w.heap.size w ((w.alloc (.cells #[.slice A n c] 26)).alloc (.cells #[.slice none 0 0] 26)) := ((Below.refl _ _).alloc (Nat.le_refl _) _).alloc (by simp) _
  replace hs := Lib.hid hs
  replace hN := Lib.hid hN
  replace hcon := Lib.hid hcon
  go_enter Tryz.func28, Tryz.ntmps28
  go_wp2_with fail
  obtain ⟨W1, hW⟩ : ∃ W1 : World, (w.alloc (.cells #[.slice A n c] 26)).alloc (.cells #[.slice none 0 0] 26) = W1 := ⟨_, rfl⟩
  have hz1 : W1.heap.size = w.heap.size + 2 := by rw [← hW]; simp
  rw [hW] at hR hC hB hQ ⊢
  replace hQ := Lib.hid hQ
  clear hW h
  ((with_reducible refine (l02Form_any A n c xss 0 _ hR (by omega) hn hn5 N hN.out h4 hs.out hcon.out (by omega) (by omega)).mono ?_); rintro e w2 ⟨A2, c2, rfl, o2, f2⟩)
  have z2 := f2.size
  skip
  have B3 : Below W1.heap.size W1 (w2.alloc (.cells #[.slice A2 n c2] 26)) := f2.alloc (by omega) _
  have L3 : (w2.alloc (.cells #[.slice A2 n c2] 26)).heap[w2.heap.size]? = some (.cells #[.slice A2 n c2] 26 (0, 0)) := heap_new _ _ _ rfl
  have o3 : OwnS (w2.alloc (.cells #[.slice A2 n c2] 26)) W1.heap.size w2.heap.size 35 2 A2 n c2 (formL xss N 0) := o2.keep (same_alloc _ _ _ _ (Nat.le_refl _))
  have z3 : (w2.alloc (.cells #[.slice A2 n c2] 26)).heap.size = w2.heap.size + 1 := by simp
  replace L3 := Lib.hid L3
  go_wp2_with fail
  go_loopw [4] (fun kv wq => ∃ (k : Nat) (A3 : Option Addr) (c3 lo3 hi3 : Nat), 1 ≤ k ∧ k ≤ N ∧ kv = .int .i64 k ∧ Below W1.heap.size W1 wq ∧ w2.heap.size + 1 ≤ wq.heap.size ∧ Hid (wq.heap[w2.heap.size]? = some (.cells #[.slice A3 n c3] 26 (0, 0))) ∧ OwnS wq lo3 hi3 35 2 A3 n c3 (leastGo xss N k) ∧ W1.heap.size ≤ lo3 ∧ hi3 ≤ wq.heap.size ∧ (hi3 ≤ w2.heap.size ∨ w2.heap.size < lo3)) (fun kv _ => N - (intOf kv).toNat)
  case atStart => exact ⟨1, A2, c2, W1.heap.size, w2.heap.size, by omega, by omega, by go_num, B3, by omega, L3, (leastGo_one xss N).symm ▸ o3, by omega, by omega, .inl (Nat.le_refl _)⟩
  case round =>
    obtain ⟨k, A3, c3, lo3, hi3, hk0, hk, rfl, hb, hzw, hL, ho, hl1, hl2, hl3⟩ := hrel
    have y1 := hb.size
    have Ck := (hb.cell (p := ⟨w.heap.size, 0, none⟩) (by simp; omega)).trans hC
    have Rk := hR.below hb (by omega)
    go_wp2_with fail
    ((with_reducible refine (l02Flags_any A n c xss _ Rk (by omega) hn).mono ?_); rintro e w3 ⟨rfl, f3⟩)
    rw [hN.out]
    have y3 := f3.size
    have hb3 : Below W1.heap.size W1 w3 := below_then hb f3 (by omega)
    have C3 := (hb3.cell (p := ⟨w.heap.size, 0, none⟩) (by simp; omega)).trans hC
    have R3 := hR.below hb3 (by omega)
    have hL3 := (f3.block w2.heap.size (by omega)).trans hL.out
    have ho3 := ho.below f3 hl2
    replace hL3 := Lib.hid hL3
    clear Ck Rk hL ho hb f3
    by_cases hlt : k < N
    · have hst := leastGo_succ xss N k
      unfold minF at hst
      replace hst := Lib.hid hst
      go_wp2_with fail
      ((with_reducible refine (l02Form_any A n c xss (k : Int) _ R3 (by omega) hn hn5 N hN.out h4 hs.out hcon.out (by omega) (by omega)).mono ?_); rintro e w4 ⟨A4, c4, rfl, o4, f4⟩)
      have y4 := f4.size
      have B5 : Below W1.heap.size W1 (w4.alloc (.cells #[.slice A4 n c4] 26)) := (below_then hb3 f4 (by omega)).alloc (by omega) _
      have b5 : Below w3.heap.size w3 (w4.alloc (.cells #[.slice A4 n c4] 26)) := f4.alloc (by omega) _
      have M5 : (w4.alloc (.cells #[.slice A4 n c4] 26)).heap[w4.heap.size]? = some (.cells #[.slice A4 n c4] 26 (0, 0)) := heap_new _ _ _ rfl
      have o5 : OwnS (w4.alloc (.cells #[.slice A4 n c4] 26)) w3.heap.size w4.heap.size 35 2 A4 n c4 (formL xss N (k : Int)) := o4.keep (same_alloc _ _ _ _ (Nat.le_refl _))
      have z5 : (w4.alloc (.cells #[.slice A4 n c4] 26)).heap.size = w4.heap.size + 1 := by simp
      have L5 := (b5.block w2.heap.size (by omega)).trans hL3.out
      have p5 := ho3.below b5 (by omega)
      have l5C : (w4.alloc (.cells #[.slice A4 n c4] 26)).cell? ⟨w2.heap.size, 0, none⟩ = some (.slice A3 n c3) := (cell_of_row _ _ _ _ _ _ L5).trans rfl
      have l5F : (w4.alloc (.cells #[.slice A4 n c4] 26)).frozen? ⟨w2.heap.size, 0, none⟩ = false := frozen_of_row _ _ _ _ _ L5
      replace L5 := Lib.hid L5
      replace M5 := Lib.hid M5
      go_wp2_with fail
      obtain ⟨W5, hW5⟩ : ∃ W5 : World, w4.alloc (.cells #[.slice A4 n c4] 26) = W5 := ⟨_, rfl⟩
      rw [hW5] at B5 b5 M5 o5 z5 L5 p5 ⊢
      clear hW5 l5C l5F
      ((with_reducible refine (l01Less2_any A4 n c4 _ A3 n c3 _ _ o5.rs (by omega) p5.rs (by omega)).mono ?_); rintro e w6 ⟨rfl, f6⟩)
      have y6 := f6.size
      have L6 := (f6.block w2.heap.size (by omega)).trans L5.out
      have M6 := (f6.block w4.heap.size (by omega)).trans M5.out
      have l6C : w6.cell? ⟨w2.heap.size, 0, none⟩ = some (.slice A3 n c3) := (cell_of_row _ _ _ _ _ _ L6).trans rfl
      have l6F : w6.frozen? ⟨w2.heap.size, 0, none⟩ = false := frozen_of_row _ _ _ _ _ L6
      have m6C : w6.cell? ⟨w4.heap.size, 0, none⟩ = some (.slice A4 n c4) := (cell_of_row _ _ _ _ _ _ M6).trans rfl
      have m6F : w6.frozen? ⟨w4.heap.size, 0, none⟩ = false := frozen_of_row _ _ _ _ _ M6
      replace L6 := Lib.hid L6
      replace M6 := Lib.hid M6
      have B6 : Below W1.heap.size W1 w6 := below_then B5 f6 (by omega)
      by_cases hc : cmp2 (formL xss N (k : Int)) (leastGo xss N k) < 0
      · have hd : decide (cmp2 (formL xss N (k : Int)) (leastGo xss N k) < 0) = true := decide_eq_true hc
        replace hst := hst.out
        rw [if_pos hc] at hst
        rw [hd]
        replace hst := Lib.hid hst
        replace hc := Lib.hid hc
        have o6 := (o5.below f6 (by omega)).keep (same_set w6 ⟨w2.heap.size, 0, none⟩ (Value.slice A4 n c4) _ _ (.inl (by simp; omega)))
        rw [← hst.out] at o6
        have S6 := heap_setCell_same _ _ 0 _ _ (Value.slice A4 n c4) L6.out
        replace S6 := Lib.hid S6
        have B7 := B6.setCell (p := ⟨w2.heap.size, 0, none⟩) (by simp; omega) (Value.slice A4 n c4)
        go_wp2_with fail
        go_roundw
        case measure => simp [intOf]; omega
        case rel => exact ⟨k + 1, A4, c4, w3.heap.size, w4.heap.size, by omega, by omega, by go_num, B7, by simp; omega, Lib.hid (by simpa using S6.out), o6, by omega, by simp; omega, .inr (by omega)⟩
      · have hd : decide (cmp2 (formL xss N (k : Int)) (leastGo xss N k) < 0) = false := decide_eq_false hc
        replace hst := hst.out
        rw [if_neg hc] at hst
        rw [hd]
        replace hst := Lib.hid hst
        replace hc := Lib.hid hc
        have p6 := p5.below f6 (by omega)
        rw [← hst.out] at p6
        go_wp2_with fail
        go_roundw
        case measure => simp [intOf]; omega
        case rel => exact ⟨k + 1, A3, c3, lo3, hi3, by omega, by omega, by go_num, B6, by omega, L6, p6, by omega, by omega, hl3⟩
    · have hkn : k = N := by omega
      subst hkn
      have Qk := (hb3.block (w.heap.size + 1) (by omega)).trans hQ.out
      have qC : w3.cell? ⟨w.heap.size + 1, 0, none⟩ = some (.slice none 0 0) := (cell_of_row _ _ _ _ _ _ Qk).trans rfl
      have qF : w3.frozen? ⟨w.heap.size + 1, 0, none⟩ = false := frozen_of_row _ _ _ _ _ Qk
      have lC : w3.cell? ⟨w2.heap.size, 0, none⟩ = some (.slice A3 n c3) := (cell_of_row _ _ _ _ _ _ hL3.out).trans rfl
      have lF : w3.frozen? ⟨w2.heap.size, 0, none⟩ = false := frozen_of_row _ _ _ _ _ hL3.out
      replace Qk := Lib.hid Qk
      go_wp2_with fail
      have g2 := heap_setCell_same _ _ 0 _ _ (Value.slice A3 n c3) Qk.out
      (try simp only [Exit.inBlock, Exit.then])
      refine bodyPost_ret (v := .agg #[.slice A3 n c3]) ?_ rfl ?_
      · exact results_cell_row rfl _ _ (w.heap.size + 1) 26 #[.slice A3 n c3] (0, 0) _ rfl (by simpa using g2) Tryz.underlying26 rfl (by kernel_rfl)
      · exact ⟨A3, c3, rfl, (ho3.keep (same_set _ _ _ _ _ (.inl (by simp; omega)))).more (by omega) (by simp; omega), (hB.trans (hb3.mono (by omega))).setCell (by simp) _⟩
end Go.Proofs.YtbioelmofceaaaaGreat
/- LstX -/
namespace Go.Proofs.YtbioelmofceaaaaGreat
open Go.RowKit
set_option linter.unusedVariables false
set_option maxRecDepth 100000
set_option maxHeartbeats 4000000 in
theorem s_LeastForm_any (w : World) (A : Option Addr) (n c : Nat) (xss : List (List Int)) {lo hi : Nat} (h : RS w lo hi A n xss) (hhi : hi ≤ w.heap.size) (hnc : n ≤ c) :
    Calls Tryz.prog 7 #[.agg #[.slice A n c]] w fun e w' => ∃ (A1 : Option Addr) (n1 c1 : Nat) (zss : List (List Int)) (code : Int), e = .returned (.tuple #[.agg #[.slice A1 n1 c1], .int .i64 code]) ∧ Hid ((zss, code) = lstF xss) ∧ OwnS w' w.heap.size w'.heap.size 35 2 A1 n1 c1 zss ∧ n1 + numsIn zss ≤ 1048576 ∧ Below w.heap.size w w' := by
  have hm := h.max
  have hl := h.len
  have hR := rs_alloc (rs_alloc h hhi (.cells #[.slice A n c] 26)) (by simp; omega) (.cells #[.slice none 0 0] 26)
  have hC : ((w.alloc (.cells #[.slice A n c] 26)).alloc (.cells #[.slice none 0 0] 26)).cell? ⟨w.heap.size, 0, none⟩ = some (.slice A n c) := (al_old _ _ _ _ (by simp)).trans (al_new _ _ _ _ rfl)
  have hQ : ((w.alloc (.cells #[.slice A n c] 26)).alloc (.cells #[.slice none 0 0] 26)).heap[w.heap.size + 1]? = some (.cells #[.slice none 0 0] 26 (0, 0)) := heap_new _ _ _ (by simp)
  have hB : Below w.heap.size w ((w.alloc (.cells #[.slice A n c] 26)).alloc (.cells #[.slice none 0 0] 26)) := ((Below.refl _ _).alloc (Nat.le_refl _) _).alloc (by simp) _
  cases hM : isManB xss with
  | false =>
    have hF : lstF xss = ([], 1) := by unfold lstF; rw [hM]; rfl
    replace hF := Lib.hid hF
    replace hM := Lib.hid hM
    replace hl := Lib.hid hl
    go_enter Tryz.func7, Tryz.ntmps7
    go_wp2_with fail
    obtain ⟨W1, hW⟩ : ∃ W1 : World, (w.alloc (.cells #[.slice A n c] 26)).alloc (.cells #[.slice none 0 0] 26) = W1 := ⟨_, rfl⟩
    have hz1 : W1.heap.size = w.heap.size + 2 := by rw [← hW]; simp
    rw [hW] at hR hC hB hQ ⊢
    replace hQ := Lib.hid hQ
    clear hW h 
    ((with_reducible refine (l02Is_any A n c xss _ hR (by omega)).mono ?_); rintro e w2 ⟨rfl, f2⟩)
    rw [hM.out]
    have y2 := f2.size
    have B2 : Below W1.heap.size W1 w2 := f2
    have C2 := (f2.cell (p := ⟨w.heap.size, 0, none⟩) (by simp; omega)).trans hC
    have R2 := hR.below f2 (by omega)
    have Q2 := (B2.block (w.heap.size + 1) (by omega)).trans hQ.out
    have CQ2 : w2.cell? ⟨w.heap.size + 1, 0, none⟩ = some (.slice none 0 0) := by rw [cell_of_row _ _ _ _ _ _ Q2]; rfl
    have FQ2 : w2.frozen? ⟨w.heap.size + 1, 0, none⟩ = false := frozen_of_row _ _ _ _ _ Q2
    replace Q2 := Lib.hid Q2
    go_wp2_with fail
    have g2 := heap_setCell_same _ _ 0 _ _ (Value.slice none 0 0) Q2.out
    (try simp only [Exit.inBlock, Exit.then])
    refine bodyPost_ret (v := .tuple #[.agg #[.slice none 0 0], .int .i64 1]) ?_ rfl ?_
    · exact results_cell_row2 rfl _ _ (w.heap.size + 1) 26 #[.slice none 0 0] (0, 0) _ rfl (by simpa using g2) Tryz.underlying26 rfl (by kernel_rfl) _ rfl
    · exact ⟨_, 0, _, [], _, rfl, Lib.hid hF.out.symm, OwnS.nil, by simp [numsIn], (hB.trans (B2.mono (by omega))).setCell (by simp) _⟩
  | true =>
    have hP := isManB_iff.1 hM
    have hn1 : 1 ≤ n := by have := hP.r1; omega
    have hn5 : n ≤ 5 := by have := hP.r5; omega
    have hf2 := hP.f2
    have hf4 := hP.f4
    have hS := hP.sys
    replace hP := Lib.hid hP
    replace hS := Lib.hid hS
    have hF : lstF xss = (leastGo xss (flg xss) (flg xss), 0) := by unfold lstF; rw [if_pos hM]
    obtain ⟨g, hg, hge⟩ := leastGo_form xss (flg xss) (flg xss)
    have hnum := formL_nums (x := (g : Int)) hS.out (by omega) (by omega) hf4 (by omega)
    rw [formL_length, hl, ← hge] at hnum
    clear hg hge
    replace hF := Lib.hid hF
    replace hM := Lib.hid hM
    replace hl := Lib.hid hl
    go_enter Tryz.func7, Tryz.ntmps7
    go_wp2_with fail
    obtain ⟨W1, hW⟩ : ∃ W1 : World, (w.alloc (.cells #[.slice A n c] 26)).alloc (.cells #[.slice none 0 0] 26) = W1 := ⟨_, rfl⟩
    have hz1 : W1.heap.size = w.heap.size + 2 := by rw [← hW]; simp
    rw [hW] at hR hC hB hQ ⊢
    replace hQ := Lib.hid hQ
    clear hW h 
    ((with_reducible refine (l02Is_any A n c xss _ hR (by omega)).mono ?_); rintro e w2 ⟨rfl, f2⟩)
    rw [hM.out]
    have y2 := f2.size
    have B2 : Below W1.heap.size W1 w2 := f2
    have C2 := (f2.cell (p := ⟨w.heap.size, 0, none⟩) (by simp; omega)).trans hC
    have R2 := hR.below f2 (by omega)
    have Q2 := (B2.block (w.heap.size + 1) (by omega)).trans hQ.out
    have CQ2 : w2.cell? ⟨w.heap.size + 1, 0, none⟩ = some (.slice none 0 0) := by rw [cell_of_row _ _ _ _ _ _ Q2]; rfl
    have FQ2 : w2.frozen? ⟨w.heap.size + 1, 0, none⟩ = false := frozen_of_row _ _ _ _ _ Q2
    replace Q2 := Lib.hid Q2
    go_wp2_with fail
    ((with_reducible refine (l02Least_any _ A n c xss _ R2 (by omega) (by omega) (by omega) rfl (by omega) hf4 hS.out hP.out.conn).mono ?_); rintro e w9 ⟨A9, c9, rfl, o9, f9⟩)
    have B9 : Below W1.heap.size W1 w9 := below_then B2 f9 (by omega)
    have Q9 := (B9.block (w.heap.size + 1) (by omega)).trans hQ.out
    have CQ9 : w9.cell? ⟨w.heap.size + 1, 0, none⟩ = some (.slice none 0 0) := by rw [cell_of_row _ _ _ _ _ _ Q9]; rfl
    have FQ9 : w9.frozen? ⟨w.heap.size + 1, 0, none⟩ = false := frozen_of_row _ _ _ _ _ Q9
    replace Q9 := Lib.hid Q9
    go_wp2_with fail
    have g2 := heap_setCell_same _ _ 0 _ _ (Value.slice A9 n c9) Q9.out
    (try simp only [Exit.inBlock, Exit.then])
    refine bodyPost_ret (v := .tuple #[.agg #[.slice A9 n c9], .int .i64 0]) ?_ rfl ?_
    · exact results_cell_row2 rfl _ _ (w.heap.size + 1) 26 #[.slice A9 n c9] (0, 0) _ rfl (by simpa using g2) Tryz.underlying26 rfl (by kernel_rfl) _ rfl
    · exact ⟨A9, n, c9, _, _, rfl, Lib.hid hF.out.symm, (o9.keep (same_set _ _ _ _ _ (.inl (by simp; omega)))).more (by omega) (by simp), hnum, (hB.trans (B9.mono (by omega))).setCell (by simp) _⟩
set_option maxHeartbeats 4000000 in
theorem i_LeastForm_any (w : World) (A : Option Addr) (n c : Nat) (xss : List (List Int)) {lo hi : Nat} (h : RS w lo hi A n xss) (hhi : hi ≤ w.heap.size) (hnc : n ≤ c) :
    Calls Tryz.prog 6 #[.agg #[.slice A n c]] w fun e w' => ∃ (A1 : Option Addr) (n1 c1 : Nat) (zss : List (List Int)) (code : Int), e = .returned (.tuple #[.agg #[.slice A1 n1 c1], .int .i64 code]) ∧ Hid ((zss, code) = lstF xss) ∧ OwnS w' w.heap.size w'.heap.size 35 2 A1 n1 c1 zss ∧ n1 + numsIn zss ≤ 1048576 ∧ Below w.heap.size w w' := by
  have hm := h.max
  have hl := h.len
  have hR := rs_alloc (rs_alloc h hhi (.cells #[.slice A n c] 26)) (by simp; omega) (.cells #[.slice none 0 0] 26)
  have hC : ((w.alloc (.cells #[.slice A n c] 26)).alloc (.cells #[.slice none 0 0] 26)).cell? ⟨w.heap.size, 0, none⟩ = some (.slice A n c) := (al_old _ _ _ _ (by simp)).trans (al_new _ _ _ _ rfl)
  have hQ : ((w.alloc (.cells #[.slice A n c] 26)).alloc (.cells #[.slice none 0 0] 26)).heap[w.heap.size + 1]? = some (.cells #[.slice none 0 0] 26 (0, 0)) := heap_new _ _ _ (by simp)
  have hB : Below w.heap.size w ((w.alloc (.cells #[.slice A n c] 26)).alloc (.cells #[.slice none 0 0] 26)) := ((Below.refl _ _).alloc (Nat.le_refl _) _).alloc (by simp) _
  cases hM : isManB xss with
  | false =>
    have hF : lstF xss = ([], 1) := by unfold lstF; rw [hM]; rfl
    replace hF := Lib.hid hF
    replace hM := Lib.hid hM
    replace hl := Lib.hid hl
    go_enter Tryz.func6, Tryz.ntmps6
    go_wp2_with fail
    obtain ⟨W1, hW⟩ : ∃ W1 : World, (w.alloc (.cells #[.slice A n c] 26)).alloc (.cells #[.slice none 0 0] 26) = W1 := ⟨_, rfl⟩
    have hz1 : W1.heap.size = w.heap.size + 2 := by rw [← hW]; simp
    rw [hW] at hR hC hB hQ ⊢
    replace hQ := Lib.hid hQ
    clear hW h 
    ((with_reducible refine (isMan_any A n c xss _ hR (by omega) hnc).mono ?_); rintro e w2 ⟨rfl, f2⟩)
    rw [hM.out]
    have y2 := f2.size
    have B2 : Below W1.heap.size W1 w2 := f2
    have C2 := (f2.cell (p := ⟨w.heap.size, 0, none⟩) (by simp; omega)).trans hC
    have R2 := hR.below f2 (by omega)
    have Q2 := (B2.block (w.heap.size + 1) (by omega)).trans hQ.out
    have CQ2 : w2.cell? ⟨w.heap.size + 1, 0, none⟩ = some (.slice none 0 0) := by rw [cell_of_row _ _ _ _ _ _ Q2]; rfl
    have FQ2 : w2.frozen? ⟨w.heap.size + 1, 0, none⟩ = false := frozen_of_row _ _ _ _ _ Q2
    replace Q2 := Lib.hid Q2
    go_wp2_with fail
    have g2 := heap_setCell_same _ _ 0 _ _ (Value.slice none 0 0) Q2.out
    (try simp only [Exit.inBlock, Exit.then])
    refine bodyPost_ret (v := .tuple #[.agg #[.slice none 0 0], .int .i64 1]) ?_ rfl ?_
    · exact results_cell_row2 rfl _ _ (w.heap.size + 1) 26 #[.slice none 0 0] (0, 0) _ rfl (by simpa using g2) Tryz.underlying26 rfl (by kernel_rfl) _ rfl
    · exact ⟨_, 0, _, [], _, rfl, Lib.hid hF.out.symm, OwnS.nil, by simp [numsIn], (hB.trans (B2.mono (by omega))).setCell (by simp) _⟩
  | true =>
    have hP := isManB_iff.1 hM
    have hn1 : 1 ≤ n := by have := hP.r1; omega
    have hn5 : n ≤ 5 := by have := hP.r5; omega
    have hf2 := hP.f2
    have hf4 := hP.f4
    have hS := hP.sys
    replace hP := Lib.hid hP
    replace hS := Lib.hid hS
    have hF : lstF xss = (leastGo xss (flg xss) (flg xss), 0) := by unfold lstF; rw [if_pos hM]
    obtain ⟨g, hg, hge⟩ := leastGo_form xss (flg xss) (flg xss)
    have hnum := formL_nums (x := (g : Int)) hS.out (by omega) (by omega) hf4 (by omega)
    rw [formL_length, hl, ← hge] at hnum
    clear hg hge
    replace hF := Lib.hid hF
    replace hM := Lib.hid hM
    replace hl := Lib.hid hl
    go_enter Tryz.func6, Tryz.ntmps6
    go_wp2_with fail
    obtain ⟨W1, hW⟩ : ∃ W1 : World, (w.alloc (.cells #[.slice A n c] 26)).alloc (.cells #[.slice none 0 0] 26) = W1 := ⟨_, rfl⟩
    have hz1 : W1.heap.size = w.heap.size + 2 := by rw [← hW]; simp
    rw [hW] at hR hC hB hQ ⊢
    replace hQ := Lib.hid hQ
    clear hW h 
    ((with_reducible refine (isMan_any A n c xss _ hR (by omega) hnc).mono ?_); rintro e w2 ⟨rfl, f2⟩)
    rw [hM.out]
    have y2 := f2.size
    have B2 : Below W1.heap.size W1 w2 := f2
    have C2 := (f2.cell (p := ⟨w.heap.size, 0, none⟩) (by simp; omega)).trans hC
    have R2 := hR.below f2 (by omega)
    have Q2 := (B2.block (w.heap.size + 1) (by omega)).trans hQ.out
    have CQ2 : w2.cell? ⟨w.heap.size + 1, 0, none⟩ = some (.slice none 0 0) := by rw [cell_of_row _ _ _ _ _ _ Q2]; rfl
    have FQ2 : w2.frozen? ⟨w.heap.size + 1, 0, none⟩ = false := frozen_of_row _ _ _ _ _ Q2
    replace Q2 := Lib.hid Q2
    go_wp2_with fail
    ((with_reducible refine (leastForm_any _ A n c xss _ R2 (by omega) (by omega) (by omega) rfl (by omega) hf4 hS.out).mono ?_); rintro e w9 ⟨A9, c9, rfl, o9, f9⟩)
    have B9 : Below W1.heap.size W1 w9 := below_then B2 f9 (by omega)
    have Q9 := (B9.block (w.heap.size + 1) (by omega)).trans hQ.out
    have CQ9 : w9.cell? ⟨w.heap.size + 1, 0, none⟩ = some (.slice none 0 0) := by rw [cell_of_row _ _ _ _ _ _ Q9]; rfl
    have FQ9 : w9.frozen? ⟨w.heap.size + 1, 0, none⟩ = false := frozen_of_row _ _ _ _ _ Q9
    replace Q9 := Lib.hid Q9
    go_wp2_with fail
    have g2 := heap_setCell_same _ _ 0 _ _ (Value.slice A9 n c9) Q9.out
    (try simp only [Exit.inBlock, Exit.then])
    refine bodyPost_ret (v := .tuple #[.agg #[.slice A9 n c9], .int .i64 0]) ?_ rfl ?_
    · exact results_cell_row2 rfl _ _ (w.heap.size + 1) 26 #[.slice A9 n c9] (0, 0) _ rfl (by simpa using g2) Tryz.underlying26 rfl (by kernel_rfl) _ rfl
    · exact ⟨A9, n, c9, _, _, rfl, Lib.hid hF.out.symm, (o9.keep (same_set _ _ _ _ _ (.inl (by simp; omega)))).more (by omega) (by simp), hnum, (hB.trans (B9.mono (by omega))).setCell (by simp) _⟩
end Go.Proofs.YtbioelmofceaaaaGreat
/- RenX -/
namespace Go.Proofs.YtbioelmofceaaaaGreat
open Go.RowKit
set_option linter.unusedVariables false
set_option maxRecDepth 100000
/-- what RenumberFlags returns -/
noncomputable def renF (xss : List (List Int)) (ps : List Int) : List (List Int) × Int :=
  if isManB xss = true then (if isPermB ps = true then (if decide (ps.length = flg xss) = true then (xss.map (renL ps), 0) else ([], 2)) else ([], 2)) else ([], 1)
noncomputable def renG (xss : List (List Int)) (ps : List Int) : List (List Int) × Int :=
  if isManB xss = true then (if decide (ps.length = flg xss) = true then (if isPermB ps = true then (xss.map (renL ps), 0) else ([], 2)) else ([], 2)) else ([], 1)
theorem ren_eq (xss : List (List Int)) (ps : List Int) : renF xss ps = renG xss ps := by
  unfold renF renG
  by_cases h1 : isPermB ps = true
  · by_cases h2 : decide (ps.length = flg xss) = true
    · rw [if_pos h1, if_pos h2, if_pos h2, if_pos h1]
    · rw [if_pos h1, if_neg h2, if_neg h2]
  · by_cases h2 : decide (ps.length = flg xss) = true
    · rw [if_neg h1, if_pos h2, if_neg h1]
    · rw [if_neg h1, if_neg h2]
theorem ri_drew {w : World} {lo hi n : Nat} {A : Option Addr} {xs : List Int} (h : RI w lo hi A n xs) : RI w.drew lo hi A n xs := h.keep fun _ _ _ => rfl
theorem thenL_in {p q : List Int} {n : Nat} (hl : q.length = n) (hp : ∀ x ∈ p, 0 ≤ x ∧ x < n) (hq : ∀ x ∈ q, 0 ≤ x ∧ x < n) : ∀ x ∈ thenL p q, 0 ≤ x ∧ x < n := by
  intro x hx
  unfold thenL at hx
  obtain ⟨y, hy, rfl⟩ := List.mem_map.1 hx
  obtain ⟨h0, h1⟩ := hp y hy
  exact hq _ (mem_of_get? (get?_getD 0 (by omega)))
theorem ren_nums {xss : List (List Int)} {ps : List Int} (hl : xss.length ≤ 20) (hp : ps.length ≤ 400) : xss.length + numsIn (xss.map (renL ps)) ≤ 1048576 := by
  have := numsIn_le (xss := xss.map (renL ps)) (n := 400) (fun p hp => by
    obtain ⟨q, _, rfl⟩ := List.mem_map.1 hp
    rw [renL_length]; omega)
  rw [List.length_map] at this
  have h2 : xss.length * 400 ≤ 20 * 400 := Nat.mul_le_mul_right _ hl
  omega
set_option maxHeartbeats 4000000 in
theorem i_RenumberFlags_any (w : World) (A : Option Addr) (n c : Nat) (xss : List (List Int)) {lo hi : Nat} (h : RS w lo hi A n xss) (hhi : hi ≤ w.heap.size) (hnc : n ≤ c) (A1 : Option Addr) (n1 c1 : Nat) (ps : List Int) {lo1 hi1 : Nat} (h1 : RI w lo1 hi1 A1 n1 ps) (hhi1 : hi1 ≤ w.heap.size) :
    Calls Tryz.prog 10 #[.agg #[.slice A n c], .slice A1 n1 c1] w fun e w' => ∃ (A1 : Option Addr) (n1 c1 : Nat) (zss : List (List Int)) (code : Int), e = .returned (.tuple #[.agg #[.slice A1 n1 c1], .int .i64 code]) ∧ Hid ((zss, code) = renF xss ps) ∧ OwnS w' w.heap.size w'.heap.size 35 2 A1 n1 c1 zss ∧ n1 + numsIn zss ≤ 1048576 ∧ Below w.heap.size w w' := by
  have hm := h.max
  have hl := h.len
  have hm1 := h1.max
  have hl1 := h1.len
  obtain ⟨s0, hs0, hu0, hu1, hu2⟩ := info_parts infoS
  have hR := rs_alloc (rs_alloc h hhi (.cells #[.slice A n c] 26)) (by simp; omega) (.cells #[.slice none 0 0] 26)
  have hR_h1 : RI ((w.alloc (.cells #[.slice A n c] 26)).alloc (.cells #[.slice none 0 0] 26)) lo1 hi1 A1 n1 ps := (h1.keep (same_alloc w _ _ _ (by omega))).keep (same_alloc _ _ _ _ (by simp; omega))
  have hC : ((w.alloc (.cells #[.slice A n c] 26)).alloc (.cells #[.slice none 0 0] 26)).cell? ⟨w.heap.size, 0, none⟩ = some (.slice A n c) := (al_old _ _ _ _ (by simp)).trans (al_new _ _ _ _ rfl)
  have hQ : ((w.alloc (.cells #[.slice A n c] 26)).alloc (.cells #[.slice none 0 0] 26)).heap[w.heap.size + 1]? = some (.cells #[.slice none 0 0] 26 (0, 0)) := heap_new _ _ _ (by simp)
  have hB : Below w.heap.size w ((w.alloc (.cells #[.slice A n c] 26)).alloc (.cells #[.slice none 0 0] 26)) := ((Below.refl _ _).alloc (Nat.le_refl _) _).alloc (by simp) _
  cases hM : isManB xss with
  | false =>
    have hF : renF xss ps = ([], 1) := by unfold renF; rw [hM]; rfl
    replace hF := Lib.hid hF
    replace hM := Lib.hid hM
    replace hl := Lib.hid hl
    go_enter Tryz.func10, Tryz.ntmps10
    go_wp2_with fail
    obtain ⟨W1, hW⟩ : ∃ W1 : World, (w.alloc (.cells #[.slice A n c] 26)).alloc (.cells #[.slice none 0 0] 26) = W1 := ⟨_, rfl⟩
    have hz1 : W1.heap.size = w.heap.size + 2 := by rw [← hW]; simp
    rw [hW] at hR hR_h1 hC hB hQ ⊢
    replace hQ := Lib.hid hQ
    clear hW h h1
    ((with_reducible refine (isMan_any A n c xss _ hR (by omega) hnc).mono ?_); rintro e w2 ⟨rfl, f2⟩)
    rw [hM.out]
    have y2 := f2.size
    have B2 : Below W1.heap.size W1 w2 := f2
    have C2 := (f2.cell (p := ⟨w.heap.size, 0, none⟩) (by simp; omega)).trans hC
    have R2 := hR.below f2 (by omega)
    have R2_h1 := hR_h1.below f2 (by omega)
    have Q2 := (B2.block (w.heap.size + 1) (by omega)).trans hQ.out
    have CQ2 : w2.cell? ⟨w.heap.size + 1, 0, none⟩ = some (.slice none 0 0) := by rw [cell_of_row _ _ _ _ _ _ Q2]; rfl
    have FQ2 : w2.frozen? ⟨w.heap.size + 1, 0, none⟩ = false := frozen_of_row _ _ _ _ _ Q2
    replace Q2 := Lib.hid Q2
    go_wp2_with fail
    have g2 := heap_setCell_same _ _ 0 _ _ (Value.slice none 0 0) Q2.out
    (try simp only [Exit.inBlock, Exit.then])
    refine bodyPost_ret (v := .tuple #[.agg #[.slice none 0 0], .int .i64 1]) ?_ rfl ?_
    · exact results_cell_row2 rfl _ _ (w.heap.size + 1) 26 #[.slice none 0 0] (0, 0) _ rfl (by simpa using g2) Tryz.underlying26 rfl (by kernel_rfl) _ rfl
    · exact ⟨_, 0, _, [], _, rfl, Lib.hid hF.out.symm, OwnS.nil, by simp [numsIn], (hB.trans (B2.mono (by omega))).setCell (by simp) _⟩
  | true =>
    have hP := isManB_iff.1 hM
    have hn1 : 1 ≤ n := by have := hP.r1; omega
    have hn5 : n ≤ 5 := by have := hP.r5; omega
    have hf2 := hP.f2
    have hf4 := hP.f4
    have hS := hP.sys
    replace hP := Lib.hid hP
    replace hS := Lib.hid hS
    cases hF1 : isPermB ps with
    | false =>
      have hF : renF xss ps = ([], 2) := by unfold renF; rw [if_pos hM, hF1]; rfl
      replace hF := Lib.hid hF
      replace hM := Lib.hid hM
      replace hl := Lib.hid hl
      replace hF1 := Lib.hid hF1
      go_enter Tryz.func10, Tryz.ntmps10
      go_wp2_with fail
      obtain ⟨W1, hW⟩ : ∃ W1 : World, (w.alloc (.cells #[.slice A n c] 26)).alloc (.cells #[.slice none 0 0] 26) = W1 := ⟨_, rfl⟩
      have hz1 : W1.heap.size = w.heap.size + 2 := by rw [← hW]; simp
      rw [hW] at hR hR_h1 hC hB hQ ⊢
      replace hQ := Lib.hid hQ
      clear hW h h1
      ((with_reducible refine (isMan_any A n c xss _ hR (by omega) hnc).mono ?_); rintro e w2 ⟨rfl, f2⟩)
      rw [hM.out]
      have y2 := f2.size
      have B2 : Below W1.heap.size W1 w2 := f2
      have C2 := (f2.cell (p := ⟨w.heap.size, 0, none⟩) (by simp; omega)).trans hC
      have R2 := hR.below f2 (by omega)
      have R2_h1 := hR_h1.below f2 (by omega)
      have Q2 := (B2.block (w.heap.size + 1) (by omega)).trans hQ.out
      have CQ2 : w2.cell? ⟨w.heap.size + 1, 0, none⟩ = some (.slice none 0 0) := by rw [cell_of_row _ _ _ _ _ _ Q2]; rfl
      have FQ2 : w2.frozen? ⟨w.heap.size + 1, 0, none⟩ = false := frozen_of_row _ _ _ _ _ Q2
      replace Q2 := Lib.hid Q2
      go_wp2_with fail
      ((with_reducible refine (isPerm_any A1 n1 c1 ps _ _ _ R2_h1 (by omega)).mono ?_); rintro e w3 ⟨rfl, f3⟩)
      rw [hF1.out]
      have y3 := f3.size
      have B3 : Below W1.heap.size W1 w3 := below_then B2 f3 (by omega)
      have C3 := (f3.cell (p := ⟨w.heap.size, 0, none⟩) (by simp; omega)).trans C2
      have R3 := R2.below f3 (by omega)
      have R3_h1 := R2_h1.below f3 (by omega)
      have Q3 := (B3.block (w.heap.size + 1) (by omega)).trans hQ.out
      have CQ3 : w3.cell? ⟨w.heap.size + 1, 0, none⟩ = some (.slice none 0 0) := by rw [cell_of_row _ _ _ _ _ _ Q3]; rfl
      have FQ3 : w3.frozen? ⟨w.heap.size + 1, 0, none⟩ = false := frozen_of_row _ _ _ _ _ Q3
      replace Q3 := Lib.hid Q3
      go_wp2_with fail
      have g2 := heap_setCell_same _ _ 0 _ _ (Value.slice none 0 0) Q3.out
      (try simp only [Exit.inBlock, Exit.then])
      refine bodyPost_ret (v := .tuple #[.agg #[.slice none 0 0], .int .i64 2]) ?_ rfl ?_
      · exact results_cell_row2 rfl _ _ (w.heap.size + 1) 26 #[.slice none 0 0] (0, 0) _ rfl (by simpa using g2) Tryz.underlying26 rfl (by kernel_rfl) _ rfl
      · exact ⟨_, 0, _, [], _, rfl, Lib.hid hF.out.symm, OwnS.nil, by simp [numsIn], (hB.trans (B3.mono (by omega))).setCell (by simp) _⟩
    | true =>
      cases hF2 : decide (ps.length = flg xss) with
      | false =>
        have hF : renF xss ps = ([], 2) := by unfold renF; rw [if_pos hM, if_pos hF1, hF2]; rfl
        replace hF := Lib.hid hF
        have hq2 : ((n1 : Int) != ((flg xss : Nat) : Int)) = true := by have h9 := of_decide_eq_false hF2; simp; omega
        replace hM := Lib.hid hM
        replace hl := Lib.hid hl
        replace hF1 := Lib.hid hF1
        replace hF2 := Lib.hid hF2
        go_enter Tryz.func10, Tryz.ntmps10
        go_wp2_with fail
        obtain ⟨W1, hW⟩ : ∃ W1 : World, (w.alloc (.cells #[.slice A n c] 26)).alloc (.cells #[.slice none 0 0] 26) = W1 := ⟨_, rfl⟩
        have hz1 : W1.heap.size = w.heap.size + 2 := by rw [← hW]; simp
        rw [hW] at hR hR_h1 hC hB hQ ⊢
        replace hQ := Lib.hid hQ
        clear hW h h1
        ((with_reducible refine (isMan_any A n c xss _ hR (by omega) hnc).mono ?_); rintro e w2 ⟨rfl, f2⟩)
        rw [hM.out]
        have y2 := f2.size
        have B2 : Below W1.heap.size W1 w2 := f2
        have C2 := (f2.cell (p := ⟨w.heap.size, 0, none⟩) (by simp; omega)).trans hC
        have R2 := hR.below f2 (by omega)
        have R2_h1 := hR_h1.below f2 (by omega)
        have Q2 := (B2.block (w.heap.size + 1) (by omega)).trans hQ.out
        have CQ2 : w2.cell? ⟨w.heap.size + 1, 0, none⟩ = some (.slice none 0 0) := by rw [cell_of_row _ _ _ _ _ _ Q2]; rfl
        have FQ2 : w2.frozen? ⟨w.heap.size + 1, 0, none⟩ = false := frozen_of_row _ _ _ _ _ Q2
        replace Q2 := Lib.hid Q2
        go_wp2_with fail
        ((with_reducible refine (isPerm_any A1 n1 c1 ps _ _ _ R2_h1 (by omega)).mono ?_); rintro e w3 ⟨rfl, f3⟩)
        rw [hF1.out]
        have y3 := f3.size
        have B3 : Below W1.heap.size W1 w3 := below_then B2 f3 (by omega)
        have C3 := (f3.cell (p := ⟨w.heap.size, 0, none⟩) (by simp; omega)).trans C2
        have R3 := R2.below f3 (by omega)
        have R3_h1 := R2_h1.below f3 (by omega)
        have Q3 := (B3.block (w.heap.size + 1) (by omega)).trans hQ.out
        have CQ3 : w3.cell? ⟨w.heap.size + 1, 0, none⟩ = some (.slice none 0 0) := by rw [cell_of_row _ _ _ _ _ _ Q3]; rfl
        have FQ3 : w3.frozen? ⟨w.heap.size + 1, 0, none⟩ = false := frozen_of_row _ _ _ _ _ Q3
        replace Q3 := Lib.hid Q3
        go_wp2_with fail
        ((with_reducible refine (sizeI_any _ _ _ _ (by omega)).mono ?_); rintro e w' ⟨rfl, rfl⟩)
        go_wp2_with fail
        ((with_reducible refine (flags_any _ A n c xss _ C3 R3 (by omega)).mono ?_); rintro e w' ⟨rfl, rfl⟩)
        go_wp2_with fail
        have g2 := heap_setCell_same _ _ 0 _ _ (Value.slice none 0 0) Q3.out
        (try simp only [Exit.inBlock, Exit.then])
        refine bodyPost_ret (v := .tuple #[.agg #[.slice none 0 0], .int .i64 2]) ?_ rfl ?_
        · exact results_cell_row2 rfl _ _ (w.heap.size + 1) 26 #[.slice none 0 0] (0, 0) _ rfl (by simpa using g2) Tryz.underlying26 rfl (by kernel_rfl) _ rfl
        · exact ⟨_, 0, _, [], _, rfl, Lib.hid hF.out.symm, OwnS.nil, by simp [numsIn], (hB.trans (B3.mono (by omega))).setCell (by simp) _⟩
      | true =>
        have hq2 : ((n1 : Int) != ((flg xss : Nat) : Int)) = false := by have h9 := of_decide_eq_true hF2; simp; omega
        have hnn : n1 = flg xss := by have h9 := of_decide_eq_true hF2; omega
        replace hnn := Lib.hid hnn
        have hF : renF xss ps = (xss.map (renL ps), 0) := by unfold renF; rw [if_pos hM, if_pos hF1, if_pos hF2]
        have hpp := isPermB_iff.1 hF1
        have hnum := ren_nums (xss := xss) (ps := ps) (by omega) hpp.le
        rw [hl] at hnum
        replace hpp := Lib.hid hpp
        replace hF := Lib.hid hF
        replace hM := Lib.hid hM
        replace hl := Lib.hid hl
        replace hF1 := Lib.hid hF1
        replace hF2 := Lib.hid hF2
        replace hl1 := Lib.hid hl1
        go_enter Tryz.func10, Tryz.ntmps10
        go_wp2_with fail
        obtain ⟨W1, hW⟩ : ∃ W1 : World, (w.alloc (.cells #[.slice A n c] 26)).alloc (.cells #[.slice none 0 0] 26) = W1 := ⟨_, rfl⟩
        have hz1 : W1.heap.size = w.heap.size + 2 := by rw [← hW]; simp
        rw [hW] at hR hR_h1 hC hB hQ ⊢
        replace hQ := Lib.hid hQ
        clear hW h h1
        ((with_reducible refine (isMan_any A n c xss _ hR (by omega) hnc).mono ?_); rintro e w2 ⟨rfl, f2⟩)
        rw [hM.out]
        have y2 := f2.size
        have B2 : Below W1.heap.size W1 w2 := f2
        have C2 := (f2.cell (p := ⟨w.heap.size, 0, none⟩) (by simp; omega)).trans hC
        have R2 := hR.below f2 (by omega)
        have R2_h1 := hR_h1.below f2 (by omega)
        have Q2 := (B2.block (w.heap.size + 1) (by omega)).trans hQ.out
        have CQ2 : w2.cell? ⟨w.heap.size + 1, 0, none⟩ = some (.slice none 0 0) := by rw [cell_of_row _ _ _ _ _ _ Q2]; rfl
        have FQ2 : w2.frozen? ⟨w.heap.size + 1, 0, none⟩ = false := frozen_of_row _ _ _ _ _ Q2
        replace Q2 := Lib.hid Q2
        go_wp2_with fail
        ((with_reducible refine (isPerm_any A1 n1 c1 ps _ _ _ R2_h1 (by omega)).mono ?_); rintro e w3 ⟨rfl, f3⟩)
        rw [hF1.out]
        have y3 := f3.size
        have B3 : Below W1.heap.size W1 w3 := below_then B2 f3 (by omega)
        have C3 := (f3.cell (p := ⟨w.heap.size, 0, none⟩) (by simp; omega)).trans C2
        have R3 := R2.below f3 (by omega)
        have R3_h1 := R2_h1.below f3 (by omega)
        have Q3 := (B3.block (w.heap.size + 1) (by omega)).trans hQ.out
        have CQ3 : w3.cell? ⟨w.heap.size + 1, 0, none⟩ = some (.slice none 0 0) := by rw [cell_of_row _ _ _ _ _ _ Q3]; rfl
        have FQ3 : w3.frozen? ⟨w.heap.size + 1, 0, none⟩ = false := frozen_of_row _ _ _ _ _ Q3
        replace Q3 := Lib.hid Q3
        go_wp2_with fail
        ((with_reducible refine (sizeI_any _ _ _ _ (by omega)).mono ?_); rintro e w' ⟨rfl, rfl⟩)
        go_wp2_with fail
        ((with_reducible refine (flags_any _ A n c xss _ C3 R3 (by omega)).mono ?_); rintro e w' ⟨rfl, rfl⟩)
        have X3 := ((Below.refl w3.heap.size w3).alloc (Nat.le_refl _) (.cells #[.slice none 0 0] 26)).cell (p := ⟨w.heap.size, 0, none⟩) (by simp; omega)
        rw [C3] at X3
        go_wp2_with fail
        replace hnn := hnn.out
        subst hnn
        have g9 : (w3.alloc (.cells #[.slice none 0 0] 26)).heap[w3.heap.size]? = some (.cells #[.slice none 0 0] 26 (0, 0)) := heap_new _ _ _ rfl
        replace hq2 := Lib.hid hq2
        go_loopw [28] (fun kv wq => ∃ (k : Nat) (vs : List Value) (A2 : Option Addr) (c2 : Nat), k ≤ n ∧ vs.length = k ∧ kv = .int .i64 k ∧ Hid (wq.heap[w3.heap.size]? = some (.cells #[.slice A2 k c2] 26 (0, 0))) ∧ Own wq (w3.heap.size + 1) wq.heap.size 35 A2 k c2 vs ∧ RowsOwn wq (w3.heap.size + 1) wq.heap.size 2 vs ((xss.take k).map (renL ps)) ∧ w3.heap.size + 1 ≤ wq.heap.size ∧ Below w3.heap.size w3 wq) (fun kv _ => n - (intOf kv).toNat)
        case atStart => exact ⟨0, [], none, 0, by omega, rfl, by go_num, Lib.hid g9, Own.nil, by simpa using RowsOwn.nil, by simp, (Below.refl _ _).alloc (Nat.le_refl _) _⟩
        case round =>
          clear g9
          obtain ⟨k, vs, A2, c2, hk, hvk, rfl, g9, ho9, hrows, hz9, hb9⟩ := hrel
          have C9 : wr.cell? ⟨w3.heap.size, 0, none⟩ = some (.slice A2 k c2) := (cell_of_row _ _ _ _ _ _ g9.out).trans rfl
          have F9 : wr.frozen? ⟨w3.heap.size, 0, none⟩ = false := frozen_of_row _ _ _ _ _ g9.out
          have y9 := hb9.size
          have R9 := R3.below hb9 (by omega)
          have R9_h1 := R3_h1.below hb9 (by omega)
          by_cases hkm : k < n
          · obtain ⟨bb, oo, Ak, nk, ck, M, rfl, _, _, hM, hMc, hMr⟩ := R9.at_ hkm
            have hMm := mem_of_get? hM
            obtain ⟨hM0, hMn, hMl⟩ := hS.out M hMm
            have hnk := hMr.len
            have hkk : nk = flg xss := by omega
            rw [hkk] at hMc hMr
            clear hkk hnk
            have htk := take_succ_of hM
            have hpl := hl1.out
            have hip := invL_perm hpp.out
            have hir := hip.rng
            rw [invL_length, hpl] at hir
            have htr := thenL_in hMl hir hM0
            replace hM := Lib.hid hM
            replace hMm := Lib.hid hMm
            replace hMn := Lib.hid hMn
            replace htk := Lib.hid htk
            replace hM0 := Lib.hid hM0
            replace hMl := Lib.hid hMl
            replace hip := Lib.hid hip
            replace hpl := Lib.hid hpl
            obtain ⟨wo, rfl⟩ : ∃ wo : World, wo = wr := ⟨_, rfl⟩
            have hInv := inverse_any A1 (flg xss) c1 ps wo.drew _ _ (ri_drew R9_h1) (show _ ≤ wo.heap.size by omega) (by omega) (hpl.out ▸ hpp.out.rng) hpp.out.nd
            replace hir := Lib.hid hir
            replace htr := Lib.hid htr
            go_wp2_with fail
            go_region_law (first | (refine step_append_lies _ (by rfl) (.tmp 33) (.tmp 40) 24 (by rfl) (w3.heap.size + 1) 35 s0 (.slice none 0 0) 1 24 Tryz.underlying24 hs0 hu0 hu1 hu2 rfl (by decide) (.slice A2 k c2) k vs (by rfl) ho8.out ⟨w7.heap.size, 0, none⟩ 1 1 [.slice A7 (flg xss) (flg xss)] (by rfl) rfl hnew.out (by simp [Value.oneCell']) (by decide) (by simp only [maxLen]; omega) (by omega) (by simp; omega) (w7.heap.size + 1) (by simp) ?_; intro g4 c4 w8 hr8 hg8 hor8 hlt8; have g8 := (hg8.block w3.heap.size (by simp; omega) (fun e => by have := (ho8.out.lt _ e.symm).1; omega)).trans (((f7b.alloc (by omega) _).block w3.heap.size (by omega)).trans g9.out); have K8 : w8.cell? ⟨w3.heap.size, 0, none⟩ = some (.slice A2 k c2) := (cell_of_row _ _ _ _ _ _ g8).trans rfl; have F8 : w8.frozen? ⟨w3.heap.size, 0, none⟩ = false := frozen_of_row _ _ _ _ _ g8; replace g8 := Lib.hid g8) | (go_simp; (first | (go_at_call_of 33 (Value.slice A6 (flg xss) (flg xss)); refine hT2.mono ?_; rintro e w7 ⟨A7, rfl, o7, f7⟩; have y7 := f7.size; have f7b : Below wo.heap.size wo w7 := below_then f6b f7 (by omega); have K7 := (f7b.cell (p := ⟨w3.heap.size, 0, none⟩) (by simp; omega)).trans C9; have K7b : (w7.alloc (.cells #[.slice A7 (flg xss) (flg xss)] 35)).cell? ⟨w3.heap.size, 0, none⟩ = some (.slice A2 k c2) := ((f7b.alloc (B := wo.heap.size) (by omega) _).cell (p := ⟨w3.heap.size, 0, none⟩) (by simp; omega)).trans C9; have ho8 := Lib.hid ((ho9.below f7b (Nat.le_refl _)).1.alloc (.cells #[.slice A7 (flg xss) (flg xss)] 35)); have hnew := Lib.hid (World.news_of_block (cs := #[.slice A7 (flg xss) (flg xss)]) (t := 35) (fr := (0, 0)) (heap_alloc_new w7 _))) | (go_at_call_of 33 (Value.slice A5 (flg xss) (flg xss)); refine hT1.mono ?_; rintro e w6 ⟨A6, rfl, o6, f6⟩; have y6 := f6.size; have f6b : Below wo.heap.size wo w6 := below_then f5 f6 (by omega); have K6 := (f6b.cell (p := ⟨w3.heap.size, 0, none⟩) (by simp; omega)).trans C9; have hT2 := then_any A6 (flg xss) (flg xss) (thenL (invL ps) M) A1 (flg xss) c1 ps w6 o6.ri (Nat.le_refl _) (R9_h1.below f6b (by omega)) (by omega) (by omega) htr.out) | (go_at_call 34; refine hInv.mono ?_; rintro e w5 ⟨A5, rfl, o5, f5⟩; have f5 : Below wo.heap.size wo w5 := ⟨f5.os, f5.tape, f5.output, f5.size, f5.block⟩; have y5 := f5.size; have o5 : Own w5 wo.heap.size w5.heap.size _ _ _ _ _ := o5; have K5 := (f5.cell (p := ⟨w3.heap.size, 0, none⟩) (by simp; omega)).trans C9; have hT1 := then_any A5 (flg xss) (flg xss) (invL ps) Ak (flg xss) ck M w5 o5.ri (Nat.le_refl _) (hMr.below f5 (by omega)) (by omega) (by omega) hir.out))))
            all_goals
              have y8 := hg8.size
              have B8 : Below w3.heap.size w3 w8 := (hb9.trans ((f7b.alloc (by omega) _).mono (by omega))).grown hg8 (by simp; omega) (fun q hq => by have := (ho8.out.lt q hq).1; omega)
              have o7b : Own (w7.alloc (.cells #[.slice A7 (flg xss) (flg xss)] 35)) w6.heap.size w7.heap.size _ _ _ _ _ := o7.keep (same_alloc _ _ _ _ (Nat.le_refl _))
              have hrowsb := (hrows.keep (Same.of_below f7b (Nat.le_refl _))).keep (same_alloc w7 (.cells #[.slice A7 (flg xss) (flg xss)] 35) _ _ (by omega))
              have hrw8 := (hrowsb.kept_ty ho8.out (by decide) hg8).snoc ((o7b.kept_ty ho8.out (by decide) hg8).more (show wo.heap.size ≤ _ by omega) (show _ ≤ w7.heap.size by omega)) (by omega) (by omega)
              have ho8b := Own.of_row hr8
              have hz8 : w7.heap.size + 1 ≤ w8.heap.size := by have := y8; simpa using this
              clear C9 F9 hg8 hr8 ho8 ho9 hrows hrowsb 
              go_wp2_with fail
              go_roundw
              case measure => simp [intOf]; omega
              case rel =>
                refine ⟨k + 1, vs ++ [.slice A7 (flg xss) (flg xss)], _, c4, by omega, by simp; omega, by go_num, Lib.hid ?_, (ho8b.far (.inl (by simp)) _).more (Nat.le_refl _) (by simp), ?_, by simp; omega, B8.setCell (by simp) _⟩
                · have := heap_setCell_same _ _ 0 _ _ (Value.slice (some ⟨g4, 0, none⟩) (k + 1) c4) g8.out
                  simpa using this
                · rw [htk.out, List.map_append, List.map_singleton]
                  exact (hrw8.keep (same_set _ _ _ _ _ (.inl (by simp)))).more (Nat.le_refl _) (by simp; omega)
          · have hkm2 : k = n := by omega
            subst hkm2
            have e9 : xss.take k = xss := List.take_of_length_le (by have := hl.out; omega)
            rw [e9] at hrows
            have B9 : Below W1.heap.size W1 wr := below_then B3 hb9 (by omega)
            clear hb9
            have Q9 := (B9.block (w.heap.size + 1) (by omega)).trans hQ.out
            have CQ9 : wr.cell? ⟨w.heap.size + 1, 0, none⟩ = some (.slice none 0 0) := by rw [cell_of_row _ _ _ _ _ _ Q9]; rfl
            have FQ9 : wr.frozen? ⟨w.heap.size + 1, 0, none⟩ = false := frozen_of_row _ _ _ _ _ Q9
            replace Q9 := Lib.hid Q9
            go_wp2_with fail
            have g2 := heap_setCell_same _ _ 0 _ _ (Value.slice A2 k c2) Q9.out
            (try simp only [Exit.inBlock, Exit.then])
            refine bodyPost_ret (v := .tuple #[.agg #[.slice A2 k c2], .int .i64 0]) ?_ rfl ?_
            · exact results_cell_row2 rfl _ _ (w.heap.size + 1) 26 #[.slice A2 k c2] (0, 0) _ rfl (by simpa using g2) Tryz.underlying26 rfl (by kernel_rfl) _ rfl
            · exact ⟨A2, k, c2, _, _, rfl, Lib.hid hF.out.symm, ⟨vs, ((ho9.keep (same_set _ _ _ _ _ (.inl (by simp; omega)))).more (by omega) (by simp)), ((hrows.keep (same_set _ _ _ _ _ (.inl (by simp; omega)))).more (by omega) (by simp))⟩, hnum, (hB.trans (B9.mono (by omega))).setCell (by simp) _⟩
end Go.Proofs.YtbioelmofceaaaaGreat
/- FormX -/
namespace Go.Proofs.YtbioelmofceaaaaGreat
open Go.RowKit
set_option linter.unusedVariables false
set_option maxRecDepth 100000
/-- what FormFrom returns -/
noncomputable def formF (xss : List (List Int)) (x : Int) : List (List Int) × Int :=
  if isManB xss = true then (if inR 0 ((flg xss : Nat) - 1 : Int) x = true then (formL xss (flg xss) x, 0) else ([], 2)) else ([], 1)
set_option maxHeartbeats 4000000 in
theorem i_FormFrom_any (w : World) (A : Option Addr) (n c : Nat) (xss : List (List Int)) {lo hi : Nat} (h : RS w lo hi A n xss) (hhi : hi ≤ w.heap.size) (hnc : n ≤ c) (x : Int) (hx : -9223372036854775808 ≤ x ∧ x ≤ 9223372036854775807) :
    Calls Tryz.prog 13 #[.agg #[.slice A n c], .int .i64 x] w fun e w' => ∃ (A1 : Option Addr) (n1 c1 : Nat) (zss : List (List Int)) (code : Int), e = .returned (.tuple #[.agg #[.slice A1 n1 c1], .int .i64 code]) ∧ Hid ((zss, code) = formF xss x) ∧ OwnS w' w.heap.size w'.heap.size 35 2 A1 n1 c1 zss ∧ n1 + numsIn zss ≤ 1048576 ∧ Below w.heap.size w w' := by
  have hm := h.max
  have hl := h.len
  obtain ⟨hx0, hx1⟩ := hx
  have hR := rs_alloc (rs_alloc h hhi (.cells #[.slice A n c] 26)) (by simp; omega) (.cells #[.slice none 0 0] 26)
  have hC : ((w.alloc (.cells #[.slice A n c] 26)).alloc (.cells #[.slice none 0 0] 26)).cell? ⟨w.heap.size, 0, none⟩ = some (.slice A n c) := (al_old _ _ _ _ (by simp)).trans (al_new _ _ _ _ rfl)
  have hQ : ((w.alloc (.cells #[.slice A n c] 26)).alloc (.cells #[.slice none 0 0] 26)).heap[w.heap.size + 1]? = some (.cells #[.slice none 0 0] 26 (0, 0)) := heap_new _ _ _ (by simp)
  have hB : Below w.heap.size w ((w.alloc (.cells #[.slice A n c] 26)).alloc (.cells #[.slice none 0 0] 26)) := ((Below.refl _ _).alloc (Nat.le_refl _) _).alloc (by simp) _
  cases hM : isManB xss with
  | false =>
    have hF : formF xss x = ([], 1) := by unfold formF; rw [hM]; rfl
    replace hF := Lib.hid hF
    replace hM := Lib.hid hM
    replace hl := Lib.hid hl
    go_enter Tryz.func13, Tryz.ntmps13
    go_wp2_with fail
    obtain ⟨W1, hW⟩ : ∃ W1 : World, (w.alloc (.cells #[.slice A n c] 26)).alloc (.cells #[.slice none 0 0] 26) = W1 := ⟨_, rfl⟩
    have hz1 : W1.heap.size = w.heap.size + 2 := by rw [← hW]; simp
    rw [hW] at hR hC hB hQ ⊢
    replace hQ := Lib.hid hQ
    clear hW h 
    ((with_reducible refine (isMan_any A n c xss _ hR (by omega) hnc).mono ?_); rintro e w2 ⟨rfl, f2⟩)
    rw [hM.out]
    have y2 := f2.size
    have B2 : Below W1.heap.size W1 w2 := f2
    have C2 := (f2.cell (p := ⟨w.heap.size, 0, none⟩) (by simp; omega)).trans hC
    have R2 := hR.below f2 (by omega)
    have Q2 := (B2.block (w.heap.size + 1) (by omega)).trans hQ.out
    have CQ2 : w2.cell? ⟨w.heap.size + 1, 0, none⟩ = some (.slice none 0 0) := by rw [cell_of_row _ _ _ _ _ _ Q2]; rfl
    have FQ2 : w2.frozen? ⟨w.heap.size + 1, 0, none⟩ = false := frozen_of_row _ _ _ _ _ Q2
    replace Q2 := Lib.hid Q2
    go_wp2_with fail
    have g2 := heap_setCell_same _ _ 0 _ _ (Value.slice none 0 0) Q2.out
    (try simp only [Exit.inBlock, Exit.then])
    refine bodyPost_ret (v := .tuple #[.agg #[.slice none 0 0], .int .i64 1]) ?_ rfl ?_
    · exact results_cell_row2 rfl _ _ (w.heap.size + 1) 26 #[.slice none 0 0] (0, 0) _ rfl (by simpa using g2) Tryz.underlying26 rfl (by kernel_rfl) _ rfl
    · exact ⟨_, 0, _, [], _, rfl, Lib.hid hF.out.symm, OwnS.nil, by simp [numsIn], (hB.trans (B2.mono (by omega))).setCell (by simp) _⟩
  | true =>
    have hP := isManB_iff.1 hM
    have hn1 : 1 ≤ n := by have := hP.r1; omega
    have hn5 : n ≤ 5 := by have := hP.r5; omega
    have hf2 := hP.f2
    have hf4 := hP.f4
    have hS := hP.sys
    replace hP := Lib.hid hP
    replace hS := Lib.hid hS
    cases hF1 : inR 0 ((flg xss : Nat) - 1 : Int) x with
    | false =>
      have hF : formF xss x = ([], 2) := by unfold formF; rw [if_pos hM, hF1]; rfl
      replace hF := Lib.hid hF
      replace hM := Lib.hid hM
      replace hl := Lib.hid hl
      replace hF1 := Lib.hid hF1
      go_enter Tryz.func13, Tryz.ntmps13
      go_wp2_with fail
      obtain ⟨W1, hW⟩ : ∃ W1 : World, (w.alloc (.cells #[.slice A n c] 26)).alloc (.cells #[.slice none 0 0] 26) = W1 := ⟨_, rfl⟩
      have hz1 : W1.heap.size = w.heap.size + 2 := by rw [← hW]; simp
      rw [hW] at hR hC hB hQ ⊢
      replace hQ := Lib.hid hQ
      clear hW h 
      ((with_reducible refine (isMan_any A n c xss _ hR (by omega) hnc).mono ?_); rintro e w2 ⟨rfl, f2⟩)
      rw [hM.out]
      have y2 := f2.size
      have B2 : Below W1.heap.size W1 w2 := f2
      have C2 := (f2.cell (p := ⟨w.heap.size, 0, none⟩) (by simp; omega)).trans hC
      have R2 := hR.below f2 (by omega)
      have Q2 := (B2.block (w.heap.size + 1) (by omega)).trans hQ.out
      have CQ2 : w2.cell? ⟨w.heap.size + 1, 0, none⟩ = some (.slice none 0 0) := by rw [cell_of_row _ _ _ _ _ _ Q2]; rfl
      have FQ2 : w2.frozen? ⟨w.heap.size + 1, 0, none⟩ = false := frozen_of_row _ _ _ _ _ Q2
      replace Q2 := Lib.hid Q2
      go_wp2_with fail
      ((with_reducible refine (hasFlag_any _ A n c xss x _ C2 R2 (by omega) hf4).mono ?_); rintro e w' ⟨rfl, rfl⟩)
      rw [hF1.out]
      go_wp2_with fail
      have g2 := heap_setCell_same _ _ 0 _ _ (Value.slice none 0 0) Q2.out
      (try simp only [Exit.inBlock, Exit.then])
      refine bodyPost_ret (v := .tuple #[.agg #[.slice none 0 0], .int .i64 2]) ?_ rfl ?_
      · exact results_cell_row2 rfl _ _ (w.heap.size + 1) 26 #[.slice none 0 0] (0, 0) _ rfl (by simpa using g2) Tryz.underlying26 rfl (by kernel_rfl) _ rfl
      · exact ⟨_, 0, _, [], _, rfl, Lib.hid hF.out.symm, OwnS.nil, by simp [numsIn], (hB.trans (B2.mono (by omega))).setCell (by simp) _⟩
    | true =>
      obtain ⟨hxa, hxb⟩ := inR_iff.1 hF1
      have hxc : x < (flg xss : Nat) := by omega
      have hF : formF xss x = (formL xss (flg xss) x, 0) := by unfold formF; rw [if_pos hM, if_pos hF1]
      have hnum := formL_nums hS.out hxa hxc hf4 (by omega)
      rw [formL_length, hl] at hnum
      replace hF := Lib.hid hF
      replace hM := Lib.hid hM
      replace hl := Lib.hid hl
      replace hF1 := Lib.hid hF1
      go_enter Tryz.func13, Tryz.ntmps13
      go_wp2_with fail
      obtain ⟨W1, hW⟩ : ∃ W1 : World, (w.alloc (.cells #[.slice A n c] 26)).alloc (.cells #[.slice none 0 0] 26) = W1 := ⟨_, rfl⟩
      have hz1 : W1.heap.size = w.heap.size + 2 := by rw [← hW]; simp
      rw [hW] at hR hC hB hQ ⊢
      replace hQ := Lib.hid hQ
      clear hW h 
      ((with_reducible refine (isMan_any A n c xss _ hR (by omega) hnc).mono ?_); rintro e w2 ⟨rfl, f2⟩)
      rw [hM.out]
      have y2 := f2.size
      have B2 : Below W1.heap.size W1 w2 := f2
      have C2 := (f2.cell (p := ⟨w.heap.size, 0, none⟩) (by simp; omega)).trans hC
      have R2 := hR.below f2 (by omega)
      have Q2 := (B2.block (w.heap.size + 1) (by omega)).trans hQ.out
      have CQ2 : w2.cell? ⟨w.heap.size + 1, 0, none⟩ = some (.slice none 0 0) := by rw [cell_of_row _ _ _ _ _ _ Q2]; rfl
      have FQ2 : w2.frozen? ⟨w.heap.size + 1, 0, none⟩ = false := frozen_of_row _ _ _ _ _ Q2
      replace Q2 := Lib.hid Q2
      go_wp2_with fail
      ((with_reducible refine (hasFlag_any _ A n c xss x _ C2 R2 (by omega) hf4).mono ?_); rintro e w' ⟨rfl, rfl⟩)
      rw [hF1.out]
      go_wp2_with fail
      ((with_reducible refine (formFrom_any (flg xss) A n c xss x _ R2 (by omega) (by omega) (by omega) hf4 hS.out hxa hxc).mono ?_); rintro e w9 ⟨A9, c9, rfl, o9, f9⟩)
      have B9 : Below W1.heap.size W1 w9 := below_then B2 f9 (by omega)
      have Q9 := (B9.block (w.heap.size + 1) (by omega)).trans hQ.out
      have CQ9 : w9.cell? ⟨w.heap.size + 1, 0, none⟩ = some (.slice none 0 0) := by rw [cell_of_row _ _ _ _ _ _ Q9]; rfl
      have FQ9 : w9.frozen? ⟨w.heap.size + 1, 0, none⟩ = false := frozen_of_row _ _ _ _ _ Q9
      replace Q9 := Lib.hid Q9
      go_wp2_with fail
      have g2 := heap_setCell_same _ _ 0 _ _ (Value.slice A9 n c9) Q9.out
      (try simp only [Exit.inBlock, Exit.then])
      refine bodyPost_ret (v := .tuple #[.agg #[.slice A9 n c9], .int .i64 0]) ?_ rfl ?_
      · exact results_cell_row2 rfl _ _ (w.heap.size + 1) 26 #[.slice A9 n c9] (0, 0) _ rfl (by simpa using g2) Tryz.underlying26 rfl (by kernel_rfl) _ rfl
      · exact ⟨A9, n, c9, _, _, rfl, Lib.hid hF.out.symm, (o9.keep (same_set _ _ _ _ _ (.inl (by simp; omega)))).more (by omega) (by simp), hnum, (hB.trans (B9.mono (by omega))).setCell (by simp) _⟩
end Go.Proofs.YtbioelmofceaaaaGreat
/- ColP -/
namespace Go.Proofs.YtbioelmofceaaaaGreat
set_option linter.unusedVariables false
set_option maxRecDepth 100000
/-- the move p changes the parity at y -/
def edgeB (D : List Int) (y : Int) (p : List Int) : Bool := decide (dat D (at' p y) % 2 ≠ dat D y % 2)
def edgesB (xss : List (List Int)) (D : List Int) (y : Int) : Bool := xss.all (edgeB D y)
/-- all moves change all parities -/
def colB (xss : List (List Int)) (n : Nat) (D : List Int) : Bool := (List.range n).all fun y => edgesB xss D (y : Int)
/-- what the reference hands out: no colours, where there is no colouring -/
def colZ (xss : List (List Int)) (n : Nat) (D : List Int) : List Int := if colB xss n D = true then D.map (· % 2) else []
def parL (D : List Int) : List Int := D.map (· % 2)
/-- the colours c are the parities of the distances d so far -/
def Col (n : Nat) (d c : List Int) : Prop := d.length = n ∧ c.length = n ∧ ∀ z : Int, 0 ≤ z → z < n → dat c z = if dat d z < 0 then -1 else dat d z % 2
theorem dat_start {n : Nat} {x z : Int} (h0 : 0 ≤ x) (h1 : x < n) (g0 : 0 ≤ z) (g1 : z < n) : dat (dstart n x).1 z = if z = x then 0 else -1 := by
  unfold dstart
  by_cases e : z = x
  · subst e; rw [if_pos rfl]; exact dat_set_eq (n := n) (by simp) h0 h1
  · rw [if_neg e, dat_set_ne h0 g0 e]
    unfold dat
    simp [List.getD, show z.toNat < n by omega]
theorem Col.start {n : Nat} {x : Int} (h0 : 0 ≤ x) (h1 : x < n) : Col n (dstart n x).1 (dstart n x).1 := by
  refine ⟨by simp [dstart], by simp [dstart], fun z g0 g1 => ?_⟩
  rw [dat_start h0 h1 g0 g1]
  by_cases e : z = x
  · simp [e]
  · simp [e]
theorem Col.set {n : Nat} {d c : List Int} {g y : Int} (h : Col n d c) (g0 : 0 ≤ g) (g1 : g < n) (y0 : 0 ≤ y) (y1 : y < n) (hy : 0 ≤ dat d y) : Col n (d.set g.toNat (dat d y + 1)) (c.set g.toNat (1 - dat c y)) := by
  obtain ⟨hd, hc, hh⟩ := h
  refine ⟨by simp [hd], by simp [hc], fun z z0 z1 => ?_⟩
  by_cases e : z = g
  · subst e
    rw [dat_set_eq hc g0 g1, dat_set_eq hd g0 g1, hh y y0 y1, if_neg (by omega), if_neg (by omega)]
    omega
  · rw [dat_set_ne g0 z0 e, dat_set_ne g0 z0 e]
    exact hh z z0 z1
theorem Col.neg {n : Nat} {d c : List Int} {z : Int} (h : Col n d c) (z0 : 0 ≤ z) (z1 : z < n) : dat c z < 0 ↔ dat d z < 0 := by
  rw [h.2.2 z z0 z1]
  split <;> omega
theorem Col.val {n : Nat} {d c : List Int} {z : Int} (h : Col n d c) (z0 : 0 ≤ z) (z1 : z < n) (hz : 0 ≤ dat d z) : dat c z = dat d z % 2 := by
  rw [h.2.2 z z0 z1, if_neg (by omega)]
theorem Col.end_ {n : Nat} {d c : List Int} (h : Col n d c) (hall : ∀ z : Int, 0 ≤ z → z < n → 0 ≤ dat d z) : c = parL d := by
  unfold parL
  refine List.ext_getElem? fun k => ?_
  by_cases hk : k < n
  · have h1 := get?_getD (xs := c) (k := k) 0 (by have := h.2.1; omega)
    have h2 := get?_getD (xs := d) (k := k) 0 (by have := h.1; omega)
    rw [h1, List.getElem?_map, h2]
    have := h.val (z := (k : Int)) (by omega) (by omega) (hall k (by omega) (by omega))
    unfold dat at this
    rw [Int.toNat_natCast] at this
    rw [this]
    rfl
  · rw [List.getElem?_eq_none (by have := h.2.1; omega), List.getElem?_eq_none (by simp; have := h.1; omega)]
theorem dMove_keep {list : List (List Int)} {n : Nat} {x y : Int} {p : List Int} {s : List Int × List Int} {i : Nat} (hs : SysOf list n) (h : DMet list n x s.1 s.2 i) (hy : s.2[i]? = some y) (hp : p ∈ list) {z : Int} (hz : z ∈ s.2) : dat (dMove y s p).1 z = dat s.1 z := by
  have hyr := h.met.rng y (mem_of_get? hy)
  obtain ⟨g0, g1⟩ := at'_rng (hs p hp).1 (hs p hp).2.2 hyr.1 hyr.2
  unfold dMove
  split
  · rename_i hn
    exact dat_set_ne g0 (h.met.rng z hz).1 (fun e => by subst e; have := (h.datn hz).1; omega)
  · rfl
theorem dStep_keep {list : List (List Int)} {n : Nat} {x y : Int} {i : Nat} (hs : SysOf list n) {z : Int} : ∀ (ps : List (List Int)) (s : List Int × List Int), (∀ p ∈ ps, p ∈ list) → DMet list n x s.1 s.2 i → s.2[i]? = some y → z ∈ s.2 → dat (dStep ps y s).1 z = dat s.1 z := by
  intro ps
  induction ps with
  | nil => intro s _ _ _ _; rfl
  | cons p t ih =>
    intro s hps h hy hz
    obtain ⟨h1, h2, h3, h4⟩ := dMove_spec hs h hy (hps p (by simp))
    have := ih (dMove y s p) (fun q hq => hps q (by simp [hq])) h1 h2 (h4 z hz)
    rw [dMove_keep hs h hy (hps p (by simp)) hz] at this
    exact this
theorem dGo_keep {list : List (List Int)} {n : Nat} {x : Int} (hs : SysOf list n) {z : Int} : ∀ (f : Nat) (s : List Int × List Int) (i : Nat), DMet list n x s.1 s.2 i → z ∈ s.2 → dat (dGo list f s i).1 z = dat s.1 z := by
  intro f
  induction f with
  | zero => intro s i _ _; rfl
  | succ f ih =>
    intro s i h hz
    cases hx : s.2[i]? with
    | none => rw [dGo_stop (List.getElem?_eq_none_iff.1 hx)]
    | some y =>
      rw [dGo_step hx, ih _ _ (dStep_next hs h hx) ((dStep_spec hs list s (fun _ h => h) h hx).2.2.2 z hz)]
      exact dStep_keep hs list s (fun _ h => h) h hx hz
/-- distances that are known stay -/
theorem final_keep {list : List (List Int)} {n : Nat} {x y : Int} {i f k : Nat} {s : List Int × List Int} (hs : SysOf list n) (h : DMet list n x s.1 s.2 i) (hy : s.2[i]? = some y) {z : Int} (hz : z ∈ (dStep (list.take k) y s).2) :
    dat (dGo list (f + 1) s i).1 z = dat (dStep (list.take k) y s).1 z := by
  obtain ⟨h1, h2, _, _⟩ := dStep_spec hs (list.take k) s (fun _ h => mem_of_take h) h hy
  have e : dStep list y s = dStep (list.drop k) y (dStep (list.take k) y s) := by
    unfold dStep
    rw [← List.foldl_append, List.take_append_drop]
  have hd : ∀ p ∈ list.drop k, p ∈ list := fun p hp => List.mem_of_mem_drop hp
  rw [dGo_step hy, dGo_keep hs _ _ _ (dStep_next hs h hy), e]
  · exact dStep_keep hs _ _ hd h1 h2 hz
  · rw [e]; exact (dStep_spec hs (list.drop k) _ hd h1 h2).2.2.2 z hz
theorem all_out {list : List (List Int)} {n : Nat} {x : Int} {out : List Int} (hm : Met list n x out) (hl : n ≤ out.length) (f : Int → Bool) : out.all f = (List.range n).all fun (y : Nat) => f (y : Int) := by
  rw [Bool.eq_iff_iff, List.all_eq_true, List.all_eq_true]
  constructor
  · intro h y hy
    refine h y (mem_of_full hm.nd (fun a ha => mem_ints.2 (hm.rng a ha)) (by simpa using hl) (mem_ints.2 ⟨by omega, by have := List.mem_range.1 hy; omega⟩))
  · intro h y hy
    have := hm.rng y hy
    have h2 := h y.toNat (by rw [List.mem_range]; omega)
    rwa [Int.toNat_of_nonneg this.1] at h2
theorem met_full {n : Nat} {out : List Int} (hc : ∀ z : Int, 0 ≤ z → z < n → z ∈ out) : n ≤ out.length := by
  have := nodup_sub_len ((List.range n).map Int.ofNat) out (by
    rw [List.nodup_iff_pairwise_ne, List.pairwise_map]
    refine List.pairwise_lt_range.imp ?_
    intro a b h e
    have e : (a : Int) = b := e
    have : a < b := h
    omega) (fun a ha => by obtain ⟨g1, g2⟩ := mem_ints.1 ha; exact hc a g1 g2)
  simpa using this
theorem all_take_succ {α : Type} {xs : List α} {k : Nat} {x : α} {f : α → Bool} (h : xs[k]? = some x) : (xs.take (k + 1)).all f = ((xs.take k).all f && f x) := by
  rw [take_succ_of h, List.all_append]; simp
theorem edge_new {list : List (List Int)} {n : Nat} {x y : Int} {p d out D : List Int} {i : Nat} (hs : SysOf list n) (h : DMet list n x d out i) (hy : out[i]? = some y) (hp : p ∈ list) (hn : dat d (at' p y) < 0)
    (hD : ∀ z ∈ (dMove y (d, out) p).2, dat D z = dat (dMove y (d, out) p).1 z) : edgeB D y p = true := by
  have hyr := h.met.rng y (mem_of_get? hy)
  obtain ⟨g0, g1⟩ := at'_rng (hs p hp).1 (hs p hp).2.2 hyr.1 hyr.2
  have hyd := (h.datn (mem_of_get? hy)).1
  unfold dMove at hD
  rw [if_pos hn] at hD
  have h1 := hD (at' p y) (by simp)
  have h2 := hD y (List.mem_append_left _ (mem_of_get? hy))
  rw [dat_set_eq h.dl g0 g1] at h1
  rw [dat_set_ne g0 hyr.1 (fun e => by rw [← e] at hn; omega)] at h2
  unfold edgeB
  rw [h1, h2]
  exact decide_eq_true (by omega)
theorem edge_old {list : List (List Int)} {n : Nat} {x y : Int} {p d out D : List Int} {i : Nat} (hs : SysOf list n) (h : DMet list n x d out i) (hy : out[i]? = some y) (hp : p ∈ list) (hn : ¬ dat d (at' p y) < 0)
    (hD : ∀ z ∈ (dMove y (d, out) p).2, dat D z = dat (dMove y (d, out) p).1 z) : edgeB D y p = decide (dat d (at' p y) % 2 ≠ dat d y % 2) := by
  have hyr := h.met.rng y (mem_of_get? hy)
  obtain ⟨g0, g1⟩ := at'_rng (hs p hp).1 (hs p hp).2.2 hyr.1 hyr.2
  unfold dMove at hD
  rw [if_neg hn] at hD
  have h1 := hD (at' p y) ((h.pos _ g0 g1).1 (by omega))
  have h2 := hD y (mem_of_get? hy)
  unfold edgeB
  rw [h1, h2]
theorem edges_snoc {xss : List (List Int)} {k : Nat} {p : List Int} {pre : List Int} {D : List Int} {y : Int} {o : Bool} (hp : xss[k]? = some p) (ho : o = (pre.all (edgesB xss D) && (xss.take k).all (edgeB D y))) : (o && edgeB D y p) = (pre.all (edgesB xss D) && (xss.take (k + 1)).all (edgeB D y)) := by
  rw [all_take_succ hp, ho, Bool.and_assoc]
theorem edges_next {xss : List (List Int)} {pre : List Int} {D : List Int} {y : Int} {o : Bool} (ho : o = (pre.all (edgesB xss D) && xss.all (edgeB D y))) : o = (pre ++ [y]).all (edgesB xss D) := by
  rw [ho, List.all_append]; simp [edgesB]
end Go.Proofs.YtbioelmofceaaaaGreat
/- FwP -/
namespace Go.Proofs.YtbioelmofceaaaaGreat
set_option linter.unusedVariables false
set_option maxRecDepth 100000
theorem all_take_succ' {α : Type} {xs : List α} {k : Nat} {x : α} {f : α → Bool} (h : xs[k]? = some x) : (xs.take (k + 1)).all f = ((xs.take k).all f && f x) := by
  rw [take_succ_of h, List.all_append]; simp
/-- the first move that leads nearer -/
def nearB (D : List Int) (f : Int) (p : List Int) : Bool := decide (dat D (at' p f) < dat D f)
def stepK (xss : List (List Int)) (D : List Int) (f : Int) : Nat := xss.findIdx (nearB D f)
def fwL (xss : List (List Int)) (D : List Int) : Nat → Int → List Int
  | 0, _ => []
  | d + 1, f => (stepK xss D f : Int) :: fwL xss D d (at' (xss.getD (stepK xss D f) []) f)
theorem fwL_length (xss : List (List Int)) (D : List Int) : ∀ (d : Nat) (f : Int), (fwL xss D d f).length = d := by
  intro d
  induction d with
  | zero => intro f; rfl
  | succ d ih => intro f; unfold fwL; rw [List.length_cons, ih]
/-- each move is its own inverse -/
def Invo (xss : List (List Int)) (n : Nat) : Prop := ∀ p ∈ xss, ∀ z : Int, 0 ≤ z → z < n → at' p (at' p z) = z
theorem near_iff {xss : List (List Int)} {n : Nat} {x f : Int} {D p : List Int} (hs : SysOf xss n) (hi : Invo xss n) (h : DFin xss n x D) (h0 : 0 ≤ f) (h1 : f < n) (hp : p ∈ xss) : dat D (at' p f) < dat D f ↔ dat D (at' p f) = dat D f - 1 := by
  have hr := at'_rng (hs p hp).1 (hs p hp).2.2 h0 h1
  have h2 := h.lip (at' p f) p hr.1 hr.2 hp
  rw [hi p hp f h0 h1] at h2
  constructor
  · intro h3; omega
  · intro h3; omega
theorem near_ex {xss : List (List Int)} {n : Nat} {x f : Int} {D : List Int} (hs : SysOf xss n) (hi : Invo xss n) (h : DFin xss n x D) (h0 : 0 ≤ f) (h1 : f < n) (hne : f ≠ x) : ∃ p ∈ xss, nearB D f p = true := by
  obtain ⟨y, p, hp, y0, y1, e, hd⟩ := h.par f h0 h1 hne
  refine ⟨p, hp, ?_⟩
  unfold nearB
  rw [e, hi p hp y y0 y1, ← e]
  exact decide_eq_true (by omega)
theorem dist_zero {xss : List (List Int)} {n : Nat} {x f : Int} {D : List Int} (h : DFin xss n x D) (h0 : 0 ≤ f) (h1 : f < n) : f = x ↔ dat D f = 0 := by
  constructor
  · rintro rfl; exact h.zero
  · intro hd
    by_cases e : f = x
    · exact e
    · obtain ⟨y, p, _, y0, y1, _, hd2⟩ := h.par f h0 h1 e
      have := h.rng y y0 y1
      omega
theorem stepK_eq {xss : List (List Int)} {D p : List Int} {f : Int} {k : Nat} (hp : xss[k]? = some p) (hn : nearB D f p = true) (hall : (xss.take k).all (fun q => !(nearB D f q)) = true) : stepK xss D f = k := by
  have hk := (List.getElem?_eq_some_iff.1 hp).1
  have hpe := (List.getElem?_eq_some_iff.1 hp).2
  unfold stepK
  rw [List.findIdx_eq hk]
  refine ⟨by rw [hpe]; exact hn, fun j hj => ?_⟩
  have := List.all_eq_true.1 hall (xss[j]) (by rw [List.mem_take_iff_getElem]; exact ⟨j, by omega, rfl⟩)
  simpa using this
theorem fwL_step {xss : List (List Int)} {D p : List Int} {f : Int} {k d : Nat} (hp : xss[k]? = some p) (hk : stepK xss D f = k) : fwL xss D (d + 1) f = (k : Int) :: fwL xss D d (at' p f) := by
  show (stepK xss D f : Int) :: fwL xss D d (at' (xss.getD (stepK xss D f) []) f) = _
  rw [hk, getD_some hp]
theorem ManP.invo {xss : List (List Int)} (h : ManP xss) : Invo xss (flg xss) := by
  intro p hp z z0 z1
  obtain ⟨_, hf, hl⟩ := mvB_iff.1 (h.mv p hp)
  unfold freeB at hf
  have h1 := (of_decide_eq_true hf z.toNat (by omega)).2
  rw [Int.toNat_of_nonneg z0] at h1
  exact h1
end Go.Proofs.YtbioelmofceaaaaGreat
/- Que -/
namespace Go.Proofs.YtbioelmofceaaaaGreat
open Go.RowKit
set_option linter.unusedVariables false
set_option maxRecDepth 100000
/-- '.slice A n c' holds vs; it lies in a block from lo on; what lies behind it, up to c, may be written -/
def Que (w : World) (lo : Nat) (A : Option Addr) (n c : Nat) (vs : List Value) : Prop :=
  vs.length = n ∧ n ≤ c ∧ c ≤ maxLen ∧ ∃ g o, A = some ⟨g, o, none⟩ ∧ lo ≤ g ∧ g < w.heap.size ∧ (∀ k v, vs[k]? = some v → w.cell? ⟨g, o + k, none⟩ = some v) ∧ (∀ k, k < c → (w.cell? ⟨g, o + k, none⟩).isSome = true) ∧ ∀ k, w.frozen? ⟨g, k, none⟩ = false
section
variable {w w' : World} {lo hi n c : Nat} {T : TypeId} {A : Option Addr} {vs : List Value}
theorem Que.keep (h : Que w lo A n c vs) (hs : ∀ k, lo ≤ k → k < w.heap.size → w'.heap[k]? = w.heap[k]?) (hz : w.heap.size ≤ w'.heap.size) : Que w' lo A n c vs := by
  obtain ⟨h1, h2, h3, g, o, e, h4, h5, h6, h7, h8⟩ := h
  refine ⟨h1, h2, h3, g, o, e, h4, by omega, fun k v hv => ?_, fun k hk => ?_, fun k => ?_⟩
  · exact (World.cell?_of_block (w := w) (a := ⟨g, o + k, none⟩) (hs g h4 h5)).trans (h6 k v hv)
  · rw [World.cell?_of_block (w := w) (a := ⟨g, o + k, none⟩) (hs g h4 h5)]; exact h7 k hk
  · rw [World.frozen?_of_block (w := w) (a := ⟨g, k, none⟩) (hs g h4 h5)]; exact h8 k
theorem Que.far (h : Que w lo A n c vs) {p : Addr} (hp : p.block < lo) (u : Value) : Que (w.setCell p u) lo A n c vs :=
  h.keep (fun k h1 h2 => Below.heap_setCell _ _ _ _ (by omega)) (by simp)
theorem Que.drewN (h : Que w lo A n c vs) (k : Nat) : Que (w.drewN k) lo A n c vs := h
theorem Que.len (h : Que w lo A n c vs) : vs.length = n := h.1
theorem Que.cap (h : Que w lo A n c vs) : n ≤ c := h.2.1
theorem Que.max (h : Que w lo A n c vs) : c ≤ 9223372036854775807 := by have := h.2.2.1; simp only [maxLen] at this; omega
theorem Que.more {lo' : Nat} (h : Que w lo A n c vs) (h' : lo' ≤ lo) : Que w lo' A n c vs := by
  obtain ⟨h1, h2, h3, g, o, e, h4, h5, h6, h7, h8⟩ := h
  exact ⟨h1, h2, h3, g, o, e, by omega, h5, h6, h7, h8⟩
theorem Que.addr (h : Que w lo A n c vs) : ∃ g o, A = some ⟨g, o, none⟩ ∧ lo ≤ g ∧ g < w.heap.size := by
  obtain ⟨_, _, _, g, o, e, h4, h5, _⟩ := h
  exact ⟨g, o, e, h4, h5⟩
theorem Que.cell {g o k : Nat} {v : Value} (h : Que w lo (some ⟨g, o, none⟩) n c vs) (hv : vs[k]? = some v) : w.cell? ⟨g, o + k, none⟩ = some v := by
  obtain ⟨_, _, _, g', o', e, _, _, h6, _⟩ := h
  injection e with e; injection e with e1 e2 _; subst e1; subst e2
  exact h6 k v hv
/-- the first element is cut away -/
theorem Que.pop {g o : Nat} {v : Value} {vs : List Value} {A' : Option Addr} (h : Que w lo (some ⟨g, o, none⟩) (n + 1) c (v :: vs)) (hA : A' = some ⟨g, o + 1, none⟩ ∨ (c = 1 ∧ A' = some ⟨g, o, none⟩)) : Que w lo A' n (c - 1) vs := by
  obtain ⟨h1, h2, h3, g', o', e, h4, h5, h6, h7, h8⟩ := h
  injection e with e; injection e with e1 e2 _; subst e1; subst e2
  simp at h1
  refine ⟨h1, by omega, by omega, ?_⟩
  rcases hA with rfl | ⟨rfl, rfl⟩
  · refine ⟨g, o + 1, rfl, h4, h5, fun k u hu => ?_, fun k hk => ?_, h8⟩
    · rw [show o + 1 + k = o + (k + 1) by omega]; exact h6 (k + 1) u (by simpa using hu)
    · rw [show o + 1 + k = o + (k + 1) by omega]; exact h7 (k + 1) (by omega)
  · have : vs = [] := List.eq_nil_of_length_eq_zero (by omega)
    subst this
    exact ⟨g, o, rfl, h4, h5, fun k u hu => by simp at hu, fun k hk => by omega, h8⟩
theorem Que.of_row {g : Nat} (h : w.ownsRow lo T 1 (.slice (some ⟨g, 0, none⟩) n c) n vs) : Que w lo (some ⟨g, 0, none⟩) n c vs := by
  have hl := h.1
  rcases h.2 with ⟨hv, _⟩ | ⟨g', cap, cur, hv, hb, hg, hnc, hcm, hcs, htake⟩
  · cases hv
  · injection hv with e1 _ e3
    injection e1 with e1
    injection e1 with e1 _ _
    subst e1; subst e3
    refine ⟨by omega, hnc, hcm, g, 0, rfl, hb, (Array.getElem?_eq_some_iff.1 hg).1, fun k v hv => ?_, fun k hk => ?_, fun k => frozen_of_row w g k cur T hg⟩
    · rw [Nat.zero_add, cell_of_row w g k cur T _ hg]
      have hk := (List.getElem?_eq_some_iff.1 hv).1
      rw [← htake, List.getElem?_take_of_lt (by omega)] at hv
      simpa using hv
    · rw [Nat.zero_add, cell_of_row w g k cur T _ hg]
      simp; omega
theorem Que.of_own {g : Nat} (h : Own w lo hi T (some ⟨g, 0, none⟩) n c vs) : Que w lo (some ⟨g, 0, none⟩) n c vs := Que.of_row h.1
end
section
variable {P : Program}
/-- 'append(s, x)' at a queue -/
theorem wpList_appendQ (w : World) {ops : Array Oper} {rest : List Oper} {o : Oper} {a : Act} {Q : Exit → Act → World → Prop} (hgd : o.guard = none) (s x : Operand) (t : TypeId)
    (ho : o.op = .call { callee := .builtin .append, args := #[s, x], argTypes := #[t, t] })
    (lo : Nat) (e : TypeId) (i : TypeInfo) (z : Value) (bytes : Nat) (ht : P.underlying t = some (.slice e)) (hi : P.info? e = some i) (hz : i.zero = some z)
    (hsize : i.size = 1) (hby : i.bytes = bytes) (hzs : z.cells.size = 1) (hbs : bytes ≤ 64)
    (A : Option Addr) (n c : Nat) (vs : List Value) (u : Value) (hs : a.eval s = .slice A n c) (hq : Que w lo A n c vs)
    (N : Nat) (hx : a.eval x = .slice (some ⟨N, 0, none⟩) 1 1) (hN : N = w.heap.size) (h1 : u.oneCell' = true) (h63 : n < 1099511627776) (hlo : lo ≤ w.heap.size)
    (h : ∀ A' c' w', Que w' lo A' (n + 1) c' (vs ++ [u]) → Below lo w w' → wpList P ops Q rest (a.put o.dst (.slice A' (n + 1) c')) w') :
    wpList P ops Q (o :: rest) a (w.alloc (.cells #[u] e)) := by
  subst hN
  refine wpList_plain hgd fun K hK => ?_
  have hnews : ∀ j v, [u][j]? = some v → (w.alloc (.cells #[u] e)).cell? ((⟨w.heap.size, 0, none⟩ : Addr).add j) = some v := by
    intro j v hv
    have : j = 0 := by have := (List.getElem?_eq_some_iff.1 hv).1; simp at this; omega
    subst this
    simp at hv
    subst hv
    simp [Addr.add_lit]
  have hq' : Que (w.alloc (.cells #[u] e)) lo A n c vs := hq.keep (fun k _ hk => Below.heap_alloc _ _ _ hk) (by simp)
  have hb' : Below lo w (w.alloc (.cells #[u] e)) := (Below.refl _ _).alloc hlo _
  obtain ⟨q1, q2, q3, g, off, rfl, q4, q5, q6, q7, q8⟩ := hq'
  by_cases hr : n + 1 ≤ c
  · have hrun := run_append_room_cells (P := P) (w.alloc (.cells #[u] e)) t o.type e i ht hi g off n c ⟨w.heap.size, 0, none⟩ 1 1 [u] (by simp [hsize]) hnews (by simpa using h1) hr
      (fun j hj => by simp at hj; subst hj; rw [hsize]; exact q7 _ (by omega)) (fun j hj => q8 _)
    rw [hsize, Nat.mul_one] at hrun
    unfold Oper.wp execOp
    simp only [ho, resolve, invoke, builtin, Sem.run_bind, Sem.run_pure, Result.andThen_ok, List.map_toArray, List.map_cons, List.map_nil, hs, hx, hrun]
    have hset : (w.alloc (.cells #[u] e)).setCells g (off + n) [u] = (w.alloc (.cells #[u] e)).setCell ⟨g, off + n, none⟩ u := by simp [World.setCells]
    rw [hset]
    have hsome : ((w.alloc (.cells #[u] e)).cell? ⟨g, off + n, none⟩).isSome = true := q7 n (by omega)
    refine hK _ _ (h _ c _ ⟨by simp [q1], hr, q3, g, off, rfl, q4, by simpa using q5, fun k v hv => ?_, fun k hk => ?_, fun k => ?_⟩ (hb'.setCell q4 _))
    · by_cases hk : k < n
      · rw [List.getElem?_append_left (by omega)] at hv
        exact (World.cell?_setCell_other _ _ _ _ (by intro e; injection e with _ e _; omega)).trans (q6 k v hv)
      · have hk2 := (List.getElem?_eq_some_iff.1 hv).1
        simp at hk2
        have e : k = n := by omega
        subst e
        rw [List.getElem?_append_right (by omega)] at hv
        simp [q1] at hv
        subst hv
        exact World.cell?_setCell_same _ _ _ (Option.isSome_iff_exists.1 hsome).choose_spec
    · by_cases e : k = n
      · subst e; rw [World.cell?_setCell_same _ _ _ (Option.isSome_iff_exists.1 hsome).choose_spec]; rfl
      · exact (congrArg Option.isSome (World.cell?_setCell_other _ _ _ _ (by intro e'; injection e' with _ e' _; omega))).trans (q7 k (by omega))
    · rw [World.frozen?_setCell]; exact q8 k
  · obtain ⟨v', w', hrun, r1, r2⟩ := run_append_arg_grows (P := P) (w.alloc (.cells #[u] e)) t o.type e i z 1 bytes ht hi hz hsize hby hzs (by omega) ⟨g, off, none⟩ n c vs (by omega) (fun j v hv => by rw [Addr.add_lit]; exact q6 j v hv)
      ⟨w.heap.size, 0, none⟩ 1 1 [u] rfl hnews (by omega) (by simp only [maxLen]; omega) (by have := Nat.mul_le_mul (show n + 1 ≤ 1099511627776 by omega) hbs; omega)
    obtain ⟨g', c', rfl, hg1, hg2⟩ := slice_of_own r1 (by omega)
    unfold Oper.wp execOp
    simp only [ho, resolve, invoke, builtin, Sem.run_bind, Sem.run_pure, Result.andThen_ok, List.map_toArray, List.map_cons, List.map_nil, hs, hx, hrun]
    refine hK _ _ (h _ c' w' ((Que.of_row r1).more (by simp; omega)) (hb'.grown r2 (by simp; omega) (fun q hq => by cases hq)))
end
end Go.Proofs.YtbioelmofceaaaaGreat
/- Dist -/
namespace Go.Proofs.YtbioelmofceaaaaGreat
open Go.RowKit
set_option linter.unusedVariables false
set_option maxRecDepth 100000
theorem dat_get {d : List Int} {z : Nat} {n : Nat} (hl : d.length = n) (hz : z < n) : d[z]? = some (dat d (z : Int)) := by
  unfold dat; rw [Int.toNat_natCast]; exact get?_getD 0 (by omega)
set_option maxHeartbeats 4000000 in
theorem distances_any (b : Nat) (A : Option Addr) (n c : Nat) (xss : List (List Int)) (x : Int) (w : World) (hc : w.cell? ⟨b, 0, none⟩ = some (.slice A n c)) (hbs : b < w.heap.size) {lo hi : Nat} (h : RS w lo hi A n xss) (hhi : hi ≤ w.heap.size) (hn : 0 < n) (N : Nat) (hN : flg xss = N) (h4 : N ≤ 400) (hs : SysOf xss N) (hx0 : 0 ≤ x) (hx1 : x < N) :
    Calls Tryz.prog 41 #[.pointer (some ⟨b, 0, none⟩), .int .i64 x] w fun e w' => ∃ A1, e = .returned (.slice A1 N N) ∧ Own w' w.heap.size w'.heap.size 2 A1 N N ((dist xss N x).map (Value.int .i64)) ∧ Below w.heap.size w w' := by
  obtain ⟨j0, hj0, hy0, hy1, hy2⟩ := info_parts infoI
  have hm := h.max
  have hl := Lib.hid h.len
  obtain ⟨x, rfl⟩ : ∃ q : Nat, x = q := ⟨x.toNat, by omega⟩
  have hst := DMet.start (list := xss) hx0 hx1
  replace hst := Lib.hid hst
  replace hs := Lib.hid hs
  have hR := rs_alloc h hhi (.cells #[.int .i64 (-1)] 2)
  have hC : (w.alloc (.cells #[.int .i64 (-1)] 2)).cell? ⟨b, 0, none⟩ = some (.slice A n c) := (al_old _ _ _ _ hbs).trans hc
  go_enter Tryz.func41, Tryz.ntmps41
  go_wp2_with fail
  ((with_reducible refine (flags_any _ A n c xss _ hC hR hn).mono ?_); rintro e w' ⟨rfl, rfl⟩)
  rw [hN]
  go_wp2_with fail
  ((with_reducible refine (repeat_any _ _ N (-1) _ (ri_lit1 w _ _) (by simp) (by omega)).mono ?_); rintro e w1 ⟨A1, rfl, ho1, hb1⟩)
  have hB1 : Below w.heap.size w w1 := ((Below.refl _ _).alloc (Nat.le_refl _) _).trans (hb1.mono (by simp))
  replace ho1 := ho1.more (lo' := w.heap.size) (hi' := w1.heap.size) (by simp) (Nat.le_refl _)
  have hz1 := hB1.size
  clear hb1 hR hC
  obtain ⟨b1, x1, rfl, hb1, hb2, hb3, hxx, hcx, hfx⟩ := ho1.atI (k := x) (by omega)
  clear hxx
  have hC1 := (hB1.cell (p := ⟨b, 0, none⟩) (by simp; omega)).trans hc
  have hxN : x < N := by omega
  go_wp2_with fail
  have hset := (ho1.setI (b := b1) (k := x) 0).keep (same_alloc _ (.cells #[.int .i64 (x : Int)] 2) _ _ (by simp))
  have hopen := Que.of_own (own_lit1 (w1.setCell ⟨b1, x, none⟩ (.int .i64 0)) 2 (x : Int) (lo := w1.heap.size) (by simp))
  rw [World.size_setCell] at hopen
  have hbA : Below w.heap.size w ((w1.setCell ⟨b1, x, none⟩ (.int .i64 0)).alloc (.cells #[.int .i64 (x : Int)] 2)) := (hB1.setCell (by simp; omega) _).alloc (by simp; omega) _
  clear ho1 hB1 hcx hfx
  go_loopg [6] (N + 2) (fun f ov wq => ∃ (i : Nat) (d pre q : List Int) (A2 : Option Addr) (c2 : Nat), ov = .slice A2 q.length c2 ∧ f + i = N + 2 ∧ pre.length = i ∧ q.length ≤ 400 ∧ Hid (dGo xss (N + 1 - i) (d, pre ++ q) i = dGo xss (N + 1) (dstart N x) 0) ∧ Hid (DMet xss N x d (pre ++ q) i) ∧
      Own wq w.heap.size w1.heap.size 2 (some ⟨b1, 0, none⟩) N N (d.map (Value.int .i64)) ∧ Que wq w1.heap.size A2 q.length c2 (q.map (Value.int .i64)) ∧ w1.heap.size ≤ wq.heap.size ∧ Below w.heap.size w wq)
  case atStart =>
    exact ⟨0, (dstart N x).1, [], [(x : Int)], _, 1, rfl, by omega, rfl, by simp, Lib.hid rfl, Lib.hid hst.out, by simpa [dstart] using hset, hopen, by simp, hbA⟩
  case round =>
    clear hset hopen hbA hst
    obtain ⟨i, d, pre, q, A2, c2, rfl, hfn, hpl, hql, heq, hd, ho, hop, hz, hb⟩ := hrel
    have hlen := hd.out.met.len
    rw [List.length_append] at hlen
    obtain ⟨f, rfl⟩ : ∃ f, gk = f + 1 := ⟨gk - 1, by omega⟩
    rcases q with _ | ⟨y, q⟩
    · have hcq := hop.max
      go_wp2_with fail
      go_ret
      refine ⟨_, rfl, ?_, hb⟩
      have h1 := heq.out
      rw [dGo_stop (by simp; omega)] at h1
      unfold dist
      rw [← h1]
      exact ho.more (Nat.le_refl _) hz
    · have hiN : (pre ++ y :: q)[i]? = some y := by rw [List.getElem?_append_right (by omega), show i - pre.length = 0 by omega]; rfl
      have hyr := hd.out.met.rng y (mem_of_get? hiN)
      have hyd := hd.out.datn (mem_of_get? hiN)
      obtain ⟨y, rfl⟩ : ∃ q : Nat, y = q := ⟨y.toNat, by omega⟩
      obtain ⟨g2, o2, rfl, hg2, hg3⟩ := hop.addr
      have hgc := hop.cell (k := 0) (v := .int .i64 (y : Int)) rfl
      rw [Nat.add_zero] at hgc
      rw [List.length_cons] at hop hql ⊢
      have hcap := hop.cap
      have hcm := hop.max
      have hCk := (hb.cell (p := ⟨b, 0, none⟩) (by simp; omega)).trans hc
      replace hiN := Lib.hid hiN
      replace hyd := Lib.hid hyd
      go_wp2_with fail
      obtain ⟨wo, hwo⟩ : ∃ wo : World, wo = wr := ⟨_, rfl⟩
      go_loopw [6, 33] (fun ov kv wq => ∃ (k : Nat) (d2 q2 : List Int) (A3 : Option Addr) (c3 : Nat), k ≤ n ∧ kv = .int .i64 k ∧ ov = .slice A3 (q2.length + 1) c3 ∧ q2.length ≤ 400 ∧ Hid ((d2, pre ++ (y : Int) :: q2) = dStep (xss.take k) y (d, pre ++ (y : Int) :: q)) ∧ Hid (DMet xss N x d2 (pre ++ (y : Int) :: q2) i) ∧
          Own wq w.heap.size w1.heap.size 2 (some ⟨b1, 0, none⟩) N N (d2.map (Value.int .i64)) ∧ Que wq w1.heap.size A3 (q2.length + 1) c3 (((y : Int) :: q2).map (Value.int .i64)) ∧ w1.heap.size ≤ wq.heap.size ∧ Below w.heap.size w wq) (fun _ kv _ => n - (intOf kv).toNat)
      case atStart => exact ⟨0, d, q, _, c2, by omega, rfl, rfl, by omega, Lib.hid rfl, hd, ho, hop, hz, hb⟩
      case round =>
        clear ho hop hz hb hgc hwo hcap hcm hCk
        obtain ⟨k, d2, q2, A3, c3, hk, rfl, rfl, hq2, hds, hd2, ho, hop, hz, hb⟩ := hrel
        have hiN2 : (pre ++ (y : Int) :: q2)[i]? = some (y : Int) := by rw [List.getElem?_append_right (by omega), show i - pre.length = 0 by omega]; rfl
        have hlen2 := hd2.out.met.len
        rw [List.length_append, List.length_cons] at hlen2
        have hdl := hd2.out.dl
        have hyd2 := hd2.out.datn (mem_of_get? hiN2)
        by_cases hkm : k < n
        · obtain ⟨bb, oo, Ak, nk, ck, p, rfl, _, _, hp, hpc, hpr⟩ := (h.below hb hhi).at_ hkm
          have hpm := mem_of_get? hp
          obtain ⟨hpr0, hpn, hpll⟩ := hs.out p hpm
          have hnk := hpr.len
          have hynk : y < nk := by omega
          obtain ⟨bp, oq, v, rfl, _, _, hv, hvc⟩ := hpr.at_ hynk
          have hva : at' p y = v := by unfold at'; rw [Int.toNat_natCast]; exact getD_some hv
          obtain ⟨hv0, hv1⟩ := hpr0 v (mem_of_get? hv)
          obtain ⟨v, rfl⟩ : ∃ q : Nat, v = q := ⟨v.toNat, by omega⟩
          have htk := take_succ_of hp
          have hcv := ho.cellI (dat_get hdl (show v < N by omega))
          have hcy := ho.cellI (dat_get hdl (show y < N by omega))
          have hfr := ho.frz v
          have hvr := hd2.out.datr hv0 hv1
          have hyd0 := hyd2.1
          have hyd1 := hyd2.2
          have hvN : v < N := by omega
          have hyN : y < N := by omega
          have hsp := dMove_spec (s := (d2, pre ++ (y : Int) :: q2)) hs.out hd2.out hiN2 hpm
          have hmv : dMove y (d2, pre ++ (y : Int) :: q2) p = dStep (xss.take (k + 1)) y (d, pre ++ (y : Int) :: q) := by rw [htk, dStep_snoc, ← hds.out]
          unfold dMove at hmv hsp
          rw [hva] at hmv hsp
          by_cases hneg : dat d2 v < 0
          · rw [if_pos hneg] at hmv hsp
            have e2 : pre ++ (y : Int) :: q2 ++ [(v : Int)] = pre ++ (y : Int) :: (q2 ++ [(v : Int)]) := by simp
            rw [Int.toNat_natCast, e2] at hmv hsp
            have hmet2 := hsp.1
            have hlen3 := hmet2.met.len
            rw [List.length_append, List.length_cons, List.length_append, List.length_singleton] at hlen3
            have hdd : decide (dat d2 v < 0) = true := decide_eq_true hneg
            replace hmet2 := Lib.hid hmet2
            replace hmv := Lib.hid hmv
            replace hp := Lib.hid hp
            replace hv := Lib.hid hv
            replace htk := Lib.hid htk
            replace hva := Lib.hid hva
            replace hpr0 := Lib.hid hpr0
            replace hpll := Lib.hid hpll
            replace hiN2 := Lib.hid hiN2
            clear hsp e2 hdl hyd2
            generalize dat d2 v = u at *
            generalize dat d2 y = u2 at *
            have hop' := hop.far (p := ⟨b1, v, none⟩) hb2 (.int .i64 (u2 + 1))
            have hss : (wr.setCell ⟨b1, v, none⟩ (.int .i64 (u2 + 1))).heap.size = wr.heap.size := World.size_setCell _ _ _
            replace hss := Lib.hid hss
            go_wp2_with (at_builtin; refine wpList_appendQ (wr.setCell ⟨b1, v, none⟩ (.int .i64 (u2 + 1))) rfl (.tmp 54) (.tmp 56) 35 rfl w1.heap.size 2 j0 (.int .i64 0) 8 Tryz.underlying35 hj0 hy0 hy1 hy2 rfl (by omega) A3 (q2.length + 1) c3 _ (.int .i64 v) rfl hop' _ rfl (World.size_setCell _ _ _).symm rfl (by omega) (by rw [hss.out]; exact hz) ?_)
            intro A4 c4 w2 hop4 hbe
            have hb4 : Below w.heap.size w w2 := (hb.setCell (p := ⟨b1, v, none⟩) hb1 (.int .i64 (u2 + 1))).trans (hbe.mono hz1)
            have ho4 := (ho.setI (b := b1) (k := v) (u2 + 1)).below hbe (Nat.le_refl _)
            have hz4 : w1.heap.size ≤ w2.heap.size := by have := hbe.size; have := hss.out; omega
            clear ho hop hop' hb hpc hvc hcv hcy hfr hpr hbe
            go_wp2_with fail
            go_roundw
            case measure => simp [intOf]; omega
            case rel =>
              exact ⟨k + 1, d2.set v (u2 + 1), q2 ++ [(v : Int)], A4, c4, by omega, by go_num, by rw [List.length_append]; rfl, by simp; omega, hmv, hmet2, ho4, by simpa using hop4, hz4, hb4⟩
          · rw [if_neg hneg] at hmv hsp
            have hdd : decide (dat d2 v < 0) = false := decide_eq_false hneg
            replace hmv := Lib.hid hmv
            replace hp := Lib.hid hp
            replace hv := Lib.hid hv
            replace htk := Lib.hid htk
            replace hva := Lib.hid hva
            replace hpr0 := Lib.hid hpr0
            replace hpll := Lib.hid hpll
            replace hiN2 := Lib.hid hiN2
            clear hsp hdl hyd2
            generalize dat d2 v = u at *
            generalize dat d2 y = u2 at *
            go_wp2_with fail
            go_roundw
            case measure => simp [intOf]; omega
            case rel => exact ⟨k + 1, d2, q2, A3, c3, by omega, by go_num, rfl, hq2, hmv, hd2, ho, hop, hz, hb⟩
        · have hkm' : k = n := by omega
          subst hkm'
          obtain ⟨g4, o4, rfl, hg4, hg5⟩ := hop.addr
          have hcap := hop.cap
          have hcm := hop.max
          replace hiN2 := Lib.hid hiN2
          replace hdl := Lib.hid hdl
          replace hyd2 := Lib.hid hyd2
          have hds2 : (d2, pre ++ (y : Int) :: q2) = dStep xss y (d, pre ++ (y : Int) :: q) := by have := hds.out; rwa [List.take_of_length_le (by have := hl.out; omega)] at this
          have hnx : DMet xss N x d2 (pre ++ (y : Int) :: q2) (i + 1) := by
            have := dStep_next (s := (d, pre ++ (y : Int) :: q)) hs.out hd.out hiN.out
            rw [← hds2] at this
            exact this
          have hgo : dGo xss (N + 1 - (i + 1)) (d2, pre ++ (y : Int) :: q2) (i + 1) = dGo xss (N + 1) (dstart N x) 0 := by
            have h1 := heq.out
            rw [show N + 1 - i = (N - i) + 1 by omega, dGo_step (s := (d, pre ++ (y : Int) :: q)) hiN.out, ← hds2] at h1
            rw [← h1, show N + 1 - (i + 1) = N - i by omega]
          have e3 : pre ++ (y : Int) :: q2 = (pre ++ [(y : Int)]) ++ q2 := by simp
          rw [e3] at hnx hgo
          replace hds2 := Lib.hid hds2
          replace hnx := Lib.hid hnx
          replace hgo := Lib.hid hgo
          replace e3 := Lib.hid e3
          by_cases hc1 : c3 = 1
          · go_wp2_with fail
            go_roundg f
            case measure => omega
            case rel => exact ⟨i + 1, d2, pre ++ [(y : Int)], q2, _, c3 - 1, by rw [hc1], by omega, by simp; omega, by omega, hgo, hnx, ho, hop.pop (.inr ⟨hc1, rfl⟩), hz, hb⟩
          · go_wp2_with fail
            go_roundg f
            case measure => omega
            case rel => exact ⟨i + 1, d2, pre ++ [(y : Int)], q2, _, c3 - 1, rfl, by omega, by simp; omega, by omega, hgo, hnx, ho, hop.pop (.inl rfl), hz, hb⟩
end Go.Proofs.YtbioelmofceaaaaGreat
/- Dia -/
namespace Go.Proofs.YtbioelmofceaaaaGreat
open Go.RowKit
set_option linter.unusedVariables false
set_option maxRecDepth 100000
/-- the greatest of a and the numbers of l -/
def maxFrom (a : Int) (l : List Int) : Int := l.foldl (fun m x => if m < x then x else m) a
theorem maxFrom_snoc (a x : Int) (l : List Int) : maxFrom a (l ++ [x]) = if maxFrom a l < x then x else maxFrom a l := by unfold maxFrom; rw [List.foldl_append]; rfl
theorem maxFrom_spec (l : List Int) : ∀ a, a ≤ maxFrom a l ∧ (∀ x ∈ l, x ≤ maxFrom a l) ∧ (maxFrom a l = a ∨ maxFrom a l ∈ l) := by
  induction l with
  | nil => intro a; exact ⟨Int.le_refl _, by simp, .inl rfl⟩
  | cons y t ih =>
    intro a
    have e : maxFrom a (y :: t) = maxFrom (if a < y then y else a) t := rfl
    rw [e]
    have hb : a ≤ (if a < y then y else a) ∧ y ≤ (if a < y then y else a) ∧ ((if a < y then y else a) = a ∨ (if a < y then y else a) = y) := by split <;> omega
    generalize (if a < y then y else a) = b at *
    obtain ⟨h1, h2, h3⟩ := ih b
    refine ⟨by omega, fun x hx => ?_, ?_⟩
    · rcases List.mem_cons.1 hx with rfl | hx
      · omega
      · exact h2 x hx
    · rcases h3 with h3 | h3
      · rcases hb.2.2 with k | k
        · left; omega
        · right; rw [h3, k]; simp
      · right; simp [h3]
theorem maxFrom_two {a x : Int} {l : List Int} (hx : x ∈ l) : maxFrom a l = if a < maxFrom x l then maxFrom x l else a := by
  obtain ⟨h1, h2, h3⟩ := maxFrom_spec l a
  obtain ⟨k1, k2, k3⟩ := maxFrom_spec l x
  have e : maxFrom x l ∈ l := by rcases k3 with k | k
                                 · rw [k]; exact hx
                                 · exact k
  split
  · rename_i hh
    have := h2 _ e
    rcases h3 with h3 | h3
    · omega
    · have := k2 _ h3; omega
  · rename_i hh
    rcases h3 with h3 | h3
    · exact h3
    · have := k2 _ h3; omega
def diaGo (xss : List (List Int)) (n k : Nat) : Int := (List.range k).foldl (fun (m : Int) (f : Nat) => maxFrom m (dist xss n (f : Int))) (0 : Int)
theorem diaGo_succ (xss : List (List Int)) (n k : Nat) : diaGo xss n (k + 1) = maxFrom (diaGo xss n k) (dist xss n (k : Int)) := by unfold diaGo; rw [List.range_succ, List.foldl_append]; rfl
/-- what DiameterOf returns -/
noncomputable def diaF (xss : List (List Int)) : Int × Int := if isManB xss = true then (diaGo xss (flg xss) (flg xss), 0) else (0, 1)
theorem max_any (A : Option Addr) (n c : Nat) (x0 : Int) (t : List Int) (w : World) {lo hi : Nat} (h : RI w lo hi A n (x0 :: t)) :
    Calls Tryz.prog 40 #[.slice A n c] w fun e w' => e = .returned (.int .i64 (maxFrom x0 (x0 :: t))) ∧ w = w' := by
  have hm := h.max
  have hl := h.len
  have hn : 0 < n := by rw [← hl]; simp
  have hn1 : decide ((n : Int) < 1) = false := by simp; omega
  obtain ⟨b, o, u, rfl, _, _, hu, hc⟩ := h.at_ hn
  obtain rfl : x0 = u := by simpa using hu
  rw [Nat.add_zero] at hc
  replace hl := Lib.hid hl
  replace hu := Lib.hid hu
  go_enter Tryz.func40, Tryz.ntmps40
  go_wp2_with fail
  go_loopw [3, 4] (fun mv kv wq => ∃ k : Nat, 1 ≤ k ∧ k ≤ n ∧ kv = .int .i64 k ∧ mv = .int .i64 (maxFrom x0 ((x0 :: t).take k)) ∧ w = wq) (fun _ kv _ => n - (intOf kv).toNat)
  case atStart => exact ⟨1, by omega, by omega, rfl, by simp [maxFrom], by first | rfl | trivial⟩
  case round =>
    obtain ⟨k, hk1, hk, rfl, rfl, rfl⟩ := hrel
    by_cases hlt : k < n
    · obtain ⟨b', o', v, e, _, _, hv, hcv⟩ := h.at_ hlt
      injection e with e; injection e with e1 e2 _; subst e1; subst e2
      have htk := take_succ_of hv
      have hst : maxFrom x0 ((x0 :: t).take (k + 1)) = if maxFrom x0 ((x0 :: t).take k) < v then v else maxFrom x0 ((x0 :: t).take k) := by rw [htk, maxFrom_snoc]
      replace hst := Lib.hid hst
      replace hv := Lib.hid hv
      replace htk := Lib.hid htk
      generalize maxFrom x0 ((x0 :: t).take k) = m at *
      go_wp2_with fail
      go_roundw
      case measure => simp [intOf]; omega
      case rel =>
        refine ⟨k + 1, by omega, by omega, by go_num, ?_, by first | rfl | trivial⟩
        rw [hst.out]
    · go_wp2_with fail
      go_ret
      have hkn : k = n := by omega
      subst hkn
      exact ⟨ret_int (by rw [List.take_of_length_le (by have := hl.out; omega)]), rfl⟩
set_option maxHeartbeats 4000000 in
theorem i_DiameterOf_any (w : World) (A : Option Addr) (n c : Nat) (xss : List (List Int)) {lo hi : Nat} (h : RS w lo hi A n xss) (hhi : hi ≤ w.heap.size) (hnc : n ≤ c) :
    Calls Tryz.prog 18 #[.agg #[.slice A n c]] w fun e w' => ∃ (y code : Int), e = .returned (.tuple #[.int .i64 y, .int .i64 code]) ∧ Hid ((y, code) = diaF xss) ∧ Below w.heap.size w w' := by
  have hm := h.max
  have hl := h.len
  have hR := rs_alloc h hhi (.cells #[.slice A n c] 26)
  have hC : (w.alloc (.cells #[.slice A n c] 26)).cell? ⟨w.heap.size, 0, none⟩ = some (.slice A n c) := al_new _ _ _ _ rfl
  have hB : Below w.heap.size w (w.alloc (.cells #[.slice A n c] 26)) := (Below.refl _ _).alloc (Nat.le_refl _) _
  cases hM : isManB xss with
  | false =>
    have hF : diaF xss = (0, 1) := by unfold diaF; rw [hM]; rfl
    replace hF := Lib.hid hF
    replace hM := Lib.hid hM
    replace hl := Lib.hid hl
    go_enter Tryz.func18, Tryz.ntmps18
    go_wp2_with fail
    obtain ⟨W1, hW⟩ : ∃ W1 : World, w.alloc (.cells #[.slice A n c] 26) = W1 := ⟨_, rfl⟩
    have hz1 : W1.heap.size = w.heap.size + 1 := by rw [← hW]; simp
    rw [hW] at hR hC hB ⊢
    clear hW h 
    ((with_reducible refine (isMan_any A n c xss _ hR (by omega) hnc).mono ?_); rintro e w2 ⟨rfl, f2⟩)
    rw [hM.out]
    have y2 := f2.size
    have B2 : Below W1.heap.size W1 w2 := f2
    have C2 := (f2.cell (p := ⟨w.heap.size, 0, none⟩) (by simp; omega)).trans hC
    have R2 := hR.below f2 (by omega)
    go_wp2_with fail
    go_ret2
    exact ⟨_, _, rfl, Lib.hid hF.out.symm, hB.trans (B2.mono (by omega))⟩
  | true =>
    have hP := isManB_iff.1 hM
    have hn1 : 1 ≤ n := by have := hP.r1; omega
    have hn5 : n ≤ 5 := by have := hP.r5; omega
    have hf2 := hP.f2
    have hf4 := hP.f4
    have hS := hP.sys
    replace hP := Lib.hid hP
    replace hS := Lib.hid hS
    have hF : diaF xss = (diaGo xss (flg xss) (flg xss), 0) := by unfold diaF; rw [if_pos hM]
    replace hF := Lib.hid hF
    replace hM := Lib.hid hM
    replace hl := Lib.hid hl
    go_enter Tryz.func18, Tryz.ntmps18
    go_wp2_with fail
    obtain ⟨W1, hW⟩ : ∃ W1 : World, w.alloc (.cells #[.slice A n c] 26) = W1 := ⟨_, rfl⟩
    have hz1 : W1.heap.size = w.heap.size + 1 := by rw [← hW]; simp
    rw [hW] at hR hC hB ⊢
    clear hW h 
    ((with_reducible refine (isMan_any A n c xss _ hR (by omega) hnc).mono ?_); rintro e w2 ⟨rfl, f2⟩)
    rw [hM.out]
    have y2 := f2.size
    have B2 : Below W1.heap.size W1 w2 := f2
    have C2 := (f2.cell (p := ⟨w.heap.size, 0, none⟩) (by simp; omega)).trans hC
    have R2 := hR.below f2 (by omega)
    go_wp2_with fail
    ((with_reducible refine (flags_any _ A n c xss _ C2 R2 (by omega)).mono ?_); rintro e w' ⟨rfl, rfl⟩)
    go_wp2_with fail
    go_loopw [4, 10] (fun mv kv wq => ∃ k : Nat, k ≤ flg xss ∧ kv = .int .i64 k ∧ mv = .int .i64 (diaGo xss (flg xss) k) ∧ Below W1.heap.size W1 wq) (fun _ kv _ => flg xss - (intOf kv).toNat)
    case atStart => exact ⟨0, by omega, rfl, rfl, B2⟩
    case round =>
      obtain ⟨k, hk, rfl, rfl, hb⟩ := hrel
      have Ck := (hb.cell (p := ⟨w.heap.size, 0, none⟩) (by simp; omega)).trans hC
      have Rk := hR.below hb (by omega)
      have yk := hb.size
      by_cases hlt : k < flg xss
      · go_wp2_with fail
        ((with_reducible refine (distances_any _ A n c xss (k : Int) _ Ck (by omega) Rk (by omega) (by omega) _ rfl hf4 hS.out (by omega) (by omega)).mono ?_); rintro e w9 ⟨A9, rfl, o9, f9⟩)
        have B9 : Below W1.heap.size W1 w9 := below_then hb f9 (by omega)
        have hdl := o9.lenI
        have hmx := diaGo_succ xss (flg xss) k
        obtain ⟨x0, t0, hd⟩ : ∃ x0 t0, dist xss (flg xss) (k : Int) = x0 :: t0 := by
          cases hd : dist xss (flg xss) (k : Int) with
          | nil => rw [hd] at hdl; simp at hdl; omega
          | cons x0 t0 => exact ⟨x0, t0, rfl⟩
        rw [hd] at o9
        rw [hd, maxFrom_two (x := x0) (by simp)] at hmx
        replace hmx := Lib.hid hmx
        replace hd := Lib.hid hd
        replace hdl := Lib.hid hdl
        go_wp2_with fail
        ((with_reducible refine (max_any _ _ _ x0 t0 _ o9.ri).mono ?_); rintro e w' ⟨rfl, rfl⟩)
        generalize maxFrom x0 (x0 :: t0) = v at *
        generalize diaGo xss (flg xss) k = m at *
        go_wp2_with fail
        go_roundw
        case measure => simp [intOf]; omega
        case rel =>
          refine ⟨k + 1, by omega, by go_num, ?_, B9⟩
          rw [hmx.out]
      · go_wp2_with fail
        go_ret2
        have hkn : k = flg xss := by omega
        subst hkn
        exact ⟨_, _, rfl, Lib.hid hF.out.symm, hB.trans (hb.mono (by omega))⟩
end Go.Proofs.YtbioelmofceaaaaGreat
/- PthP -/
namespace Go.Proofs.YtbioelmofceaaaaGreat
set_option linter.unusedVariables false
theorem dist_le {xss : List (List Int)} {n : Nat} {x y : Int} {D E : List Int} (hs : SysOf xss n) (hi : Invo xss n) (hD : DFin xss n x D) (hE : DFin xss n y E) : ∀ (k : Nat) (z : Int), 0 ≤ z → z < n → dat E z = k → dat D y ≤ dat D z + k := by
  intro k
  induction k with
  | zero =>
    intro z z0 z1 h
    have := (dist_zero hE z0 z1).2 h
    subst this
    omega
  | succ k ih =>
    intro z z0 z1 h
    have hne : z ≠ y := fun e => by
      have := (dist_zero hE z0 z1).1 e
      omega
    obtain ⟨u, p, hp, u0, u1, e, hd⟩ := hE.par z z0 z1 hne
    have h1 := ih u u0 u1 (by omega)
    have h2 := hD.lip z p z0 z1 hp
    rw [e, hi p hp u u0 u1] at h2
    rw [← e] at h2
    omega
theorem dist_symm {xss : List (List Int)} {n : Nat} {x y : Int} {D E : List Int} (hs : SysOf xss n) (hi : Invo xss n) (hD : DFin xss n x D) (hE : DFin xss n y E) (x0 : 0 ≤ x) (x1 : x < n) (y0 : 0 ≤ y) (y1 : y < n) : dat D y = dat E x := by
  have a := hD.rng y y0 y1
  have b := hE.rng x x0 x1
  have h1 := dist_le hs hi hD hE (dat E x).toNat x x0 x1 (by omega)
  have h2 := dist_le hs hi hE hD (dat D y).toNat y y0 y1 (by omega)
  rw [hD.zero] at h1
  rw [hE.zero] at h2
  omega
theorem fw_run {xss : List (List Int)} {n : Nat} {x : Int} {D : List Int} (hs : SysOf xss n) (hi : Invo xss n) (h : DFin xss n x D) : ∀ (d : Nat) (f : Int), 0 ≤ f → f < n → dat D f = d → runW xss (fwL xss D d f) f = x ∧ ∀ g ∈ fwL xss D d f, 0 ≤ g ∧ g < xss.length := by
  intro d
  induction d with
  | zero =>
    intro f f0 f1 hd
    exact ⟨(dist_zero h f0 f1).2 hd, by simp [fwL]⟩
  | succ d ih =>
    intro f f0 f1 hd
    have hne : f ≠ x := fun e => by
      have := (dist_zero h f0 f1).1 e
      omega
    obtain ⟨p0, hp0, hn0⟩ := near_ex hs hi h f0 f1 hne
    have hlt : xss.findIdx (nearB D f) < xss.length := List.findIdx_lt_length_of_exists ⟨p0, hp0, hn0⟩
    have hnb : nearB D f xss[xss.findIdx (nearB D f)] = true := List.findIdx_getElem
    have hget : xss[stepK xss D f]? = some xss[xss.findIdx (nearB D f)] := List.getElem?_eq_getElem hlt
    obtain ⟨p, hp⟩ : ∃ p, xss[xss.findIdx (nearB D f)] = p := ⟨_, rfl⟩
    rw [hp] at hnb hget
    have hpm := mem_of_get? hget
    have hdn : dat D (at' p f) = dat D f - 1 := (near_iff hs hi h f0 f1 hpm).1 (of_decide_eq_true hnb)
    have hr := at'_rng (hs p hpm).1 (hs p hpm).2.2 f0 f1
    obtain ⟨h1, h2⟩ := ih (at' p f) hr.1 hr.2 (by omega)
    have e : fwL xss D (d + 1) f = (stepK xss D f : Int) :: fwL xss D d (at' p f) := fwL_step hget rfl
    rw [e]
    refine ⟨?_, fun g hg => ?_⟩
    · show runW xss (fwL xss D d (at' p f)) ((xss.getD ((stepK xss D f : Int)).toNat []).getD f.toNat 0) = x
      rw [Int.toNat_natCast, getD_some hget]
      exact h1
    · rcases List.mem_cons.1 hg with rfl | hg
      · have : stepK xss D f < xss.length := hlt
        omega
      · exact h2 g hg
theorem dia_ge {xss : List (List Int)} {n : Nat} : ∀ k f : Nat, f < k → ∀ v ∈ dist xss n (f : Int), v ≤ diaGo xss n k := by
  intro k
  induction k with
  | zero => intro f hf; omega
  | succ k ih =>
    intro f hf v hv
    rw [diaGo_succ]
    obtain ⟨h1, h2, _⟩ := maxFrom_spec (dist xss n (k : Int)) (diaGo xss n k)
    by_cases e : f = k
    · subst e
      exact h2 v hv
    · have := ih f (by omega) v hv
      omega
end Go.Proofs.YtbioelmofceaaaaGreat
/- CntP -/
namespace Go.Proofs.YtbioelmofceaaaaGreat
set_option linter.unusedVariables false
set_option maxRecDepth 100000
open Classical
theorem list_rev {P : List Int → Prop} (h0 : P []) (hs : ∀ t x, P t → P (t ++ [x])) : ∀ l, P l := by
  have key : ∀ (n : Nat) (l : List Int), l.length = n → P l := by
    intro n
    induction n with
    | zero => intro l hl; rw [List.eq_nil_of_length_eq_zero hl]; exact h0
    | succ n ih =>
      intro l hl
      rcases List.eq_nil_or_concat l with rfl | ⟨t, x, rfl⟩
      · exact h0
      · rw [List.concat_eq_append] at hl ⊢
        exact hs t x (ih t (by simpa using hl))
  exact fun l => key l.length l rfl
/-- one more than the greatest of some numbers -/
def grt (l : List Int) : Int := l.foldl (fun m x => if m ≤ x then x + 1 else m) 0
theorem grt_snoc (l : List Int) (x : Int) : grt (l ++ [x]) = if grt l ≤ x then x + 1 else grt l := by unfold grt; rw [List.foldl_append]; rfl
theorem grt_nonneg (l : List Int) : (∀ x ∈ l, 0 ≤ x) → 0 ≤ grt l := by
  refine list_rev (P := fun l => (∀ x ∈ l, 0 ≤ x) → 0 ≤ grt l) (fun _ => Int.le_refl _) (fun t x ih h => ?_) l
  have := ih (fun y hy => h y (by simp [hy]))
  have := h x (by simp)
  rw [grt_snoc]
  split <;> omega
theorem grt_lt (l : List Int) : ∀ x ∈ l, x < grt l := by
  refine list_rev (P := fun l => ∀ x ∈ l, x < grt l) (fun x hx => by simp at hx) (fun t y ih x hx => ?_) l
  rw [grt_snoc]
  rcases List.mem_append.1 hx with hx | hx
  · have := ih x hx
    split <;> omega
  · simp at hx
    subst hx
    split <;> omega
theorem grt_mem (l : List Int) : grt l = 0 ∨ grt l - 1 ∈ l := by
  refine list_rev (P := fun l => grt l = 0 ∨ grt l - 1 ∈ l) (.inl rfl) (fun t y ih => ?_) l
  rw [grt_snoc]
  split
  · right; simp
  · rcases ih with ih | ih
    · exact .inl ih
    · right; simp [ih]
theorem lab_lt {list : List (List Int)} {n x : Nat} (hs : SysOf list n) (hx : x < n) : labOf list x < cntR list n := by
  have hr := rootB_rootOf hs hx
  have hle := rootOf_le list x
  have h1 := cntR_mono list (show rootOf list x + 1 ≤ n by omega)
  rw [cntR_succ, if_pos hr] at h1
  unfold labOf
  omega
theorem lab_top {list : List (List Int)} : ∀ n : Nat, cntR list n = 0 ∨ ∃ x : Nat, x < n ∧ labOf list x = (cntR list n : Int) - 1 := by
  intro n
  induction n with
  | zero => left; simp [cntR]
  | succ n ih =>
    rw [cntR_succ]
    by_cases hr : rootB list n = true
    · rw [if_pos hr]
      right
      refine ⟨n, by omega, ?_⟩
      have hroot : rootOf list n = n := rootOf_eq Rch.refl (fun j hj hh => root_iff.1 hr ⟨j, hj, hh⟩)
      unfold labOf
      rw [hroot]
      omega
    · rw [if_neg hr, Nat.add_zero]
      rcases ih with ih | ⟨x, h1, h2⟩
      · exact .inl ih
      · exact .inr ⟨x, by omega, h2⟩
/-- the greatest label and one -/
theorem grt_lab {list : List (List Int)} {n : Nat} (hs : SysOf list n) : grt (labL list n) = (cntR list n : Int) := by
  have hmem : ∀ v ∈ labL list n, ∃ x : Nat, x < n ∧ v = labOf list x := by
    intro v hv
    obtain ⟨x, hx, rfl⟩ := List.mem_map.1 hv
    exact ⟨x, List.mem_range.1 hx, rfl⟩
  have h0 := grt_nonneg (labL list n) (fun v hv => by obtain ⟨x, _, rfl⟩ := hmem v hv; exact labOf_nonneg list x)
  have hle : grt (labL list n) ≤ (cntR list n : Int) := by
    rcases grt_mem (labL list n) with e | e
    · rw [e]; omega
    · obtain ⟨x, hx, e⟩ := hmem _ e
      have := lab_lt hs hx
      omega
  have hge : (cntR list n : Int) ≤ grt (labL list n) := by
    rcases lab_top (list := list) n with e | ⟨x, hx, e⟩
    · rw [e]; exact h0
    · have := grt_lt (labL list n) (labOf list x) (List.mem_map.2 ⟨x, List.mem_range.2 hx, rfl⟩)
      omega
  omega
/-- the numbers of faces -/
noncomputable def cntsL (xss : List (List Int)) (n : Nat) : List Int := (List.range xss.length).map fun i => (cntR (xss.eraseIdx i) n : Int)
theorem cntsL_length (xss : List (List Int)) (n : Nat) : (cntsL xss n).length = xss.length := by simp [cntsL]
theorem cntsL_get {xss : List (List Int)} {n k : Nat} (h : k < xss.length) : (cntsL xss n)[k]? = some (cntR (xss.eraseIdx k) n : Int) := by simp [cntsL, h]
/-- the alternating sum -/
def eulGo (l : List Int) (k : Nat) : Int := (List.range k).foldl (fun (s : Int) (i : Nat) => if i % 2 = 0 then s + l.getD i 0 else s - l.getD i 0) (0 : Int)
theorem eulGo_succ (l : List Int) (k : Nat) : eulGo l (k + 1) = if k % 2 = 0 then eulGo l k + l.getD k 0 else eulGo l k - l.getD k 0 := by unfold eulGo; rw [List.range_succ, List.foldl_append]; rfl
theorem eulGo_bound {l : List Int} {B : Int} (hB : 0 ≤ B) (h : ∀ x ∈ l, -B ≤ x ∧ x ≤ B) : ∀ k : Nat, -(B * k) ≤ eulGo l k ∧ eulGo l k ≤ B * k := by
  intro k
  induction k with
  | zero => simp [eulGo]
  | succ k ih =>
    have hx : -B ≤ l.getD k 0 ∧ l.getD k 0 ≤ B := by
      by_cases hk : k < l.length
      · exact h _ (mem_of_get? (get?_getD 0 hk))
      · rw [show l.getD k 0 = 0 by simp [List.getD, show l.length ≤ k by omega]]; omega
    rw [eulGo_succ]
    have e : B * ((k + 1 : Nat) : Int) = B * k + B := by rw [Int.natCast_add, Int.mul_add]; simp
    rw [e]
    split <;> omega
theorem cntR_le_n {list : List (List Int)} (n : Nat) : cntR list n ≤ n := by
  unfold cntR
  have := List.length_filter_le (rootB list) (List.range n)
  simpa using this
end Go.Proofs.YtbioelmofceaaaaGreat
/- TypP -/
namespace Go.Proofs.YtbioelmofceaaaaGreat
set_option linter.unusedVariables false
set_option maxRecDepth 100000
/-- how often each of the numbers below c stands in the list -/
def hist (l : List Int) (c : Nat) : List Int := (List.range c).map fun (j : Nat) => (l.count (j : Int) : Int)
theorem hist_length (l : List Int) (c : Nat) : (hist l c).length = c := by simp [hist]
theorem hist_get {l : List Int} {c j : Nat} (h : j < c) : (hist l c)[j]? = some (l.count (j : Int) : Int) := by simp [hist, h]
theorem hist_nil (c : Nat) : hist [] c = List.replicate c 0 := by
  apply List.ext_getElem?
  intro j
  by_cases h : j < c
  · rw [hist_get h]; simp [h]
  · rw [List.getElem?_eq_none (by rw [hist_length]; omega), List.getElem?_eq_none (by simp; omega)]
theorem hist_snoc {l : List Int} {c : Nat} {v : Int} (h0 : 0 ≤ v) (h1 : v < c) : hist (l ++ [v]) c = (hist l c).set v.toNat ((l.count v : Int) + 1) := by
  apply List.ext_getElem?
  intro j
  by_cases h : j < c
  · rw [hist_get h, List.getElem?_set, hist_length]
    by_cases e : v.toNat = j
    · rw [if_pos e, if_pos (by omega)]
      have : (j : Int) = v := by omega
      rw [this]
      simp
    · rw [if_neg e, hist_get h]
      have : ¬ v = (j : Int) := by omega
      simp [this]
  · rw [List.getElem?_eq_none (by rw [hist_length]; omega), List.getElem?_eq_none (by rw [List.length_set, hist_length]; omega)]
theorem hist_le (l : List Int) (c : Nat) : ∀ x ∈ hist l c, 0 ≤ x ∧ x ≤ l.length := by
  intro x hx
  obtain ⟨j, _, rfl⟩ := List.mem_map.1 hx
  have := List.count_le_length (a := (j : Int)) (l := l)
  omega
/-- each number once, in the order of their first places -/
def nub (l : List Int) : List Int := l.foldl (fun o p => if p ∈ o then o else o ++ [p]) []
theorem nub_snoc (l : List Int) (x : Int) : nub (l ++ [x]) = if x ∈ nub l then nub l else nub l ++ [x] := by unfold nub; rw [List.foldl_append]; rfl
theorem nub_mem (l : List Int) : ∀ x, x ∈ nub l ↔ x ∈ l := by
  refine list_rev (P := fun l => ∀ x, x ∈ nub l ↔ x ∈ l) (by simp [nub]) (fun t y ih x => ?_) l
  rw [nub_snoc]
  split
  · next h =>
    rw [ih, List.mem_append, List.mem_singleton]
    constructor
    · exact .inl
    · rintro (h1 | rfl)
      · exact h1
      · exact (ih x).1 h
  · rw [List.mem_append, List.mem_append, ih]
theorem nub_nodup (l : List Int) : (nub l).Nodup := by
  refine list_rev (P := fun l => (nub l).Nodup) (by simp [nub]) (fun t y ih => ?_) l
  rw [nub_snoc]
  split
  · exact ih
  · next h =>
    rw [List.nodup_append]
    refine ⟨ih, by simp, fun a ha b hb => ?_⟩
    simp at hb
    subst hb
    intro e
    subst e
    exact h ha
theorem nub_length (l : List Int) : (nub l).length ≤ l.length := by
  refine list_rev (P := fun l => (nub l).length ≤ l.length) (by simp [nub]) (fun t y ih => ?_) l
  rw [nub_snoc]
  split <;> simp <;> omega
/-- the set of the numbers in ascending order -/
def setL (l : List Int) : List Int := sortL (nub l)
theorem setL_mem (l : List Int) (x : Int) : x ∈ setL l ↔ x ∈ l := ((sortL_perm (nub l)).mem_iff).trans (nub_mem l x)
theorem lt_of_sorted_nodup {l : List Int} (h : Sorted l) (hn : l.Nodup) : l.Pairwise (· < ·) := by
  unfold Sorted at h
  unfold List.Nodup at hn
  exact h.imp₂ (fun a b h1 h2 => by omega) hn
theorem setL_lt (l : List Int) : (setL l).Pairwise (· < ·) := lt_of_sorted_nodup (sortL_sorted _) ((sortL_perm _).nodup_iff.2 (nub_nodup l))
theorem strict_unique {xs ys : List Int} (h1 : xs.Pairwise (· < ·)) (h2 : ys.Pairwise (· < ·)) (h : ∀ x, x ∈ xs ↔ x ∈ ys) : xs = ys := by
  have n1 : xs.Nodup := h1.imp (by intro a b h; omega)
  have n2 : ys.Nodup := h2.imp (by intro a b h; omega)
  exact sorted_unique ((List.perm_ext_iff_of_nodup n1 n2).2 h) (h1.imp (by intro a b h; omega)) (h2.imp (by intro a b h; omega))
theorem setL_unique {ys l : List Int} (h : ys.Pairwise (· < ·)) (hm : ∀ x, x ∈ ys ↔ x ∈ l) : ys = setL l := strict_unique h (setL_lt l) (fun x => (hm x).trans (setL_mem l x).symm)
theorem setL_congr {l l' : List Int} (h : ∀ x, x ∈ l ↔ x ∈ l') : setL l = setL l' := setL_unique (setL_lt l) (fun x => (setL_mem l x).trans (h x))
theorem setL_length (l : List Int) : (setL l).length ≤ l.length := by unfold setL; rw [sortL_length]; exact nub_length l
/-- of a sorted list the neighbours that differ -/
theorem compactUpTo_spec {d : Array Int} (hd : Sorted d.toList) : ∀ m, m ≤ d.size → (Lib.compactUpTo d m).Pairwise (· < ·) ∧ (∀ x, x ∈ Lib.compactUpTo d m ↔ x ∈ d.toList.take m) := by
  intro m
  induction m with
  | zero => intro _; simp [Lib.compactUpTo]
  | succ m ih =>
    intro hm
    obtain ⟨i1, i2⟩ := ih (by omega)
    have hget : d[m]! = d[m] := getElem!_pos d m (by omega)
    have htk : d.toList.take (m + 1) = d.toList.take m ++ [d[m]!] := by
      rw [hget]
      exact take_succ_of (by simp)
    have hle : ∀ x ∈ d.toList.take m, x ≤ d[m]! := by
      intro x hx
      obtain ⟨j, hj, e⟩ := List.mem_iff_getElem.1 hx
      have hjm : j < m := by simp at hj; omega
      have := List.pairwise_iff_getElem.1 hd j m (by simp; omega) (by simp; omega) hjm
      rw [hget]
      simp at e this
      omega
    rw [Lib.compactUpTo_succ, htk]
    by_cases hk : Lib.keeps d m = true
    · rw [if_pos hk]
      refine ⟨?_, fun x => by rw [List.mem_append, List.mem_append, i2]⟩
      rw [List.pairwise_append]
      refine ⟨i1, by simp, fun a ha b hb => ?_⟩
      simp at hb
      subst hb
      have h1 := (i2 a).1 ha
      have h2 := hle a h1
      unfold Lib.keeps at hk
      have hk := of_decide_eq_true hk
      rcases hk with h0 | hne
      · subst h0; simp at h1
      · have h3 : a ≤ d[m - 1]! := by
          obtain ⟨j, hj, e⟩ := List.mem_iff_getElem.1 h1
          have hjm : j < m := by simp at hj; omega
          rw [getElem!_pos d (m - 1) (by omega)]
          by_cases e1 : j = m - 1
          · subst e1; simp at e; omega
          · have := List.pairwise_iff_getElem.1 hd j (m - 1) (by simp; omega) (by simp; omega) (by omega)
            simp at e this
            omega
        have h4 : d[m - 1]! ≤ d[m]! := by
          by_cases h0 : m = 0
          · subst h0; simp at h1
          · refine hle _ ?_
            rw [getElem!_pos d (m - 1) (by omega)]
            refine List.mem_iff_getElem.2 ⟨m - 1, by simp; omega, by simp⟩
        omega
    · rw [if_neg hk, List.append_nil]
      refine ⟨i1, fun x => ?_⟩
      rw [i2, List.mem_append]
      constructor
      · exact .inl
      · rintro (h | h)
        · exact h
        · simp at h
          subst h
          unfold Lib.keeps at hk
          have hk : ¬ (m = 0 ∨ d[m]! ≠ d[m - 1]!) := fun h => hk (decide_eq_true h)
          have h0 : m ≠ 0 := fun h => hk (.inl h)
          have h1 : d[m]! = d[m - 1]! := Classical.byContradiction fun h => hk (.inr h)
          rw [h1, getElem!_pos d (m - 1) (by omega)]
          exact List.mem_iff_getElem.2 ⟨m - 1, by simp; omega, by simp⟩
theorem compact_sorted {zs : List Int} (h : Sorted zs) : Lib.compact zs = setL zs := by
  obtain ⟨h1, h2⟩ := compactUpTo_spec (d := zs.toArray) (by simpa using h) zs.length (by simp)
  refine setL_unique h1 (fun x => ?_)
  have := h2 x
  simpa [Lib.compact] using this
theorem compact_sortL (zs : List Int) : Lib.compact (sortL zs) = setL zs := by
  rw [compact_sorted (sortL_sorted zs)]
  exact setL_congr fun x => (sortL_perm zs).mem_iff
/-- half of each -/
def halves (l : List Int) : List Int := l.map fun s => Int.tdiv s 2
/-- the halves of the numbers of points of the orbits -/
def typI (list : List (List Int)) (n : Nat) : List Int := setL ((List.range n).map fun (f : Nat) => Int.tdiv ((bfs list n (f : Int)).length : Int) 2)
theorem plcCount {xs : List Int} {x : Int} : ∀ k, k ≤ xs.length → (plc xs x k).length = (xs.take k).count x := by
  intro k hk
  induction k with
  | zero => simp [plc]
  | succ k ih =>
    have hg : xs[k]? = some xs[k] := List.getElem?_eq_getElem (by omega)
    rw [take_succ_of hg, List.count_append, plc_succ, List.length_append, ih (by omega), getD_some hg]
    congr 1
    by_cases e : x = xs[k]
    · rw [if_pos e, ← e]; simp
    · rw [if_neg e]
      have e2 : ¬ xs[k] = x := fun h => e h.symm
      simp [e2]
theorem lab_onto {list : List (List Int)} : ∀ n j : Nat, j < cntR list n → ∃ x : Nat, x < n ∧ labOf list x = (j : Int) := by
  intro n
  induction n with
  | zero => intro j hj; simp [cntR] at hj
  | succ n ih =>
    intro j hj
    rw [cntR_succ] at hj
    by_cases hr : rootB list n = true
    · rw [if_pos hr] at hj
      by_cases e : j = cntR list n
      · have hroot : rootOf list n = n := rootOf_eq Rch.refl (fun j hj hh => root_iff.1 hr ⟨j, hj, hh⟩)
        refine ⟨n, by omega, ?_⟩
        unfold labOf
        rw [hroot, e]
      · obtain ⟨x, h1, h2⟩ := ih j (by omega)
        exact ⟨x, by omega, h2⟩
    · rw [if_neg hr, Nat.add_zero] at hj
      obtain ⟨x, h1, h2⟩ := ih j hj
      exact ⟨x, by omega, h2⟩
theorem typI_eq {list : List (List Int)} {n : Nat} (hs : SysOf list n) : setL (halves (hist (labL list n) (cntR list n))) = typI list n := by
  have hcount : ∀ x : Nat, x < n → ((labL list n).count (labOf list x) : Int) = ((bfs list n (x : Int)).length : Int) := by
    intro x hx
    have h1 := places_eq hs hx
    have h2 := plcCount (xs := labL list n) (x := labOf list x) n (by rw [labL_length]; exact Nat.le_refl _)
    rw [List.take_of_length_le (by rw [labL_length]; exact Nat.le_refl _)] at h2
    rw [← h2, h1, sortL_length]
  unfold typI
  refine setL_congr fun v => ?_
  unfold halves
  simp only [List.mem_map]
  constructor
  · rintro ⟨s, hs1, rfl⟩
    obtain ⟨j, hj, rfl⟩ := List.mem_map.1 hs1
    have hj := List.mem_range.1 hj
    obtain ⟨x, hx, e⟩ := lab_onto n j hj
    exact ⟨x, List.mem_range.2 hx, by rw [← hcount x hx, e]⟩
  · rintro ⟨x, hx, rfl⟩
    have hx := List.mem_range.1 hx
    have hl := lab_lt hs hx
    have h0 := labOf_nonneg list x
    refine ⟨((labL list n).count (labOf list x) : Int), ?_, by rw [hcount x hx]⟩
    refine List.mem_map.2 ⟨(labOf list x).toNat, List.mem_range.2 (by omega), by rw [Int.toNat_of_nonneg h0]⟩
theorem typI_ne {list : List (List Int)} {n : Nat} (hn : 0 < n) : ∃ x, (typI list n)[0]? = some x := by
  have h : ∃ y, y ∈ typI list n := ⟨_, (setL_mem _ _).2 (List.mem_map.2 ⟨0, List.mem_range.2 hn, rfl⟩)⟩
  obtain ⟨y, hy⟩ := h
  cases e : typI list n with
  | nil => rw [e] at hy; simp at hy
  | cons a l => exact ⟨a, rfl⟩
theorem typI_length (list : List (List Int)) (n : Nat) : (typI list n).length ≤ n := by
  have := setL_length ((List.range n).map fun (f : Nat) => Int.tdiv ((bfs list n (f : Int)).length : Int) 2)
  rw [List.length_map, List.length_range] at this
  exact this
/-- the type -/
def typL (xss : List (List Int)) (n : Nat) : List (List Int) := (List.range (xss.length - 1)).map fun i => typI (subL xss i (i + 2)) n
theorem typL_length (xss : List (List Int)) (n : Nat) : (typL xss n).length = xss.length - 1 := by simp [typL]
theorem typL_get {xss : List (List Int)} {n k : Nat} (h : k < xss.length - 1) : (typL xss n)[k]? = some (typI (subL xss k (k + 2)) n) := by simp [typL, h]
end Go.Proofs.YtbioelmofceaaaaGreat
/- IsoQ -/
namespace Go.Proofs.YtbioelmofceaaaaGreat
set_option linter.unusedVariables false
set_option maxRecDepth 100000
theorem iso_rch_iff {m n : Nat} {φ : Int → Int} {ys zs : List (List Int)} (hs : SysOf ys m) (hI : Iso ys zs m n φ) {x y : Int} (h0 : 0 ≤ x) (h1 : x < m) (y0 : 0 ≤ y) (y1 : y < m) : Rch zs (φ x) (φ y) ↔ Rch ys x y := by
  refine ⟨fun h => ?_, fun h => iso_rch hs hI h0 h1 h⟩
  obtain ⟨u, e, u0, u1, hu⟩ := iso_rch_back hs hI h0 h1 h
  have := hI.inj y u y0 y1 u0 u1 e
  rwa [this]
/-- not more orbits than where it is carried to -/
theorem cnt_le {m n : Nat} {φ : Int → Int} {ys zs : List (List Int)} (hs : SysOf ys m) (ht : SysOf zs n) (hI : Iso ys zs m n φ) : cntR ys m ≤ cntR zs n := by
  have key : ∀ r : Nat, r < m → (φ (r : Int)).toNat < n ∧ (((φ (r : Int)).toNat : Nat) : Int) = φ (r : Int) := fun r hr => by
    have := hI.rng (r : Int) (by omega) (by omega)
    omega
  have e : cntR ys m = (((List.range m).filter (rootB ys)).map fun (r : Nat) => rootOf zs (φ (r : Int)).toNat).length := by simp [cntR]
  rw [e]
  refine nodup_sub_len _ ((List.range n).filter (rootB zs)) ?_ ?_
  · rw [List.nodup_iff_pairwise_ne, List.pairwise_map]
    refine List.Pairwise.imp_of_mem ?_ (List.Pairwise.filter _ List.pairwise_lt_range)
    intro a b ha hb hab eab
    rw [List.mem_filter, List.mem_range] at ha hb
    obtain ⟨ka, ea⟩ := key a ha.1
    obtain ⟨kb, eb⟩ := key b hb.1
    have h1 := (rootOf_spec zs (φ (a : Int)).toNat).1
    have h2 := (rootOf_spec zs (φ (b : Int)).toNat).1
    have hr := rootOf_le zs (φ (a : Int)).toNat
    have h3 := h1.symm ht (by omega) (by omega)
    rw [eab] at h3
    have h4 := h3.trans h2
    rw [ea, eb] at h4
    have h5 := (iso_rch_iff hs hI (by omega) (by omega) (by omega) (by omega)).1 h4
    exact (root_iff.1 hb.2) ⟨a, hab, h5⟩
  · intro t ht'
    obtain ⟨r, hr, rfl⟩ := List.mem_map.1 ht'
    rw [List.mem_filter, List.mem_range] at hr
    obtain ⟨ka, _⟩ := key r hr.1
    rw [List.mem_filter, List.mem_range]
    have := rootOf_le zs (φ (r : Int)).toNat
    exact ⟨by omega, rootB_rootOf ht ka⟩
theorem Iso.erase {ys zs : List (List Int)} {m n : Nat} {φ : Int → Int} (h : Iso ys zs m n φ) (i : Nat) : Iso (ys.eraseIdx i) (zs.eraseIdx i) m n φ := by
  refine ⟨?_, h.le, h.rng, h.inj, fun k q p hq hp => ?_⟩
  · rw [List.length_eraseIdx, List.length_eraseIdx, h.len]
  · rw [List.getElem?_eraseIdx] at hq hp
    by_cases e : k < i
    · rw [if_pos e] at hq hp
      exact h.com _ q p hq hp
    · rw [if_neg e] at hq hp
      exact h.com _ q p hq hp
theorem typ_le {m n : Nat} {φ : Int → Int} {ys zs : List (List Int)} (hs : SysOf ys m) (hI : Iso ys zs m n φ) : ∀ v, v ∈ typI ys m → v ∈ typI zs n := by
  intro v hv
  unfold typI at hv ⊢
  rw [setL_mem, List.mem_map] at hv ⊢
  obtain ⟨g, hg, rfl⟩ := hv
  have hg := List.mem_range.1 hg
  have hr := hI.rng (g : Int) (by omega) (by omega)
  have e := iso_len hs hI (x := (g : Int)) (by omega) (by omega)
  refine ⟨(φ (g : Int)).toNat, List.mem_range.2 (by omega), ?_⟩
  rw [Int.toNat_of_nonneg hr.1, e]
theorem typ_same {n : Nat} {φ ψ : Int → Int} {ys zs : List (List Int)} (hs : SysOf ys n) (ht : SysOf zs n) (hI : Iso ys zs n n φ) (hJ : Iso zs ys n n ψ) : typI ys n = typI zs n :=
  strict_unique (setL_lt _) (setL_lt _) fun v => ⟨typ_le hs hI v, typ_le ht hJ v⟩
theorem bool_two {a b c : Bool} (h : a ≠ b) (g : c ≠ b) : a = c := by cases a <;> cases b <;> cases c <;> simp_all
/-- two colours that each move changes -/
def Two2 (xss : List (List Int)) (n : Nat) (c : Int → Bool) : Prop := ∀ p ∈ xss, ∀ z : Int, 0 ≤ z → z < n → c (at' p z) ≠ c z
theorem col_iff {xss : List (List Int)} {n : Nat} {x : Int} {D : List Int} (hs : SysOf xss n) (hD : DFin xss n x D) : colB xss n D = true ↔ ∃ c, Two2 xss n c := by
  constructor
  · intro h
    refine ⟨fun z => decide (dat D z % 2 = 0), fun p hp z z0 z1 e => ?_⟩
    unfold colB at h
    have h1 := List.all_eq_true.1 h z.toNat (List.mem_range.2 (by omega))
    unfold edgesB at h1
    have h2 := List.all_eq_true.1 h1 p hp
    rw [Int.toNat_of_nonneg z0] at h2
    unfold edgeB at h2
    have h3 := of_decide_eq_true h2
    have e := decide_eq_decide.1 e
    omega
  · rintro ⟨c, hc⟩
    have key : ∀ (k : Nat) (z : Int), 0 ≤ z → z < n → dat D z = k → (c z = c x ↔ k % 2 = 0) := by
      intro k
      induction k with
      | zero =>
        intro z z0 z1 h
        have := (dist_zero hD z0 z1).2 h
        subst this
        simp
      | succ k ih =>
        intro z z0 z1 h
        have hne : z ≠ x := fun e => by
          have := (dist_zero hD z0 z1).1 e
          omega
        obtain ⟨y, p, hp, y0, y1, e, hd⟩ := hD.par z z0 z1 hne
        have h1 := ih y y0 y1 (by omega)
        have h2 := hc p hp y y0 y1
        rw [← e] at h2
        by_cases hk : k % 2 = 0
        · rw [h1.2 hk] at h2
          exact ⟨fun g => absurd g h2, fun g => by omega⟩
        · exact ⟨fun _ => by omega, fun _ => bool_two h2 (fun g => hk (h1.1 g.symm))⟩
    unfold colB
    rw [List.all_eq_true]
    intro f hf
    have hf := List.mem_range.1 hf
    unfold edgesB
    rw [List.all_eq_true]
    intro p hp
    unfold edgeB
    have hr := at'_rng (hs p hp).1 (hs p hp).2.2 (show (0 : Int) ≤ (f : Int) by omega) (by omega)
    have r1 := hD.rng (f : Int) (by omega) (by omega)
    have r2 := hD.rng _ hr.1 hr.2
    have k1 := key (dat D (f : Int)).toNat (f : Int) (by omega) (by omega) (by omega)
    have k2 := key (dat D (at' p (f : Int))).toNat _ hr.1 hr.2 (by omega)
    have h2 := hc p hp (f : Int) (by omega) (by omega)
    refine decide_eq_true (fun e => ?_)
    have e2 : (dat D (at' p (f : Int))).toNat % 2 = (dat D (f : Int)).toNat % 2 := by omega
    rw [e2] at k2
    have : c (at' p (f : Int)) = c x ↔ c (f : Int) = c x := k2.trans k1.symm
    by_cases hx : c (f : Int) = c x
    · exact h2 ((this.2 hx).trans hx.symm)
    · exact h2 (bool_two (fun g => hx (this.1 g)) hx)
theorem two_back {m n : Nat} {φ : Int → Int} {ys zs : List (List Int)} (hs : SysOf ys m) (hI : Iso ys zs m n φ) {c : Int → Bool} (h : Two2 zs n c) : Two2 ys m (fun z => c (φ z)) := by
  intro q hq z z0 z1
  obtain ⟨j, hj⟩ := List.mem_iff_getElem?.1 hq
  have hj2 : j < zs.length := by have := (List.getElem?_eq_some_iff.1 hj).1; have := hI.len; omega
  have hr := hI.rng z z0 z1
  show c (φ (at' q z)) ≠ c (φ z)
  rw [hI.com j q _ hj (List.getElem?_eq_getElem hj2) z z0 z1]
  exact h _ (List.getElem_mem hj2) _ hr.1 hr.2
/-- distances do not grow -/
theorem iso_dist_le {m n : Nat} {φ : Int → Int} {ys zs : List (List Int)} {x : Int} {D E : List Int} (hs : SysOf ys m) (hI : Iso ys zs m n φ) (hD : DFin ys m x D) (hE : DFin zs n (φ x) E) : ∀ (k : Nat) (z : Int), 0 ≤ z → z < m → dat D z = k → dat E (φ z) ≤ k := by
  intro k
  induction k with
  | zero =>
    intro z z0 z1 h
    have := (dist_zero hD z0 z1).2 h
    subst this
    rw [hE.zero]
    omega
  | succ k ih =>
    intro z z0 z1 h
    have hne : z ≠ x := fun e => by
      have := (dist_zero hD z0 z1).1 e
      omega
    obtain ⟨y, p, hp, y0, y1, e, hd⟩ := hD.par z z0 z1 hne
    have h1 := ih y y0 y1 (by omega)
    obtain ⟨j, hj⟩ := List.mem_iff_getElem?.1 hp
    have hj2 : j < zs.length := by have := (List.getElem?_eq_some_iff.1 hj).1; have := hI.len; omega
    have hr := hI.rng y y0 y1
    have h2 := hE.lip (φ y) _ hr.1 hr.2 (List.getElem_mem hj2)
    rw [← hI.com j p _ hj (List.getElem?_eq_getElem hj2) y y0 y1, ← e] at h2
    omega
end Go.Proofs.YtbioelmofceaaaaGreat
/- LexQ -/
namespace Go.Proofs.YtbioelmofceaaaaGreat
set_option linter.unusedVariables false
set_option maxRecDepth 100000
theorem cmpL_anti : ∀ a b : List Int, cmpL b a = - cmpL a b := by
  intro a
  induction a with
  | nil => intro b; cases b <;> simp [cmpL]
  | cons x s ih =>
    intro b
    cases b with
    | nil => simp [cmpL]
    | cons y t =>
      unfold cmpL
      by_cases h1 : x < y
      · rw [if_pos h1, if_neg (by omega), if_pos h1]; rfl
      · rw [if_neg h1]
        by_cases h2 : y < x
        · rw [if_pos h2, if_neg h1, if_pos h2]
        · rw [if_neg h2, if_neg h2, if_neg h1, ih t]
theorem cmpL_trans : ∀ a b c : List Int, cmpL a b ≤ 0 → cmpL b c ≤ 0 → cmpL a c ≤ 0 := by
  intro a
  induction a with
  | nil => intro b c _ _; cases c <;> simp [cmpL]
  | cons x s ih =>
    intro b c h1 h2
    cases b with
    | nil => simp [cmpL] at h1
    | cons y t =>
      cases c with
      | nil => simp [cmpL] at h2
      | cons z u =>
        unfold cmpL at h1 h2 ⊢
        by_cases a1 : x < y
        · by_cases a2 : y < z
          · rw [if_pos (by omega)]; omega
          · by_cases a3 : z < y
            · rw [if_neg a2, if_pos a3] at h2; omega
            · rw [if_pos (by omega)]; omega
        · by_cases a1' : y < x
          · rw [if_neg a1, if_pos a1'] at h1; omega
          · rw [if_neg a1, if_neg a1'] at h1
            by_cases a2 : y < z
            · rw [if_pos (by omega)]; omega
            · by_cases a3 : z < y
              · rw [if_neg a2, if_pos a3] at h2; omega
              · rw [if_neg a2, if_neg a3] at h2
                rw [if_neg (by omega), if_neg (by omega)]
                exact ih t u h1 h2
theorem cmp2_anti : ∀ a b : List (List Int), cmp2 b a = - cmp2 a b := by
  intro a
  induction a with
  | nil => intro b; cases b <;> simp [cmp2]
  | cons x s ih =>
    intro b
    cases b with
    | nil => simp [cmp2]
    | cons y t =>
      unfold cmp2
      have h := cmpL_anti x y
      by_cases h0 : cmpL x y = 0
      · rw [if_pos h0, if_pos (by omega), ih t]
      · rw [if_neg h0, if_neg (by omega), h]
theorem cmp2_zero : ∀ a b : List (List Int), cmp2 a b = 0 → a = b := by
  intro a
  induction a with
  | nil => intro b h; cases b with | nil => rfl | cons _ _ => simp [cmp2] at h
  | cons x s ih =>
    intro b h
    cases b with
    | nil => simp [cmp2] at h
    | cons y t =>
      unfold cmp2 at h
      by_cases h0 : cmpL x y = 0
      · rw [if_pos h0] at h
        rw [(cmpL_zero x y).1 h0, ih t h]
      · rw [if_neg h0] at h; exact absurd h h0
theorem cmp2_trans : ∀ a b c : List (List Int), cmp2 a b ≤ 0 → cmp2 b c ≤ 0 → cmp2 a c ≤ 0 := by
  intro a
  induction a with
  | nil => intro b c _ _; cases c <;> simp [cmp2]
  | cons x s ih =>
    intro b c h1 h2
    cases b with
    | nil => simp [cmp2] at h1
    | cons y t =>
      cases c with
      | nil => simp [cmp2] at h2
      | cons z u =>
        unfold cmp2 at h1 h2 ⊢
        by_cases a1 : cmpL x y = 0
        · have e := (cmpL_zero x y).1 a1
          subst e
          rw [if_pos a1] at h1
          by_cases a2 : cmpL x z = 0
          · rw [if_pos a2] at h2 ⊢
            exact ih t u h1 h2
          · rw [if_neg a2] at h2 ⊢
            exact h2
        · rw [if_neg a1] at h1
          by_cases a2 : cmpL y z = 0
          · have e := (cmpL_zero y z).1 a2
            subst e
            rw [if_neg a1]
            exact h1
          · rw [if_neg a2] at h2
            have h3 := cmpL_trans x y z h1 h2
            by_cases a3 : cmpL x z = 0
            · exfalso
              have e := (cmpL_zero x z).1 a3
              subst e
              have := cmpL_anti x y
              omega
            · rw [if_neg a3]; exact h3
/-- the least form is not greater than any form -/
theorem least_le (xss : List (List Int)) (n : Nat) : ∀ k f : Nat, (f < k ∨ f = 0) → cmp2 (leastGo xss n k) (formL xss n (f : Int)) ≤ 0 := by
  intro k
  induction k with
  | zero =>
    intro f hf
    obtain rfl : f = 0 := by omega
    show cmp2 (formL xss n 0) (formL xss n ((0 : Nat) : Int)) ≤ 0
    rw [show (((0 : Nat)) : Int) = 0 from rfl, cmp2_refl]
    omega
  | succ k ih =>
    intro f hf
    rw [leastGo_succ]
    unfold minF
    by_cases h : cmp2 (formL xss n (k : Int)) (leastGo xss n k) < 0
    · rw [if_pos h]
      by_cases e : f = k
      · subst e; rw [cmp2_refl]; omega
      · exact cmp2_trans _ _ _ (by omega) (ih f (by omega))
    · rw [if_neg h]
      by_cases e : f = k
      · subst e
        have := cmp2_anti (leastGo xss n f) (formL xss n (f : Int))
        omega
      · exact ih f (by omega)
/-- two that have the same forms have the same least form -/
theorem least_same {ys zs : List (List Int)} {m n : Nat} (hm : 1 ≤ m) (hn : 1 ≤ n) (h1 : ∀ f : Nat, f < m → ∃ g : Nat, g < n ∧ formL ys m (f : Int) = formL zs n (g : Int)) (h2 : ∀ g : Nat, g < n → ∃ f : Nat, f < m ∧ formL zs n (g : Int) = formL ys m (f : Int)) : leastGo ys m m = leastGo zs n n := by
  obtain ⟨f, hf, ef⟩ := leastGo_form ys m m
  obtain ⟨g, hg, eg⟩ := leastGo_form zs n n
  obtain ⟨g', hg', eg'⟩ := h1 f (by omega)
  obtain ⟨f', hf', ef'⟩ := h2 g (by omega)
  have a := least_le zs n n g' (.inl hg')
  have b := least_le ys m m f' (.inl hf')
  rw [← eg', ← ef] at a
  rw [← ef', ← eg] at b
  have := cmp2_anti (leastGo ys m m) (leastGo zs n n)
  exact cmp2_zero _ _ (by omega)
end Go.Proofs.YtbioelmofceaaaaGreat
/- LabP -/
namespace Go.Proofs.YtbioelmofceaaaaGreat
set_option linter.unusedVariables false
theorem labOf_le {list : List (List Int)} {n p : Nat} (hs : SysOf list n) (hp : p < n) : labOf list p ≤ cntR list p ∧ (labOf list p = cntR list p ↔ rootB list p = true) := by
  have hr := rootB_rootOf hs hp
  have hle := rootOf_le list p
  unfold labOf
  rcases Nat.lt_or_ge (rootOf list p) p with h | h
  · have := cntR_lt hr h
    refine ⟨by omega, ⟨fun e => by omega, fun e => ?_⟩⟩
    exfalso
    have h1 := (rootOf_spec list p).1
    rw [root_iff] at e
    exact e ⟨_, h, h1⟩
  · have e : rootOf list p = p := by omega
    rw [e] at hr ⊢
    exact ⟨by omega, fun _ => hr, fun _ => rfl⟩
/-- the step of the count, where the label is the count and where it is not -/
theorem lab_step {list : List (List Int)} {n p : Nat} (hs : SysOf list n) (hp : p < n) : (labOf list p = cntR list p ∧ cntR list (p + 1) = cntR list p + 1) ∨ (labOf list p < cntR list p ∧ cntR list (p + 1) = cntR list p) := by
  obtain ⟨h1, h2⟩ := labOf_le hs hp
  have h3 := cntR_succ list p
  by_cases e : labOf list p = cntR list p
  · left
    rw [if_pos (h2.1 e)] at h3
    exact ⟨e, h3⟩
  · right
    rw [if_neg (fun g => e (h2.2 g))] at h3
    exact ⟨by omega, h3⟩
/-- a permutation of the system keeps the labels -/
theorem lab_at {list : List (List Int)} {n p : Nat} {row : List Int} {q : Int} (hs : SysOf list n) (hp : p < n) (hr : row ∈ list) (hq : row[p]? = some q) : ∃ Q : Nat, q = (Q : Int) ∧ Q < n ∧ (labL list n)[Q]? = some (labOf list p) := by
  obtain ⟨h1, h2, h3⟩ := hs row hr
  obtain ⟨h4, h5⟩ := h1 q (List.mem_of_getElem? hq)
  obtain ⟨Q, rfl⟩ := Int.eq_ofNat_of_zero_le h4
  have hQ : Q < n := by omega
  refine ⟨Q, rfl, hQ, ?_⟩
  rw [labL_get hQ]
  have hat : at' row (p : Int) = (Q : Int) := by unfold at'; simp [List.getD_eq_getElem?_getD, hq]
  have hR : Rch list (p : Int) (Q : Int) := by rw [← hat]; exact .step .refl hr
  rw [(labOf_eq_iff hs hp hQ).2 hR]
theorem runW_rch {list : List (List Int)} {n : Nat} (hs : SysOf list n) : ∀ (word : List Int) (x : Int), (∀ g ∈ word, 0 ≤ g ∧ g < list.length) → Rch list x (runW list word x) := by
  intro word
  induction word with
  | nil => intro x _; exact .refl
  | cons g word ih =>
    intro x hw
    obtain ⟨h0, h1⟩ := hw g (by simp)
    obtain ⟨G, rfl⟩ := Int.eq_ofNat_of_zero_le h0
    have hG : G < list.length := by omega
    have hm : list[G] ∈ list := List.getElem_mem hG
    have e : runW list ((G : Int) :: word) x = runW list word (at' list[G] x) := by
      unfold runW at'
      simp [List.getD_eq_getElem?_getD, List.getElem?_eq_getElem hG]
    rw [e]
    exact (Rch.step .refl hm).trans (ih _ fun g hg => hw g (List.mem_cons_of_mem _ hg))
/-- what the law asks at the end -/
theorem apply_in {list : List (List Int)} {n p : Nat} {word : List Int} (hs : isSysB n list = true) (hp : p < n) (hl : word.length ≤ 64) (hw : ∀ g ∈ word, 0 ≤ g ∧ g < list.length) : applyF n list word p = (runW list word p, 0) ∧ decide (runW list word p ∈ plc (labL list n) (labOf list p) n) = true := by
  have hS := (sysOf hs).1
  have hall : allIn 0 ((list.length : Int) - 1) word = true := by
    unfold allIn
    rw [List.all_eq_true]
    intro g hg
    have := hw g hg
    exact inR_iff.2 ⟨this.1, by omega⟩
  refine ⟨?_, decide_eq_true ?_⟩
  · unfold applyF
    rw [if_pos hs, if_pos ⟨inR_iff.2 ⟨by omega, by omega⟩, hl, hall⟩]
  · rw [places_eq hS hp, (sortL_perm _).mem_iff]
    exact (bfs_mem hS (by omega) (by omega)).2 (runW_rch hS word p hw)
theorem orbit_in {list : List (List Int)} {n p : Nat} (hs : isSysB n list = true) (hp : p < n) : orbOF n list p = (plc (labL list n) (labOf list p) n, 0) := by
  unfold orbOF
  rw [if_pos hs, if_pos (inR_iff.2 ⟨by omega, by omega⟩), places_eq (sysOf hs).1 hp]
  rfl
end Go.Proofs.YtbioelmofceaaaaGreat
/- FsQ -/
namespace Go.Proofs.YtbioelmofceaaaaGreat
set_option linter.unusedVariables false
set_option maxRecDepth 100000
theorem subL_get {xss : List (List Int)} {i j : Nat} {p : List Int} (h : p ∈ subL xss i j) : ∃ k, i ≤ k ∧ k < j ∧ xss[k]? = some p := by
  obtain ⟨k, hk⟩ := List.mem_iff_getElem?.1 h
  unfold subL at hk
  rw [List.getElem?_take] at hk
  by_cases e : k < j - i
  · rw [if_pos e, List.getElem?_drop] at hk
    exact ⟨i + k, by omega, by omega, hk⟩
  · rw [if_neg e] at hk
    exact absurd hk (by simp)
theorem comm_hk {xss : List (List Int)} (hP : ManP xss) (I : Nat) : CommL (subL xss 0 I) (subL xss (I + 1) xss.length) (flg xss) := by
  intro p hp q hq z z0 z1
  obtain ⟨j, _, hj, hjp⟩ := subL_get hp
  obtain ⟨k, hk, _, hkq⟩ := subL_get hq
  have := hP.com j k p q (by omega) hjp hkq
  unfold parB at this
  have := List.all_eq_true.1 this z.toNat (List.mem_range.2 (by omega))
  unfold comB at this
  simp only [Bool.and_eq_true] at this
  have := of_decide_eq_true this.2
  exact this
theorem plc_bfs {list : List (List Int)} {n f : Nat} {y : Int} (hs : SysOf list n) (hf : f < n) (hy : labOf list f = y) : (plc (labL list n) y n).length = (bfs list n (f : Int)).length := by
  have hm := bfs_met hs (x := (f : Int)) (by omega) (by omega)
  have key : ∀ z : Int, z ∈ plc (labL list n) y n ↔ z ∈ bfs list n (f : Int) := by
    intro z
    rw [plc_mem, bfs_mem hs (by omega) (by omega)]
    constructor
    · rintro ⟨z0, z1, e⟩
      obtain ⟨Z, rfl⟩ := Int.eq_ofNat_of_zero_le z0
      rw [Int.toNat_natCast, getD_some (labL_get (by omega)), ← hy] at e
      exact (labOf_eq_iff hs hf (by omega)).1 e
    · intro hz
      have hr := hz.rng hs (by omega) (by omega)
      obtain ⟨Z, rfl⟩ := Int.eq_ofNat_of_zero_le hr.1
      refine ⟨by omega, by omega, ?_⟩
      rw [Int.toNat_natCast, getD_some (labL_get (by omega)), ← hy]
      exact (labOf_eq_iff hs hf (by omega)).2 hz
  exact Nat.le_antisymm (nodup_sub_len _ _ (plc_nodup _ _ _) fun z hz => (key z).1 hz) (nodup_sub_len _ _ hm.nd fun z hz => (key z).2 hz)
theorem flg_form {xss : List (List Int)} {n : Nat} {x : Int} (h : 1 ≤ xss.length) : flg (formL xss n x) = (bfs xss n x).length := by
  obtain ⟨p, hp⟩ : ∃ p, xss[0]? = some p := ⟨_, List.getElem?_eq_getElem (by omega)⟩
  unfold flg formL
  rw [getD_some (x := ixF (bfs xss n x) p) (by rw [List.getElem?_map, hp]; rfl), ixF_length]
theorem bfs_same_mem {hs ks : List (List Int)} {n : Nat} {x : Int} (hH : SysOf hs n) (hK : SysOf ks n) (hm : ∀ p, p ∈ hs ↔ p ∈ ks) (h0 : 0 ≤ x) (h1 : x < n) : (bfs hs n x).length = (bfs ks n x).length := by
  have a := bfs_met hH h0 h1
  have b := bfs_met hK h0 h1
  have up : ∀ (l l' : List (List Int)), (∀ p, p ∈ l → p ∈ l') → ∀ u, Rch l x u → Rch l' x u := by
    intro l l' hll u hu
    induction hu with
    | refl => exact .refl
    | step _ hp ih => exact ih.step (hll _ hp)
  exact Nat.le_antisymm (nodup_sub_len _ _ a.nd fun z hz => (bfs_mem hK h0 h1).2 (up _ _ (fun p => (hm p).1) z (a.rch z hz))) (nodup_sub_len _ _ b.nd fun z hz => (bfs_mem hH h0 h1).2 (up _ _ (fun p => (hm p).2) z (b.rch z hz)))
/-- the numbers of flags of a face, of its maniplex and its coface -/
theorem fs_facts {xss : List (List Int)} (hP : ManP xss) {N I fl : Nat} {y : Int} (hN : flg xss = N) (hI : I < xss.length) (hfl : fl < N) (hy : labOf (xss.eraseIdx I) fl = y) :
    (plc (labL (xss.eraseIdx I) N) y N).length = (bfs (xss.eraseIdx I) N (fl : Int)).length ∧
    (∀ z ∈ plc (labL (xss.eraseIdx I) N) y N, (bfs (subL xss 0 I) N z).length = (bfs (subL xss 0 I) N (fl : Int)).length) ∧
    (bfs (subL xss 0 I) N (fl : Int)).length ∣ (bfs (xss.eraseIdx I) N (fl : Int)).length ∧
    (bfs (subL xss (I + 1) xss.length) N (fl : Int)).length ∣ (bfs (xss.eraseIdx I) N (fl : Int)).length ∧
    (bfs (xss.eraseIdx I) N (fl : Int)).length ≤ (bfs (subL xss (I + 1) xss.length) N (fl : Int)).length * (bfs (subL xss 0 I) N (fl : Int)).length ∧
    (I + 1 = xss.length → (bfs (xss.eraseIdx I) N (fl : Int)).length = (bfs (subL xss 0 I) N (fl : Int)).length) := by
  have hS : SysOf xss N := by rw [← hN]; exact hP.sys
  have hL : SysOf (xss.eraseIdx I) N := fun p hp => hS p (List.mem_of_mem_eraseIdx hp)
  have hH := sysOf_sub hS 0 I
  have hK := sysOf_sub hS (I + 1) xss.length
  have hc : CommL (subL xss 0 I) (subL xss (I + 1) xss.length) N := by rw [← hN]; exact comm_hk hP I
  have hl : ∀ p ∈ xss.eraseIdx I, p ∈ subL xss 0 I ∨ p ∈ subL xss (I + 1) xss.length := fun p hp => (erase_two p).1 hp
  have h0 : (0 : Int) ≤ (fl : Int) := by omega
  have h1 : (fl : Int) < N := by omega
  refine ⟨plc_bfs hL hfl hy, fun z hz => ?_, ?_, ?_, ?_, fun e => ?_⟩
  · obtain ⟨z0, z1, e⟩ := plc_mem.1 hz
    obtain ⟨Z, rfl⟩ := Int.eq_ofNat_of_zero_le z0
    rw [Int.toNat_natCast, getD_some (labL_get (by omega)), ← hy] at e
    exact (orb_size hH hK hl hc h0 h1 ((labOf_eq_iff hL hfl (by omega)).1 e)).2.2
  · exact orb_dvd hH hK hL hl (fun p hp => (erase_two p).2 (.inl hp)) hc h0 h1
  · exact orb_dvd hK hH hL (fun p hp => (hl p hp).symm) (fun p hp => (erase_two p).2 (.inr hp)) hc.symm h0 h1
  · exact orb_mul hH hK hL hl hc (fun p hp => (erase_two p).2 (.inr hp)) h0 h1
  · refine bfs_same_mem hL hH (fun p => ?_) h0 h1
    rw [erase_two]
    have : subL xss (I + 1) xss.length = [] := by unfold subL; rw [e]; simp
    rw [this]
    simp
end Go.Proofs.YtbioelmofceaaaaGreat
/- SeqP -/
namespace Go.Proofs.YtbioelmofceaaaaGreat
set_option linter.unusedVariables false
set_option maxRecDepth 100000
theorem bfs_head {list : List (List Int)} {n : Nat} {x : Int} : (bfs list n x)[0]? = some x := by
  have key : ∀ (f : Nat) (out : List Int) (i : Nat), out[0]? = some x → (bfsGo list f out i)[0]? = some x := by
    intro f
    induction f with
    | zero => intro out i h; exact h
    | succ f ih =>
      intro out i h
      cases hx : out[i]? with
      | none =>
        rw [bfsGo_stop (List.getElem?_eq_none_iff.1 hx)]
        exact h
      | some y =>
        rw [bfsGo_step hx]
        refine ih _ _ ?_
        have : ∀ (ps : List (List Int)) (o : List Int), o[0]? = some x → (bfsStep ps y o)[0]? = some x := by
          intro ps
          induction ps with
          | nil => intro o ho; exact ho
          | cons p t ih2 =>
            intro o ho
            show (bfsStep t y (if at' p y ∈ o then o else o ++ [at' p y]))[0]? = some x
            refine ih2 _ ?_
            by_cases hm : at' p y ∈ o
            · rw [if_pos hm]; exact ho
            · rw [if_neg hm, List.getElem?_append_left (List.getElem?_eq_some_iff.1 ho).1]; exact ho
        exact this list out h
  exact key _ _ _ rfl
/-- what is carried over from a form -/
def phi (xss : List (List Int)) (n : Nat) (x : Int) (j : Int) : Int := (bfs xss n x).getD j.toNat 0
theorem phi_zero {xss : List (List Int)} {n : Nat} {x : Int} : phi xss n x 0 = x := getD_some bfs_head
theorem form_iso' {xss : List (List Int)} {n : Nat} {x : Int} (hs : SysOf xss n) (h0 : 0 ≤ x) (h1 : x < n) : Iso (formL xss n x) xss (bfs xss n x).length n (phi xss n x) := form_iso hs h0 h1
theorem free_iff {p : List Int} {n : Nat} (hl : p.length = n) : freeB p = true ↔ ∀ z : Int, 0 ≤ z → z < n → at' p z ≠ z ∧ at' p (at' p z) = z := by
  unfold freeB
  rw [decide_eq_true_iff]
  constructor
  · intro h z z0 z1
    have := h z.toNat (by omega)
    rw [Int.toNat_of_nonneg z0] at this
    exact this
  · intro h i hi
    have := h (i : Int) (by omega) (by omega)
    unfold at' at this
    rw [Int.toNat_natCast] at this
    exact this
theorem com_iff {a b : List Int} {n : Nat} : parB n a b = true ↔ ∀ z : Int, 0 ≤ z → z < n → at' a z ≠ at' b z ∧ at' b (at' a z) = at' a (at' b z) := by
  unfold parB comB
  rw [List.all_eq_true]
  constructor
  · intro h z z0 z1
    have := h z.toNat (List.mem_range.2 (by omega))
    simp only [Bool.and_eq_true, decide_eq_true_eq] at this
    exact this
  · intro h f hf
    have := h (f : Int) (by omega) (by have := List.mem_range.1 hf; omega)
    simp only [Bool.and_eq_true, decide_eq_true_eq]
    unfold at' at this
    rw [Int.toNat_natCast] at this
    exact this
/-- a section of a maniplex is a maniplex -/
theorem sec_man {xss : List (List Int)} (hP : ManP xss) {N I J : Nat} {f : Int} (hN : flg xss = N) (hIJ : I < J) (hJ : J ≤ xss.length) (f0 : 0 ≤ f) (f1 : f < N) : ManP (formL (subL xss I J) N f) ∧ flg (formL (subL xss I J) N f) = (bfs (subL xss I J) N f).length := by
  have hS : SysOf xss N := by rw [← hN]; exact hP.sys
  have hT := sysOf_sub hS I J
  have hTl := subL_length (xss := xss) hJ (by omega : I ≤ J)
  have hfl := flg_form (xss := subL xss I J) (n := N) (x := f) (by omega)
  have hI := form_iso' hT f0 f1
  have hF := form_sys hT f0 f1
  have hm := bfs_met hT f0 f1
  have hM400 : (bfs (subL xss I J) N f).length ≤ 400 := by have := hm.len; have := hP.f4; omega
  have hmem : ∀ p ∈ subL xss I J, p ∈ xss := fun p hp => List.mem_of_mem_drop (List.mem_of_mem_take hp)
  have hfree : ∀ p ∈ subL xss I J, ∀ z : Int, 0 ≤ z → z < N → at' p z ≠ z ∧ at' p (at' p z) = z := by
    intro p hp
    obtain ⟨_, h2, h3⟩ := mvB_iff.1 (hP.mv p (hmem p hp))
    rw [hN] at h3
    exact (free_iff h3).1 h2
  obtain ⟨p0, hp0⟩ : ∃ p, (subL xss I J)[0]? = some p := ⟨_, List.getElem?_eq_getElem (by omega)⟩
  have hM2 : 2 ≤ (bfs (subL xss I J) N f).length := by
    have hne := (hfree p0 (mem_of_get? hp0) f f0 f1).1
    have hb : at' p0 f ∈ bfs (subL xss I J) N f := bfs_closed hT f0 f1 hm.start (mem_of_get? hp0)
    exact nodup_sub_len [f, at' p0 f] _ (by simp; exact fun e => hne e.symm) (fun z hz => by
      simp only [List.mem_cons, List.not_mem_nil, or_false] at hz
      rcases hz with rfl | rfl
      · exact hm.start
      · exact hb)
  have hrow : ∀ (j : Nat) q, (formL (subL xss I J) N f)[j]? = some q → ∃ p, (subL xss I J)[j]? = some p ∧ ∀ z : Int, 0 ≤ z → z < (bfs (subL xss I J) N f).length → phi (subL xss I J) N f (at' q z) = at' p (phi (subL xss I J) N f z) := by
    intro j q hq
    have hj : j < (subL xss I J).length := by have := (List.getElem?_eq_some_iff.1 hq).1; rw [formL_length] at this; exact this
    exact ⟨_, List.getElem?_eq_getElem hj, hI.com j q _ hq (List.getElem?_eq_getElem hj)⟩
  refine ⟨⟨by rw [formL_length]; omega, by rw [formL_length]; have := hP.r5; omega, by rw [hfl]; exact hM2, by rw [hfl]; exact hM400, fun q hq => ?_, fun i k a b hik ha hb => ?_, ?_⟩, hfl⟩
  · rw [hfl, mvB_iff]
    obtain ⟨q1, q2, q3⟩ := hF q hq
    refine ⟨⟨by omega, by rw [q3]; exact q1, q2⟩, (free_iff q3).2 (fun z z0 z1 => ?_), q3⟩
    obtain ⟨j, hj⟩ := List.mem_iff_getElem?.1 hq
    obtain ⟨p, hp, hc⟩ := hrow j q hj
    have hr := at'_rng q1 q3 z0 z1
    have hzr := hI.rng z z0 z1
    obtain ⟨h1, h2⟩ := hfree p (mem_of_get? hp) _ hzr.1 hzr.2
    have e1 := hc z z0 z1
    have e2 := hc _ hr.1 hr.2
    have hr2 := at'_rng q1 q3 hr.1 hr.2
    refine ⟨fun e => ?_, ?_⟩
    · rw [e] at e1
      exact h1 e1.symm
    · refine hI.inj _ _ hr2.1 hr2.2 z0 z1 ?_
      rw [e2, e1]
      exact h2
  · rw [hfl, com_iff]
    intro z z0 z1
    obtain ⟨p, hp, hc⟩ := hrow i a ha
    obtain ⟨q, hq, hd⟩ := hrow k b hb
    have ha' := hF a (mem_of_get? ha)
    have hb' := hF b (mem_of_get? hb)
    have ra := at'_rng ha'.1 ha'.2.2 z0 z1
    have rb := at'_rng hb'.1 hb'.2.2 z0 z1
    have hzr := hI.rng z z0 z1
    have hp2 : xss[I + i]? = some p := by
      unfold subL at hp
      rw [List.getElem?_take] at hp
      by_cases e : i < J - I
      · rw [if_pos e, List.getElem?_drop] at hp; exact hp
      · rw [if_neg e] at hp; exact absurd hp (by simp)
    have hq2 : xss[I + k]? = some q := by
      unfold subL at hq
      rw [List.getElem?_take] at hq
      by_cases e : k < J - I
      · rw [if_pos e, List.getElem?_drop] at hq; exact hq
      · rw [if_neg e] at hq; exact absurd hq (by simp)
    have hcm := hP.com (I + i) (I + k) p q (by omega) hp2 hq2
    rw [hN] at hcm
    obtain ⟨h1, h2⟩ := com_iff.1 hcm _ hzr.1 hzr.2
    have ea := hc z z0 z1
    have eb := hd z z0 z1
    have eba := hd _ ra.1 ra.2
    have eab := hc _ rb.1 rb.2
    have rba := at'_rng hb'.1 hb'.2.2 ra.1 ra.2
    have rab := at'_rng ha'.1 ha'.2.2 rb.1 rb.2
    refine ⟨fun e => ?_, ?_⟩
    · rw [e, eb] at ea
      exact h1 ea.symm
    · refine hI.inj _ _ rba.1 rba.2 rab.1 rab.2 ?_
      rw [eba, eab, ea, eb]
      exact h2
  · rw [hfl, conn_iff hF (by omega)]
    have := iso_len hF hI (x := 0) (by omega) (by omega)
    rw [phi_zero] at this
    exact this.symm
theorem subL_sub {xss : List (List Int)} {I J a b : Nat} (h : I + b ≤ J) : subL (subL xss I J) a b = subL xss (I + a) (I + b) := by
  unfold subL
  rw [List.drop_take, List.drop_drop, List.take_take]
  congr 1
  omega
/-- a section of a section is a section -/
theorem sec_sec {xss : List (List Int)} {N I J a b : Nat} {f : Int} (hS : SysOf xss N) (h : I + b ≤ J) (f0 : 0 ≤ f) (f1 : f < N) : formL (subL (formL (subL xss I J) N f) a b) (bfs (subL xss I J) N f).length 0 = formL (subL xss (I + a) (I + b)) N f := by
  have hT := sysOf_sub hS I J
  have hF := form_sys hT f0 f1
  have hpos : 1 ≤ (bfs (subL xss I J) N f).length := List.length_pos_of_mem (bfs_met hT f0 f1).start
  have := iso_form (sysOf_sub hF a b) ((form_iso' hT f0 f1).sub a b) (x := 0) (by omega) (by omega)
  rw [phi_zero, subL_sub h] at this
  exact this.symm
/-- a form is its own form -/
theorem form_form {xss : List (List Int)} {N : Nat} {f : Int} (hS : SysOf xss N) (f0 : 0 ≤ f) (f1 : f < N) : formL (formL xss N f) (bfs xss N f).length 0 = formL xss N f := by
  have hF := form_sys hS f0 f1
  have hpos : 1 ≤ (bfs xss N f).length := List.length_pos_of_mem (bfs_met hS f0 f1).start
  have := iso_form hF (form_iso' hS f0 f1) (x := 0) (by omega) (by omega)
  rw [phi_zero] at this
  exact this.symm
end Go.Proofs.YtbioelmofceaaaaGreat
/- RenQ -/
namespace Go.Proofs.YtbioelmofceaaaaGreat
set_option linter.unusedVariables false
set_option maxRecDepth 100000
theorem ren_iso {xss : List (List Int)} {n : Nat} {p : List Int} (hs : SysOf xss n) (hp : isPermP p) (hl : p.length = n) : Iso xss (xss.map (renL p)) n n (at' p) := by
  have hr : ∀ x ∈ p, 0 ≤ x ∧ x < n := by have := hp.rng; rwa [hl] at this
  refine ⟨by simp, Nat.le_refl _, fun z z0 z1 => at'_rng hr hl z0 z1, fun z u z0 z1 u0 u1 e => at'_inj hp.nd hl z0 z1 u0 u1 e, fun j q r hq hrr z z0 z1 => ?_⟩
  rw [List.getElem?_map, hq] at hrr
  have hrr := Option.some.inj hrr
  subst hrr
  have hz := at'_rng hr hl z0 z1
  have hget : p[z.toNat]? = some (at' p z) := get?_getD 0 (by omega)
  have hix : p.idxOf (at' p z) = z.toNat := idxOf_of_get? hp.nd hget
  have h1 := renL_get (p := p) (M := q) (z := (at' p z).toNat) (by omega)
  rw [Int.toNat_of_nonneg hz.1, hix, Int.toNat_of_nonneg z0] at h1
  exact (getD_some (d := 0) h1).symm
theorem ren_iso' {xss : List (List Int)} {n : Nat} {p : List Int} (hs : SysOf xss n) (hp : isPermP p) (hl : p.length = n) : Iso (xss.map (renL p)) xss n n (fun z => (p.idxOf z : Int)) := by
  have hr : ∀ x ∈ p, 0 ≤ x ∧ x < n := by have := hp.rng; rwa [hl] at this
  have hI := ren_iso hs hp hl
  have hmem : ∀ z : Int, 0 ≤ z → z < n → z ∈ p := fun z z0 z1 => perm_mem hl hr hp.nd z0 z1
  have back : ∀ z : Int, 0 ≤ z → z < n → 0 ≤ (p.idxOf z : Int) ∧ (p.idxOf z : Int) < n ∧ at' p (p.idxOf z : Int) = z := by
    intro z z0 z1
    have h1 := get?_idxOf (hmem z z0 z1)
    have h2 := (List.getElem?_eq_some_iff.1 h1).1
    refine ⟨by omega, by omega, ?_⟩
    unfold at'
    rw [Int.toNat_natCast]
    exact getD_some h1
  refine ⟨by simp, Nat.le_refl _, fun z z0 z1 => ⟨(back z z0 z1).1, (back z z0 z1).2.1⟩, fun z u z0 z1 u0 u1 e => ?_, fun j q r hq hrr z z0 z1 => ?_⟩
  · have e : (p.idxOf z : Int) = (p.idxOf u : Int) := e
    rw [← (back z z0 z1).2.2, ← (back u u0 u1).2.2, e]
  · obtain ⟨b0, b1, b2⟩ := back z z0 z1
    have hc := hI.com j r q hrr hq _ b0 b1
    rw [b2] at hc
    show (p.idxOf (at' q z) : Int) = at' r (p.idxOf z : Int)
    rw [← hc]
    have hrs := hs r (mem_of_get? hrr)
    have hrr2 := at'_rng hrs.1 hrs.2.2 b0 b1
    have hget : p[(at' r (p.idxOf z : Int)).toNat]? = some (at' p (at' r (p.idxOf z : Int))) := get?_getD 0 (by omega)
    have := idxOf_of_get? hp.nd hget
    omega
theorem conn_len {xss : List (List Int)} {n : Nat} {x : Int} (hs : SysOf xss n) (hc : Conn xss n) (h0 : 0 ≤ x) (h1 : x < n) : (bfs xss n x).length = n := by
  have hm := bfs_met hs h0 h1
  have := hm.len
  have := met_full (n := n) (out := bfs xss n x) (fun z z0 z1 => (bfs_mem hs h0 h1).2 (hc x z h0 h1 z0 z1))
  omega
/-- what is carried over to a maniplex, all of it, is a maniplex -/
theorem man_pull {ys zs : List (List Int)} {n : Nat} {φ : Int → Int} (hF : SysOf ys n) (hI : Iso ys zs n n φ) (hP : ManP zs) (hz : flg zs = n) (hy : flg ys = n) : ManP ys := by
  have hS : SysOf zs n := by rw [← hz]; exact hP.sys
  have hn2 : 2 ≤ n := by rw [← hz]; exact hP.f2
  have hn4 : n ≤ 400 := by rw [← hz]; exact hP.f4
  have hrow : ∀ (j : Nat) q, ys[j]? = some q → ∃ p, zs[j]? = some p ∧ ∀ z : Int, 0 ≤ z → z < n → φ (at' q z) = at' p (φ z) := by
    intro j q hq
    have hj : j < zs.length := by have := (List.getElem?_eq_some_iff.1 hq).1; have := hI.len; omega
    exact ⟨_, List.getElem?_eq_getElem hj, hI.com j q _ hq (List.getElem?_eq_getElem hj)⟩
  refine ⟨by have := hP.r1; have := hI.len; omega, by have := hP.r5; have := hI.len; omega, by omega, by omega, fun q hq => ?_, fun i k a b hik ha hb => ?_, ?_⟩
  · rw [hy, mvB_iff]
    obtain ⟨q1, q2, q3⟩ := hF q hq
    refine ⟨⟨by omega, by rw [q3]; exact q1, q2⟩, (free_iff q3).2 (fun z z0 z1 => ?_), q3⟩
    obtain ⟨j, hj⟩ := List.mem_iff_getElem?.1 hq
    obtain ⟨p, hp, hc⟩ := hrow j q hj
    obtain ⟨_, hf, hl⟩ := mvB_iff.1 (hP.mv p (mem_of_get? hp))
    rw [hz] at hl
    have hr := at'_rng q1 q3 z0 z1
    have hzr := hI.rng z z0 z1
    obtain ⟨h1, h2⟩ := (free_iff hl).1 hf _ hzr.1 hzr.2
    have e1 := hc z z0 z1
    have e2 := hc _ hr.1 hr.2
    have hr2 := at'_rng q1 q3 hr.1 hr.2
    refine ⟨fun e => ?_, ?_⟩
    · rw [e] at e1
      exact h1 e1.symm
    · refine hI.inj _ _ hr2.1 hr2.2 z0 z1 ?_
      rw [e2, e1]
      exact h2
  · rw [hy, com_iff]
    intro z z0 z1
    obtain ⟨p, hp, hc⟩ := hrow i a ha
    obtain ⟨q, hq, hd⟩ := hrow k b hb
    have ha' := hF a (mem_of_get? ha)
    have hb' := hF b (mem_of_get? hb)
    have ra := at'_rng ha'.1 ha'.2.2 z0 z1
    have rb := at'_rng hb'.1 hb'.2.2 z0 z1
    have hzr := hI.rng z z0 z1
    have hcm := hP.com i k p q hik hp hq
    rw [hz] at hcm
    obtain ⟨h1, h2⟩ := com_iff.1 hcm _ hzr.1 hzr.2
    have ea := hc z z0 z1
    have eb := hd z z0 z1
    have eba := hd _ ra.1 ra.2
    have eab := hc _ rb.1 rb.2
    have rba := at'_rng hb'.1 hb'.2.2 ra.1 ra.2
    have rab := at'_rng ha'.1 ha'.2.2 rb.1 rb.2
    refine ⟨fun e => ?_, ?_⟩
    · rw [e, eb] at ea
      exact h1 ea.symm
    · refine hI.inj _ _ rba.1 rba.2 rab.1 rab.2 ?_
      rw [eba, eab, ea, eb]
      exact h2
  · rw [hy, conn_iff hF (by omega)]
    have h0 := hI.rng 0 (by omega) (by omega)
    rw [← iso_len hF hI (x := 0) (by omega) (by omega)]
    have hc : Conn zs n := by rw [← hz]; exact hP.conn
    exact conn_len hS hc h0.1 h0.2
theorem iso_surj {ys zs : List (List Int)} {n : Nat} {φ : Int → Int} (hI : Iso ys zs n n φ) {u : Int} (u0 : 0 ≤ u) (u1 : u < n) : ∃ z : Int, 0 ≤ z ∧ z < n ∧ φ z = u := by
  have hnd : ((List.range n).map fun (r : Nat) => φ (r : Int)).Nodup := by
    rw [List.nodup_iff_pairwise_ne, List.pairwise_map]
    refine List.Pairwise.imp_of_mem ?_ List.pairwise_lt_range
    intro a b ha hb hab e
    have := hI.inj (a : Int) (b : Int) (by omega) (by have := List.mem_range.1 ha; omega) (by omega) (by have := List.mem_range.1 hb; omega) e
    omega
  have hsub : ∀ a ∈ ((List.range n).map fun (r : Nat) => φ (r : Int)), a ∈ (List.range n).map Int.ofNat := by
    intro a ha
    obtain ⟨r, hr, rfl⟩ := List.mem_map.1 ha
    exact mem_ints.2 (hI.rng (r : Int) (by omega) (by have := List.mem_range.1 hr; omega))
  have := mem_of_full hnd hsub (by simp) (mem_ints.2 ⟨u0, u1⟩)
  obtain ⟨r, hr, e⟩ := List.mem_map.1 this
  exact ⟨(r : Int), by omega, by have := List.mem_range.1 hr; omega, e⟩
theorem dia_pos (xss : List (List Int)) (n : Nat) : ∀ k, 0 ≤ diaGo xss n k := by
  intro k
  induction k with
  | zero => exact Int.le_refl _
  | succ k ih =>
    rw [diaGo_succ]
    have := (maxFrom_spec (dist xss n (k : Int)) (diaGo xss n k)).1
    omega
theorem dia_att (xss : List (List Int)) (n : Nat) : ∀ k, diaGo xss n k = 0 ∨ ∃ f : Nat, f < k ∧ diaGo xss n k ∈ dist xss n (f : Int) := by
  intro k
  induction k with
  | zero => exact .inl rfl
  | succ k ih =>
    rw [diaGo_succ]
    rcases (maxFrom_spec (dist xss n (k : Int)) (diaGo xss n k)).2.2 with e | e
    · rw [e]
      rcases ih with g | ⟨f, hf, g⟩
      · exact .inl g
      · exact .inr ⟨f, by omega, g⟩
    · exact .inr ⟨k, by omega, e⟩
theorem dia_le {ys zs : List (List Int)} {n : Nat} {φ : Int → Int} (hS : SysOf ys n) (hT : SysOf zs n) (hcy : Conn ys n) (hcz : Conn zs n) (hI : Iso ys zs n n φ) : diaGo zs n n ≤ diaGo ys n n := by
  rcases dia_att zs n n with e | ⟨f, hf, hv⟩
  · rw [e]; exact dia_pos _ _ _
  · obtain ⟨x, x0, x1, ex⟩ := iso_surj hI (u := (f : Int)) (by omega) (by omega)
    obtain ⟨t, ht⟩ := List.mem_iff_getElem?.1 hv
    have hE := dist_fin hT hcz (x := (f : Int)) (by omega) (by omega)
    have hD := dist_fin hS hcy x0 x1
    have htn : t < n := by have := (List.getElem?_eq_some_iff.1 ht).1; have := hE.dl; omega
    obtain ⟨z, z0, z1, ez⟩ := iso_surj hI (u := (t : Int)) (by omega) (by omega)
    have hdt : dat (dist zs n (f : Int)) (t : Int) = diaGo zs n n := by
      unfold dat
      rw [Int.toNat_natCast]
      exact getD_some ht
    rw [← ex] at hE hdt
    rw [← ez] at hdt
    have hr := hD.rng z z0 z1
    have h1 := iso_dist_le hS hI hD hE (dat (dist ys n x) z).toNat z z0 z1 (by omega)
    obtain ⟨X, rfl⟩ := Int.eq_ofNat_of_zero_le x0
    have hm : dat (dist ys n (X : Int)) z ∈ dist ys n (X : Int) := by
      unfold dat
      exact mem_of_get? (get?_getD 0 (by have := hD.dl; omega))
    have h2 := dia_ge n X (by omega) _ hm
    omega
/-- two maniplexes that are carried over to each other have all in common -/
theorem man_same {ys zs : List (List Int)} {n : Nat} {φ ψ : Int → Int} (hY : ManP ys) (hZ : ManP zs) (hy : flg ys = n) (hz : flg zs = n) (hI : Iso ys zs n n φ) (hJ : Iso zs ys n n ψ) :
    leastGo ys n n = leastGo zs n n ∧ cntsL ys n = cntsL zs n ∧ typL ys n = typL zs n ∧ colB ys n (dist ys n 0) = colB zs n (dist zs n 0) ∧ diaGo ys n n = diaGo zs n n := by
  have hS : SysOf ys n := by rw [← hy]; exact hY.sys
  have hT : SysOf zs n := by rw [← hz]; exact hZ.sys
  have hcy : Conn ys n := by rw [← hy]; exact hY.conn
  have hcz : Conn zs n := by rw [← hz]; exact hZ.conn
  have hn : 2 ≤ n := by rw [← hy]; exact hY.f2
  refine ⟨least_same (by omega) (by omega) (fun f hf => ?_) (fun g hg => ?_), ?_, ?_, ?_, ?_⟩
  · have hr := hI.rng (f : Int) (by omega) (by omega)
    refine ⟨(φ (f : Int)).toNat, by omega, ?_⟩
    rw [Int.toNat_of_nonneg hr.1]
    exact (iso_form hS hI (by omega) (by omega)).symm
  · have hr := hJ.rng (g : Int) (by omega) (by omega)
    refine ⟨(ψ (g : Int)).toNat, by omega, ?_⟩
    rw [Int.toNat_of_nonneg hr.1]
    exact (iso_form hT hJ (by omega) (by omega)).symm
  · unfold cntsL
    rw [hI.len]
    refine List.map_congr_left fun i _ => ?_
    have hse : SysOf (ys.eraseIdx i) n := fun p hp => hS p (List.mem_of_mem_eraseIdx hp)
    have hte : SysOf (zs.eraseIdx i) n := fun p hp => hT p (List.mem_of_mem_eraseIdx hp)
    have h1 := cnt_le hse hte (hI.erase i)
    have h2 := cnt_le hte hse (hJ.erase i)
    have : cntR (ys.eraseIdx i) n = cntR (zs.eraseIdx i) n := Nat.le_antisymm h1 h2
    rw [this]
  · unfold typL
    rw [hI.len]
    refine List.map_congr_left fun i _ => ?_
    exact typ_same (sysOf_sub hS _ _) (sysOf_sub hT _ _) (hI.sub _ _) (hJ.sub _ _)
  · have a := col_iff hS (dist_fin hS hcy (x := 0) (by omega) (by omega))
    have b := col_iff hT (dist_fin hT hcz (x := 0) (by omega) (by omega))
    rw [Bool.eq_iff_iff, a, b]
    exact ⟨fun ⟨c, hc⟩ => ⟨_, two_back hT hJ hc⟩, fun ⟨c, hc⟩ => ⟨_, two_back hS hI hc⟩⟩
  · exact Int.le_antisymm (dia_le hT hS hcz hcy hJ) (dia_le hS hT hcy hcz hI)
/-- what carries all of it over has an inverse -/
theorem iso_inv {ys zs : List (List Int)} {n : Nat} {φ : Int → Int} (hS : SysOf ys n) (hT : SysOf zs n) (hI : Iso ys zs n n φ) : ∃ ψ, Iso zs ys n n ψ := by
  have hc : ∀ u : Int, ∃ z : Int, (0 ≤ u → u < n → 0 ≤ z ∧ z < n ∧ φ z = u) := by
    intro u
    by_cases h : 0 ≤ u ∧ u < n
    · obtain ⟨z, z0, z1, e⟩ := iso_surj hI h.1 h.2
      exact ⟨z, fun _ _ => ⟨z0, z1, e⟩⟩
    · exact ⟨0, fun a b => absurd ⟨a, b⟩ h⟩
  refine ⟨fun u => Classical.choose (hc u), hI.len.symm, Nat.le_refl _, fun u u0 u1 => ?_, fun u v u0 u1 v0 v1 e => ?_, fun j p q hp hq u u0 u1 => ?_⟩
  · have := Classical.choose_spec (hc u) u0 u1
    exact ⟨this.1, this.2.1⟩
  · have a := (Classical.choose_spec (hc u) u0 u1).2.2
    have b := (Classical.choose_spec (hc v) v0 v1).2.2
    have e : Classical.choose (hc u) = Classical.choose (hc v) := e
    rw [← a, ← b, e]
  · obtain ⟨a0, a1, a2⟩ := Classical.choose_spec (hc u) u0 u1
    have hp' := hT p (mem_of_get? hp)
    have hr := at'_rng hp'.1 hp'.2.2 u0 u1
    obtain ⟨b0, b1, b2⟩ := Classical.choose_spec (hc (at' p u)) hr.1 hr.2
    have hq' := hS q (mem_of_get? hq)
    have hr2 := at'_rng hq'.1 hq'.2.2 a0 a1
    refine hI.inj _ _ b0 b1 hr2.1 hr2.2 ?_
    have := hI.com j q p hq hp _ a0 a1
    rw [b2, this, a2]
end Go.Proofs.YtbioelmofceaaaaGreat
/- Face -/
namespace Go.Proofs.YtbioelmofceaaaaGreat
open Go.RowKit
set_option linter.unusedVariables false
set_option maxRecDepth 100000
theorem sysOf_erase {xss : List (List Int)} {n : Nat} (h : SysOf xss n) (i : Nat) : SysOf (xss.eraseIdx i) n := fun p hp => h p (List.mem_of_mem_eraseIdx hp)
theorem rowsAt_erase {w : World} {lo hi : Nat} {vs : List Value} {xss : List (List Int)} (h : RowsAt w lo hi vs xss) (i : Nat) : RowsAt w lo hi (vs.eraseIdx i) (xss.eraseIdx i) := by
  refine ⟨by rw [List.length_eraseIdx, List.length_eraseIdx, h.1], fun k v xs h1 h2 => ?_⟩
  rw [List.getElem?_eraseIdx] at h1 h2
  by_cases hk : k < i
  · rw [if_pos hk] at h1 h2; exact h.2 k v xs h1 h2
  · rw [if_neg hk] at h1 h2; exact h.2 (k + 1) v xs h1 h2
theorem rowsAt_one {w : World} {lo hi : Nat} {vs : List Value} {xss : List (List Int)} (h : RowsAt w lo hi vs xss) : ∀ v ∈ vs, v.oneCell' = true := by
  intro v hv
  obtain ⟨k, hk⟩ := List.mem_iff_getElem?.1 hv
  have hlt := (List.getElem?_eq_some_iff.1 hk).1
  obtain ⟨A, n, c, rfl, _⟩ := h.2 k v _ hk (List.getElem?_eq_getElem (by have := h.1; omega))
  rfl
theorem rowsAt_snoc {w : World} {lo hi n c : Nat} {A : Option Addr} {vs : List Value} {xss : List (List Int)} {xs : List Int} (h : RowsAt w lo hi vs xss) (hr : RI w lo hi A n xs) : RowsAt w lo hi (vs ++ [.slice A n c]) (xss ++ [xs]) := by
  refine ⟨by simp [h.1], fun k v ys h1 h2 => ?_⟩
  by_cases hk : k < vs.length
  · rw [List.getElem?_append_left hk] at h1
    rw [List.getElem?_append_left (by have := h.1; omega)] at h2
    exact h.2 k v ys h1 h2
  · have hk2 := (List.getElem?_eq_some_iff.1 h1).1
    simp at hk2
    have e : k = vs.length := by omega
    subst e
    rw [List.getElem?_append_right (Nat.le_refl _)] at h1
    rw [List.getElem?_append_right (by have := h.1; omega)] at h2
    have hl := h.1
    simp at h1
    simp [hl] at h2
    subst h1; subst h2
    exact ⟨A, n, c, rfl, hr⟩
theorem below_cells {B b : Nat} {a : World} (hb : B ≤ b) : ∀ (vs : List Value) (o : Nat) (w : World), Below B a w → Below B a (w.setCells b o vs) := by
  intro vs
  induction vs with
  | nil => intro o w h; exact h
  | cons v t ih => intro o w h; exact ih _ _ (h.setCell (p := ⟨b, o, none⟩) hb v)
theorem cloneSS_any (A : Option Addr) (n c : Nat) (vs : List Value) (w : World) {lo hi : Nat} (h : Rd w lo hi A n vs) (hhi : hi ≤ w.heap.size) (h1 : ∀ v ∈ vs, v.oneCell' = true) (hn : 0 < n) (hn2 : n ≤ 1048576) :
    Calls Tryz.prog 86 #[.slice A n c] w fun e w' => ∃ (A1 : Option Addr) (c1 : Nat), e = .returned (.slice A1 n c1) ∧ Own w' w.heap.size w'.heap.size 35 A1 n c1 vs ∧ Below w.heap.size w w' := by
  obtain ⟨s0, hs0, hu0, hu1, hu2⟩ := info_parts infoS
  obtain ⟨b, o, v0, rfl, _, _, _, _⟩ := h.at_ hn
  have h0 := World.ownsRow_lit (e := 35) (base := w.heap.size) (size := 1) w #[] 0 (Nat.le_refl _) (by omega) rfl
  have hr := h.keep (same_alloc w (.cells #[] 35) lo hi hhi)
  have heq : ∀ w' : World, (binOp .eql 24 (.slice (some ⟨b, o, none⟩) n c) (.slice none 0 0)).run Tryz.prog w' = .ok (.bool false) w' := fun w' => Lib.run_eql_slice_nil w' _ _ _ _ _ _ _ Tryz.underlying24
  replace h1 := Lib.hid h1
  go_enter Tryz.func86, Tryz.ntmps86
  go_wp2_with (at_builtin; refine wpList_appendL (w.alloc (.cells #[] 35)) rfl (.tmp 5) (.tmp 6) 24 rfl w.heap.size 35 s0 (.slice none 0 0) 24 Tryz.underlying24 hs0 hu0 hu1 hu2 rfl (by omega) _ 0 0 [] rfl h0 _ n c vs lo hi rfl hr h1.out (by omega) (by simp) ?_)
  intro A2 c2 w2 ho hg hor
  have hb : Below w.heap.size w w2 := ((Below.refl _ _).alloc (Nat.le_refl _) _).grown hg (by simp) (fun q hq => by have := (h0.lt q hq).1; omega)
  go_wp2_with fail
  go_ret
  exact ⟨A2, c2, rfl, Own.of_row ho, hb⟩
theorem zeroS (w : World) : (zeroValue 35).run Tryz.prog w = .ok (.slice none 0 0) w := Tryz.zeroValue35 w
set_option maxHeartbeats 4000000 in
theorem deleteSS_any (g n c i j : Nat) (hij : j = i + 1) (vs : List Value) (w : World) {lo hi : Nat} (ho : Own w lo hi 35 (some ⟨g, 0, none⟩) n c vs) (h1 : ∀ v ∈ vs, v.oneCell' = true) (hi0 : i < n) (hn2 : n ≤ 1048576) :
    Calls Tryz.prog 85 #[.slice (some ⟨g, 0, none⟩) n c, .int .i64 i, .int .i64 j] w fun e w' => e = .returned (.slice (some ⟨g, 0, none⟩) (n - 1) c) ∧ Rd w' lo hi (some ⟨g, 0, none⟩) (n - 1) (vs.eraseIdx i) ∧ Below lo w w' := by
  obtain ⟨s0, hs0, hu0, hu1, hu2⟩ := info_parts infoS
  have hcap := ho.cap
  have hvl := ho.len
  have hlo : lo ≤ g ∧ g < hi ∧ g < w.heap.size := by
    obtain ⟨b, v, e, q1, q2, q3, _⟩ := ho.at_ hi0
    injection e with e; injection e with e _ _; subst e
    exact ⟨q1, q2, q3⟩
  have hcm : c ≤ 9223372036854775807 := by
    rcases ho.1.2 with ⟨hv, _⟩ | ⟨g', cap, cur, hv, _, _, _, hcm, _⟩
    · cases hv
    · injection hv with _ _ e3
      subst e3
      simp only [maxLen] at hcm
      omega
  have hcell : ∀ k, k < n → w.cell? ⟨g, k, none⟩ = vs[k]? := fun k hk => ho.1.cellAt k (by omega)
  have hfrz : ∀ k, w.frozen? ⟨g, k, none⟩ = false := fun k => ho.frz k
  obtain ⟨k, rfl⟩ : ∃ k, n = j + k := ⟨n - j, by omega⟩
  obtain ⟨news, hnews⟩ : ∃ news, news = vs.drop j := ⟨_, rfl⟩
  have hlen : news.length = k := by rw [hnews]; simp; omega
  have hget : ∀ t, t < k → news[t]? = vs[j + t]? := by intro t ht; rw [hnews, List.getElem?_drop]
  obtain ⟨A, hA, hsrc⟩ : ∃ A : Addr, (if c = j then some (⟨g, 0, none⟩ : Addr) else some ⟨g, j, none⟩) = some A ∧ Hid (∀ t u, news[t]? = some u → w.drew.cell? (A.add t) = some u) := by
    by_cases h : c = j
    · refine ⟨⟨g, 0, none⟩, by simp [h], Lib.hid fun t u hu => ?_⟩
      have h0 : news.length = 0 := by rw [hlen]; omega
      rw [List.length_eq_zero_iff.1 h0] at hu
      simp at hu
    · refine ⟨⟨g, j, none⟩, by simp [h], Lib.hid fun t u hu => ?_⟩
      have ht : t < k := by have := (List.getElem?_eq_some_iff.1 hu).1; omega
      rw [hget t ht] at hu
      rw [Addr.add_lit]
      exact (hcell (j + t) (by omega)).trans hu
  have s1 : Hid (news.length = k * 1) := Lib.hid (by rw [Nat.mul_one]; exact hlen)
  have s2 : Hid (∀ u ∈ news, u.oneCell' = true) := Lib.hid (by intro u hu; rw [hnews] at hu; exact h1 u (List.mem_of_mem_drop hu))
  have hsome : ∀ t, t < j + k → (w.cell? ⟨g, t, none⟩).isSome = true := fun t ht => by rw [hcell t ht, List.getElem?_eq_getElem (by omega)]; rfl
  have s3 : Hid (∀ t, t < news.length → (w.drew.cell? ⟨g, 0 + i * 1 + t, none⟩).isSome = true ∧ w.drew.frozen? ⟨g, 0 + i * 1 + t, none⟩ = false) := Lib.hid (by
    intro t ht
    rw [hlen] at ht
    rw [Nat.mul_one, Nat.zero_add]
    exact ⟨hsome (i + t) (by omega), hfrz _⟩)
  obtain ⟨W1, hW1⟩ : ∃ W1, W1 = w.drew.setCells g (0 + i * 1) news := ⟨_, rfl⟩
  have hW : Hid (W1 = w.drew.setCells g (0 + i * 1) news) := Lib.hid hW1
  have hsome1 : ∀ t, t < j + k → (W1.cell? ⟨g, t, none⟩).isSome = true := fun t ht => by rw [hW1]; exact World.isSome_setCells g news (0 + i * 1) w.drew ⟨g, t, none⟩ (hsome t ht)
  have hfrz1 : ∀ t, W1.frozen? ⟨g, t, none⟩ = false := fun t => by rw [hW1, World.frozen?_setCells]; exact hfrz t
  have hcl : ∀ ty, (Builtin.clear_ #[24] ty #[.slice (some ⟨g, i + k, none⟩) 1 (c - (i + k))]).run Tryz.prog W1 = .ok (.tuple #[]) (W1.setCells g (i + k) (List.replicate 1 (.slice none 0 0))) :=
    fun ty => Lib.run_clear_slice W1 _ _ ty _ Tryz.underlying24 zeroS rfl rfl g (i + k) _ _ (by omega) (fun t ht => hsome1 (i + k + t) (by omega)) (fun t ht => hfrz1 (i + k + t))
  have hfin : ∀ t, t < i + k → (W1.setCells g (i + k) [.slice none 0 0]).cell? ⟨g, t, none⟩ = (vs.eraseIdx i)[t]? := by
    intro t ht
    rw [World.cell?_setCells_out g _ _ _ _ (fun _ _ => .inl (by simpa using ht)), List.getElem?_eraseIdx, hW1]
    by_cases hti : t < i
    · rw [if_pos hti, World.cell?_setCells_out g _ _ _ _ (fun _ _ => .inl (by simp; omega))]
      exact hcell t (by omega)
    · rw [if_neg hti]
      obtain ⟨s, rfl⟩ : ∃ s, t = i + s := ⟨t - i, by omega⟩
      have hin := World.cell?_setCells_in g news (0 + i * 1) w.drew (fun q hq => by rw [Nat.mul_one, Nat.zero_add]; exact hsome (i + q) (by omega)) s (by omega)
      rw [Nat.mul_one, Nat.zero_add] at hin ⊢
      rw [hin]
      have h2 := hget s (by omega)
      rw [List.getElem?_eq_getElem (by omega)] at h2
      rw [h2, hij]
      congr 1
      omega
  have hbel : Below lo w (W1.setCells g (i + k) [.slice none 0 0]) := by
    rw [hW1]
    exact below_cells hlo.1 _ _ _ (below_cells hlo.1 _ _ _ (below_drew (Below.refl lo w)))
  have hrd : Rd (W1.setCells g (i + k) [.slice none 0 0]) lo hi (some ⟨g, 0, none⟩) (i + k) (vs.eraseIdx i) := by
    refine ⟨by rw [List.length_eraseIdx, if_pos (by omega)]; omega, by omega, fun _ => ⟨g, 0, rfl, hlo.1, hlo.2.1, fun t v hv => ?_⟩⟩
    have ht := (List.getElem?_eq_some_iff.1 hv).1
    rw [List.length_eraseIdx, if_pos (by omega)] at ht
    rw [Nat.zero_add, hfin t (by omega)]
    exact hv
  replace hfin := Lib.hid hfin
  replace hbel := Lib.hid hbel
  replace hrd := Lib.hid hrd
  have hijl : i ≤ j := by omega
  have hjkI : (j : Int) ≤ (j : Int) + (k : Int) := by omega
  have hikI : (i : Int) + (k : Int) ≤ (j : Int) + (k : Int) := by omega
  have hijk : j + k - (i + k) = 1 := by omega
  have hij2 : ¬ (i = j) := by omega
  have hjn : j ≤ j + k := by omega
  replace hij := Lib.hid hij
  have hic : i ≤ c := by omega
  have hjc : j ≤ c := by omega
  clear hW1 hget hnews hlen hsome hsome1 hcell hfrz hfrz1
  go_enter Tryz.func85, Tryz.ntmps85
  go_wp2_with fail
  go_region_law (refine step_append_room rfl (.tmp 22) (.tmp 25) 24 rfl 35 s0 1 Tryz.underlying24 hs0 hu1 g 0 i c (by simp [Act.eval, Act.put]) A k (c - j) news (by simp [Act.eval, Act.put]) s1.out hsrc.out s2.out (by omega) s3.out ?_; rw [← hW.out])
  go_wp2_with fail
  go_ret
  have e : j + k - 1 = i + k := by have := hij.out; omega
  rw [e]
  exact ⟨rfl, hrd.out, hbel.out⟩
theorem without_any (b : Nat) (A : Option Addr) (n c i : Nat) (xss : List (List Int)) (w : World) (hc : w.cell? ⟨b, 0, none⟩ = some (.slice A n c)) {lo hi : Nat} (h : RS w lo hi A n xss) (hhi : hi ≤ w.heap.size) (hi0 : i < n) (hn2 : n ≤ 1048576) :
    Calls Tryz.prog 75 #[.pointer (some ⟨b, 0, none⟩), .int .i64 i] w fun e w' => ∃ (A1 : Option Addr) (c1 : Nat), e = .returned (.slice A1 (n - 1) c1) ∧ RS w' 0 w'.heap.size A1 (n - 1) (xss.eraseIdx i) ∧ Below w.heap.size w w' := by
  obtain ⟨vs, hrd, hrw⟩ := h
  have h1 := rowsAt_one hrw
  have hcl := cloneSS_any A n c vs w hrd hhi h1 (by omega) hn2
  replace h1 := Lib.hid h1
  go_enter Tryz.func75, Tryz.ntmps75
  go_wp2_with fail
  ((with_reducible refine hcl.mono ?_); rintro e w2 ⟨A2, c2, rfl, o2, f2⟩)
  obtain ⟨g, v0, rfl, _, _, _, _⟩ := o2.at_ (k := 0) (by omega)
  have hd := deleteSS_any g n c2 i (i + 1) rfl vs w2 o2 h1.out hi0 hn2
  rw [show (((i + 1 : Nat)) : Int) = (i : Int) + 1 from by omega] at hd
  clear hcl
  go_wp2_with fail
  ((with_reducible refine hd.mono ?_); rintro e w3 ⟨rfl, r3, f3⟩)
  have y2 := f2.size
  have y3 := f3.size
  have B3 : Below w.heap.size w w3 := f2.trans f3
  clear hd
  go_wp2_with fail
  go_ret
  exact ⟨_, c2, rfl, ⟨vs.eraseIdx i, r3.more (by omega) y3, rowsAt_erase ((hrw.keep (Same.of_below B3 hhi)).more (by omega) (by omega)) i⟩, B3⟩
theorem faces_any (b : Nat) (A : Option Addr) (n c i : Nat) (xss : List (List Int)) (w : World) (hc : w.cell? ⟨b, 0, none⟩ = some (.slice A n c)) {lo hi : Nat} (h : RS w lo hi A n xss) (hhi : hi ≤ w.heap.size) (hi0 : i < n) (hn2 : n ≤ 1048576) (N : Nat) (hN : flg xss = N) (h4 : N ≤ 400) (hs : SysOf xss N) :
    Calls Tryz.prog 58 #[.pointer (some ⟨b, 0, none⟩), .int .i64 i] w fun e w' => ∃ A1, e = .returned (.tuple #[.slice A1 N N, .int .i64 (cntR (xss.eraseIdx i) N)]) ∧ Own w' w.heap.size w'.heap.size 2 A1 N N ((labL (xss.eraseIdx i) N).map (Value.int .i64)) ∧ Below w.heap.size w w' := by
  have hwo := without_any b A n c i xss w hc h hhi hi0 hn2
  replace hs := Lib.hid hs
  go_enter Tryz.func58, Tryz.ntmps58
  go_wp2_with fail
  ((with_reducible refine (flags_any _ A n c xss _ hc h (by omega)).mono ?_); rintro e w' ⟨rfl, rfl⟩)
  rw [hN]
  go_wp2_with fail
  ((with_reducible refine hwo.mono ?_); rintro e w2 ⟨A2, c2, rfl, r2, f2⟩)
  have y2 := f2.size
  clear hwo
  go_wp2_with fail
  ((with_reducible refine (orbitLabels_any N A2 (n - 1) c2 (xss.eraseIdx i) _ r2 (Nat.le_refl _) h4 (sysOf_erase hs.out i)).mono ?_); rintro e w3 ⟨A3, rfl, o3, f3⟩)
  go_wp2_with fail
  go_ret2
  exact ⟨A3, rfl, o3.more y2 (Nat.le_refl _), below_then f2 f3 y2⟩
end Go.Proofs.YtbioelmofceaaaaGreat
/- FaceS -/
namespace Go.Proofs.YtbioelmofceaaaaGreat
open Go.RowKit
set_option linter.unusedVariables false
set_option maxRecDepth 100000
theorem erase_snoc {α : Type} {xs : List α} {k i : Nat} {x : α} (h : xs[k]? = some x) : (xs.take (k + 1)).eraseIdx i = if k = i then (xs.take k).eraseIdx i else (xs.take k).eraseIdx i ++ [x] := by
  have hk := (List.getElem?_eq_some_iff.1 h).1
  have hl : (xs.take k).length = k := by simp; omega
  rw [take_succ_of h]
  by_cases e : k = i
  · subst e
    rw [if_pos rfl, List.eraseIdx_append_of_length_le (by omega), hl, Nat.sub_self, List.eraseIdx_of_length_le (l := xs.take k) (by omega)]
    simp
  · rw [if_neg e]
    by_cases hlt : i < k
    · rw [List.eraseIdx_append_of_lt_length (by omega)]
    · rw [List.eraseIdx_append_of_length_le (by omega), hl, List.eraseIdx_of_length_le (l := [x]) (by simp; omega), List.eraseIdx_of_length_le (l := xs.take k) (by omega)]
end Go.Proofs.YtbioelmofceaaaaGreat
/- Cnt -/
namespace Go.Proofs.YtbioelmofceaaaaGreat
open Go.RowKit
set_option linter.unusedVariables false
set_option maxRecDepth 100000
theorem labL_bound {list : List (List Int)} {n : Nat} (hs : SysOf list n) (h4 : n ≤ 400) : ∀ x ∈ labL list n, 0 ≤ x ∧ x ≤ 400 := by
  intro v hv
  obtain ⟨x, hx, rfl⟩ := List.mem_map.1 hv
  have h1 := lab_lt hs (List.mem_range.1 hx)
  have h2 := labOf_nonneg list x
  have h3 := cntR_le_n (list := list) n
  omega
theorem grt_le {l : List Int} (h : ∀ x ∈ l, 0 ≤ x ∧ x ≤ 400) : 0 ≤ grt l ∧ grt l ≤ 401 := by
  have h0 := grt_nonneg l (fun x hx => (h x hx).1)
  rcases grt_mem l with e | e
  · omega
  · have := h _ e; omega
theorem cntsL_bound {xss : List (List Int)} {n : Nat} (h4 : n ≤ 400) : ∀ x ∈ cntsL xss n, -400 ≤ x ∧ x ≤ 400 := by
  intro v hv
  obtain ⟨i, _, rfl⟩ := List.mem_map.1 hv
  have h3 := cntR_le_n (list := xss.eraseIdx i) n
  omega
set_option maxHeartbeats 2000000 in
theorem faceCounts_any (b : Nat) (A : Option Addr) (n c : Nat) (xss : List (List Int)) (w : World) (hc : w.cell? ⟨b, 0, none⟩ = some (.slice A n c)) (hbs : b < w.heap.size) {lo hi : Nat} (h : RS w lo hi A n xss) (hhi : hi ≤ w.heap.size) (hn2 : n ≤ 1048576) (N : Nat) (hN : flg xss = N) (h4 : N ≤ 400) (hs : SysOf xss N) :
    Calls Tryz.prog 37 #[.pointer (some ⟨b, 0, none⟩)] w fun e w' => ∃ (A1 : Option Addr) (c1 : Nat), e = .returned (.slice A1 n c1) ∧ Own w' w.heap.size w'.heap.size 2 A1 n c1 ((cntsL xss N).map (Value.int .i64)) ∧ Below w.heap.size w w' := by
  obtain ⟨j0, hj0, hy0, hy1, hy2⟩ := info_parts infoI
  have hl := h.len
  have hcl := cntsL_length xss N
  rw [hl] at hcl
  have hget : ∀ k, k < n → (cntsL xss N)[k]? = some (cntR (xss.eraseIdx k) N : Int) := fun k hk => cntsL_get (by omega)
  generalize hcs : cntsL xss N = cs at *
  replace hcs := Lib.hid hcs
  replace hget := Lib.hid hget
  replace hcl := Lib.hid hcl
  replace hl := Lib.hid hl
  replace hs := Lib.hid hs
  go_enter Tryz.func37, Tryz.ntmps37
  go_wp2_with fail
  ((with_reducible refine (rank_any _ A n c _ hc (by omega)).mono ?_); rintro e w' ⟨rfl, rfl⟩)
  go_wp2_with fail
  go_loopw [3, 9] (fun sv kv wq => ∃ (k : Nat) (A2 : Option Addr) (c2 : Nat), k ≤ n ∧ sv = .slice A2 k c2 ∧ kv = .int .i64 k ∧ Own wq w.heap.size wq.heap.size 2 A2 k c2 ((cs.take k).map (Value.int .i64)) ∧ Below w.heap.size w wq) (fun _ kv _ => n - (intOf kv).toNat)
  case atStart => exact ⟨0, none, 0, by omega, rfl, rfl, by simpa using Own.nil, Below.refl _ _⟩
  case round =>
    obtain ⟨k, A2, c2, hk, rfl, rfl, ho, hb⟩ := hrel
    have hz := hb.size
    by_cases hlt : k < n
    · have hCk := (hb.cell (p := ⟨b, 0, none⟩) (by simp; omega)).trans hc
      have htk := take_succ_of (hget.out k hlt)
      replace htk := Lib.hid htk
      go_wp2_with fail
      ((with_reducible refine (faces_any b A n c k xss _ hCk (h.below hb hhi) (by omega) hlt hn2 N hN h4 hs.out).mono ?_); rintro e w2 ⟨A9, rfl, o9, f9⟩)
      have y9 := f9.size
      have ho2 := ho.below f9 (Nat.le_refl _)
      have hb2 := below_then hb f9 hz
      clear ho hb f9 o9 hCk
      generalize (cntR (xss.eraseIdx k) N : Int) = u at *
      go_wp2_with (at_builtin; refine wpList_append1 w2 rfl (.tmp 18) (.tmp 20) 35 rfl w.heap.size 2 j0 (.int .i64 0) 8 Tryz.underlying35 hj0 hy0 hy1 hy2 rfl (by omega) _ k c2 _ (.int .i64 u) rfl ho2.1 _ rfl rfl rfl (by omega) (by omega) ?_)
      intro g4 c4 w3 ho3 hg3 hlo3 hlt3 hor3
      have hb3 : Below w.heap.size w w3 := hb2.grown hg3 (by omega) (fun q hq => by have := (ho2.1.lt q hq).1; omega)
      have ho3' := Own.of_row ho3
      clear ho2 hb2 hg3 ho3
      go_wp2_with fail
      go_roundw
      case measure => simp [intOf]; omega
      case rel => exact ⟨k + 1, _, c4, by omega, rfl, by go_num, by rw [htk.out]; simpa using ho3', hb3⟩
    · go_wp2_with fail
      go_ret
      have hkn : k = n := by omega
      subst hkn
      rw [List.take_of_length_le (by have := hcl.out; omega)] at ho
      exact ⟨A2, c2, rfl, ho, hb⟩
end Go.Proofs.YtbioelmofceaaaaGreat
/- CntX -/
namespace Go.Proofs.YtbioelmofceaaaaGreat
open Go.RowKit
set_option linter.unusedVariables false
set_option maxRecDepth 100000
/-- what FaceCounts returns -/
noncomputable def fcF (xss : List (List Int)) : List Int × Int := if isManB xss = true then (cntsL xss (flg xss), 0) else ([], 1)
/-- what EulerCharacteristic returns -/
noncomputable def eulF (xss : List (List Int)) : Int × Int := if isManB xss = true then (eulGo (cntsL xss (flg xss)) xss.length, 0) else (0, 1)
set_option maxHeartbeats 4000000 in
theorem i_FaceCounts_any (w : World) (A : Option Addr) (n c : Nat) (xss : List (List Int)) {lo hi : Nat} (h : RS w lo hi A n xss) (hhi : hi ≤ w.heap.size) (hnc : n ≤ c) :
    Calls Tryz.prog 15 #[.agg #[.slice A n c]] w fun e w' => ∃ (A1 : Option Addr) (n1 c1 : Nat) (zs : List Int) (code : Int), e = .returned (.tuple #[.slice A1 n1 c1, .int .i64 code]) ∧ Hid ((zs, code) = fcF xss) ∧ Own w' w.heap.size w'.heap.size 2 A1 n1 c1 (zs.map (Value.int .i64)) ∧ n1 ≤ 1048576 ∧ Below w.heap.size w w' := by
  have hm := h.max
  have hl := h.len
  have hR := rs_alloc h hhi (.cells #[.slice A n c] 26)
  have hC : (w.alloc (.cells #[.slice A n c] 26)).cell? ⟨w.heap.size, 0, none⟩ = some (.slice A n c) := al_new _ _ _ _ rfl
  have hB : Below w.heap.size w (w.alloc (.cells #[.slice A n c] 26)) := (Below.refl _ _).alloc (Nat.le_refl _) _
  cases hM : isManB xss with
  | false =>
    have hF : fcF xss = ([], 1) := by unfold fcF; rw [hM]; rfl
    replace hF := Lib.hid hF
    replace hM := Lib.hid hM
    replace hl := Lib.hid hl
    go_enter Tryz.func15, Tryz.ntmps15
    go_wp2_with fail
    obtain ⟨W1, hW⟩ : ∃ W1 : World, w.alloc (.cells #[.slice A n c] 26) = W1 := ⟨_, rfl⟩
    have hz1 : W1.heap.size = w.heap.size + 1 := by rw [← hW]; simp
    rw [hW] at hR hC hB ⊢
    clear hW h 
    ((with_reducible refine (isMan_any A n c xss _ hR (by omega) hnc).mono ?_); rintro e w2 ⟨rfl, f2⟩)
    rw [hM.out]
    have y2 := f2.size
    have B2 : Below W1.heap.size W1 w2 := f2
    have C2 := (f2.cell (p := ⟨w.heap.size, 0, none⟩) (by simp; omega)).trans hC
    have R2 := hR.below f2 (by omega)
    go_wp2_with fail
    go_ret2
    exact ⟨_, 0, _, [], _, rfl, Lib.hid hF.out.symm, Own.nil, by omega, hB.trans (B2.mono (by omega))⟩
  | true =>
    have hP := isManB_iff.1 hM
    have hn1 : 1 ≤ n := by have := hP.r1; omega
    have hn5 : n ≤ 5 := by have := hP.r5; omega
    have hf2 := hP.f2
    have hf4 := hP.f4
    have hS := hP.sys
    replace hP := Lib.hid hP
    replace hS := Lib.hid hS
    have hF : fcF xss = (cntsL xss (flg xss), 0) := by unfold fcF; rw [if_pos hM]
    replace hF := Lib.hid hF
    replace hM := Lib.hid hM
    replace hl := Lib.hid hl
    go_enter Tryz.func15, Tryz.ntmps15
    go_wp2_with fail
    obtain ⟨W1, hW⟩ : ∃ W1 : World, w.alloc (.cells #[.slice A n c] 26) = W1 := ⟨_, rfl⟩
    have hz1 : W1.heap.size = w.heap.size + 1 := by rw [← hW]; simp
    rw [hW] at hR hC hB ⊢
    clear hW h 
    ((with_reducible refine (isMan_any A n c xss _ hR (by omega) hnc).mono ?_); rintro e w2 ⟨rfl, f2⟩)
    rw [hM.out]
    have y2 := f2.size
    have B2 : Below W1.heap.size W1 w2 := f2
    have C2 := (f2.cell (p := ⟨w.heap.size, 0, none⟩) (by simp; omega)).trans hC
    have R2 := hR.below f2 (by omega)
    go_wp2_with fail
    ((with_reducible refine (faceCounts_any _ A n c xss _ C2 (by omega) R2 (by omega) (by omega) _ rfl hf4 hS.out).mono ?_); rintro e w9 ⟨A9, c9, rfl, o9, f9⟩)
    have B9 : Below W1.heap.size W1 w9 := below_then B2 f9 (by omega)
    go_wp2_with fail
    go_ret2
    exact ⟨_, _, _, _, _, rfl, Lib.hid hF.out.symm, o9.more (by omega) (Nat.le_refl _), by omega, hB.trans (B9.mono (by omega))⟩
end Go.Proofs.YtbioelmofceaaaaGreat
