/- A bag of rows beside a map of the call's own; an insert into such a map at the operation. No condition. -/
import Derived.Test.YtcjnhiglfkcmiaaDoorBag
import Derived.Test.YtcjnhiglfkcmiaaDoorMapB
namespace Go.Proofs.YtcjnhiglfkcmiaaDoor
open Go.RowKit
open Go.Maps (Keyed)
set_option linter.unusedVariables false
set_option maxRecDepth 100000
/-- 'map[K]V{k: v}' at the operation: as a store -/
theorem wpList_insert_own {H : Type} {P : Program} (w : World) {ops : Array Oper} {rest : List Oper} {o : Oper} {a : Act} {Q : Exit → Act → World → Prop}
    (hg : o.guard = none) (m x v : Operand) (t : TypeId) (hop : o.op = Op.insert t m x v)
    (k e : TypeId) (K : Keyed P k) (ht : P.underlying t = some (.map k e)) (R : Value → Option (DataW H × List MemPlace)) (b n : Nat) (D : DataW H)
    (hm : a.eval m = .map (some b)) (hown : w.ownsMap P k R b n D) (hn : n < maxLen) (key val : Value) (kl : Lit) (hx : a.eval x = key) (hv : a.eval v = val) (hkey : keyOf P k key = some kl)
    (d : DataW H) (ps : List MemPlace) (hval : R val = some (d, ps))
    (hK : ∀ w', w'.ownsMap P k R b (n + 1) (D.put kl d) → w.grownBy w' (some b) → wpList P ops Q rest (a.put o.dst undef) w') :
    wpList P ops Q (o :: rest) a w := by
  refine wpList_plain hg fun K' hK' => ?_
  obtain ⟨w', hrun, r1, r2⟩ := hown.update K ht hn hkey hval
  unfold Oper.wp
  simp [execOp, hop, hm, hx, hv, hrun, Result.andThen]
  exact hK' _ _ (hK w' r1 r2)
theorem row_not_map {w : World} {lo : Nat} {T : TypeId} {v : Value} {n : Nat} {xs : List Value} {z : Nat} {es : Array MapEntry} {clock : Nat} (h : w.ownsRow lo T 1 v n xs) (hz : v.ownBlock = some z) (hb : w.heap[z]? = some (.map es clock)) : False := by
  rcases h.2 with ⟨hv, _⟩ | ⟨g, cap, cur, hv, _, hg, _⟩
  · rw [hv] at hz; simp [Value.ownBlock] at hz
  · rw [hv] at hz
    simp [Value.ownBlock] at hz
    subst hz
    rw [hg] at hb
    cases hb
theorem SetM.blk {P : Program} {k e : TypeId} {w : World} {b n : Nat} {ks : List (List UInt8)} (h : SetM P k e w b n ks) : ∃ es clock, w.heap[b]? = some (.map es clock) := by
  obtain ⟨D, ⟨es, clock, h1, _⟩, _⟩ := h
  exact ⟨es, clock, h1⟩
theorem Bag.grown {w w' : World} {lo hi : Nat} {L : List Ent} {row : Option Nat} (h : Bag w lo hi L) (hg : w.grownBy w' row) (hne : ∀ e ∈ L, ∀ z, e.v.ownBlock = some z → row ≠ some z) : Bag w' lo hi L :=
  ⟨fun e he => (h.own e he).kept hg (by
    cases hq : e.v.ownBlock with
    | none => exact .inl rfl
    | some z => exact .inr fun g => hne e he z hq g.symm), h.lt, h.ap⟩
/-- a map beside a bag of rows: the one is written, the other stays -/
theorem Bag.grown_map {w w' : World} {lo hi b : Nat} {L : List Ent} {es : Array MapEntry} {clock : Nat} (h : Bag w lo hi L) (hb : w.heap[b]? = some (.map es clock)) (hg : w.grownBy w' (some b)) : Bag w' lo hi L :=
  h.grown hg fun e he z hz hx => by
    injection hx with hx
    subst hx
    exact row_not_map (h.own e he) hz hb
theorem SetM.grown_row {P : Program} {k e : TypeId} {w w' : World} {lo b n m : Nat} {T : TypeId} {v : Value} {xs : List Value} {ks : List (List UInt8)} (h : SetM P k e w b n ks) (ho : w.ownsRow lo T 1 v m xs) (hg : w.grownBy w' v.ownBlock) : SetM P k e w' b n ks := by
  obtain ⟨es, clock, hb⟩ := h.blk
  exact h.kept (hg.block b h.lt fun e => row_not_map ho e.symm hb)
theorem SetM.below {P : Program} {k e : TypeId} {w w' : World} {b n B : Nat} {ks : List (List UInt8)} (h : SetM P k e w b n ks) (hb : Below B w w') (hB : b < B) : SetM P k e w' b n ks := h.kept (hb.block b hB)
theorem SetM.mono {P : Program} {k e : TypeId} {w : World} {b n n' : Nat} {ks : List (List UInt8)} (h : SetM P k e w b n ks) (hn : n ≤ n') : SetM P k e w b n' ks := by
  obtain ⟨D, h1, h2, h3⟩ := h
  exact ⟨D, h1.mono hn, h2, h3⟩
end Go.Proofs.YtcjnhiglfkcmiaaDoor
