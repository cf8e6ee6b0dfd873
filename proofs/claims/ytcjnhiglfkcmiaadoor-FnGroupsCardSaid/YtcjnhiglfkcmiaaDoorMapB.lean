/- A look-up of a bool in a map that the call made, and what such a map holds: a set of keys. No condition. -/
import Derived.Maps.OwnOps
import Derived.Maps.OwnSet
import Derived.Maps.Views
import Derived.StringKeys
import Derived.Test.YtcjnhiglfkcmiaaDoorTxtP
namespace Go.Proofs.YtcjnhiglfkcmiaaDoor
open Go.Maps (Keyed)
set_option linter.unusedVariables false
theorem plainElem_bool_inv {H : Type} {P : Program} {e : TypeId} (he : P.underlying e = some .bool) {v : Value} {z : DataW H × List MemPlace} (h : plainElem P e v = some z) : ∃ x, v = .bool x ∧ z = (.lit (.bool x), []) := by
  unfold plainElem at h
  rw [he] at h
  cases v <;> simp at h
  exact ⟨_, rfl, h.symm⟩
theorem lookup_bool {H : Type} {P : Program} {w : World} {k t e : TypeId} {b n : Nat} {D : DataW H} (h : w.ownsMap P k (plainElem P e) b n D) (K : Keyed P k) (ht : P.underlying t = some (.map k e)) (he : P.underlying e = some .bool) (hz : (zeroValue e).run P w = .ok (.bool false) w)
    {key : Value} {kl : Lit} (hkey : keyOf P k key = some kl) : ∃ c, (Instr.lookup t (.map (some b)) key false).run P w = .ok (.bool c) w ∧ D.atKey kl (.lit (.bool false)) = .lit (.bool c) := by
  obtain ⟨v, ps, hrun, hv⟩ := h.lookup K ht hz (plainElem_bool he false) hkey
  obtain ⟨c, rfl, hc⟩ := plainElem_bool_inv he hv
  simp only [Prod.mk.injEq] at hc
  exact ⟨c, hrun, hc.1⟩
theorem wpList_lookup_own_bool {H : Type} {P : Program} (w : World) {ops : Array Oper} {rest : List Oper} {o : Oper} {a : Act} {Q : Exit → Act → World → Prop}
    (hg : o.guard = none) (m x : Operand) (t : TypeId) (hop : o.op = Op.lookup t m x false)
    (k e : TypeId) (K : Keyed P k) (ht : P.underlying t = some (.map k e)) (he : P.underlying e = some .bool) (hz : (zeroValue e).run P w = .ok (.bool false) w) (b n : Nat) (D : DataW H)
    (hm : a.eval m = .map (some b)) (hown : w.ownsMap P k (plainElem P e) b n D) (key : Value) (kl : Lit) (hx : a.eval x = key) (hkey : keyOf P k key = some kl) (c : Bool) (hc : D.atKey kl (.lit (.bool false)) = .lit (.bool c))
    (hK : True → wpList P ops Q rest (a.put o.dst (.bool c)) w) :
    wpList P ops Q (o :: rest) a w := by
  refine wpList_plain hg fun K' hK' => ?_
  obtain ⟨c', hrun, hat⟩ := lookup_bool hown K ht he hz hkey
  have : c' = c := by rw [hat] at hc; simpa using hc
  subst this
  unfold Oper.wp
  simp [execOp, hop, hm, hx, hrun, Result.andThen]
  exact hK' _ _ (hK trivial)
/-- block b is a map of at most n entries, in which the keys of the list are true, all others false -/
def SetM (P : Program) (k e : TypeId) (w : World) (b n : Nat) (ks : List (List UInt8)) : Prop :=
  ∃ D : DataW Unit, w.ownsMap P k (plainElem P e) b n D ∧ Go.Maps.IsMap D ∧ ∀ s, D.atKey (.string s) (.lit (.bool false)) = .lit (.bool (decide (s ∈ ks)))
theorem SetM.made (w : World) (P : Program) (k e : TypeId) : SetM P k e (w.alloc (.map #[] 0)) w.heap.size 0 [] :=
  ⟨.map [], World.ownsMap_made w P k _, Go.Maps.isMap_empty, fun s => by simp [DataW.atKey]⟩
theorem SetM.lt {P : Program} {k e : TypeId} {w : World} {b n : Nat} {ks : List (List UInt8)} (h : SetM P k e w b n ks) : b < w.heap.size := by
  obtain ⟨D, h1, _⟩ := h
  exact h1.lt
theorem SetM.kept {P : Program} {k e : TypeId} {w w' : World} {b n : Nat} {ks : List (List UInt8)} (h : SetM P k e w b n ks) (hb : w'.heap[b]? = w.heap[b]?) : SetM P k e w' b n ks := by
  obtain ⟨D, ⟨es, clock, h1, F, hs, hD⟩, h2, h3⟩ := h
  exact ⟨D, ⟨es, clock, hb.trans h1, F, hs, hD⟩, h2, h3⟩
theorem SetM.put {P : Program} {k e : TypeId} {w' : World} {b n : Nat} {ks : List (List UInt8)} {D : DataW Unit} (h2 : Go.Maps.IsMap D) (h3 : ∀ s, D.atKey (.string s) (.lit (.bool false)) = .lit (.bool (decide (s ∈ ks)))) (s : List UInt8)
    (h : w'.ownsMap P k (plainElem P e) b (n + 1) (D.put (.string s) (.lit (.bool true)))) : SetM P k e w' b (n + 1) (ks ++ [s]) := by
  refine ⟨_, h, h2.put _ _, fun u => ?_⟩
  by_cases hu : u = s
  · subst hu
    rw [Go.Maps.atKey_put_same h2 (by trivial)]
    simp
  · rw [Go.Maps.atKey_put_other (by simpa using hu), h3]
    simp [hu]
end Go.Proofs.YtcjnhiglfkcmiaaDoor
