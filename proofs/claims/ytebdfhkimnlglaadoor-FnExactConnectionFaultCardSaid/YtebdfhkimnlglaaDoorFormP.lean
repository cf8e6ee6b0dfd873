/- Plain: forms from a flag. No program in sight. No condition. -/
import Derived.Test.YtebdfhkimnlglaaDoorManP
import Derived.Test.YtebdfhkimnlglaaDoorLawS
namespace Go.Proofs.YtebdfhkimnlglaaDoor
set_option linter.unusedVariables false
set_option maxRecDepth 100000
/-- the move p, the flags numbered as ord has them -/
def ixF (ord p : List Int) : List Int := ord.map fun f => (ord.idxOf (at' p f) : Int)
def formL (xss : List (List Int)) (n : Nat) (x : Int) : List (List Int) := xss.map (ixF (bfs xss n x))
theorem ixF_length (ord p : List Int) : (ixF ord p).length = ord.length := by simp [ixF]
theorem formL_length (xss : List (List Int)) (n : Nat) (x : Int) : (formL xss n x).length = xss.length := by simp [formL]
/-- the numbers of the first k of the flags -/
def NumI (ord : List Int) (n k : Nat) (ns : List Int) : Prop := ns.length = n ∧ ∀ z : Nat, z < n → ns[z]? = some (if (z : Int) ∈ ord.take k then (ord.idxOf (z : Int) : Int) else 0)
theorem NumI.zero (ord : List Int) (n : Nat) : NumI ord n 0 (List.replicate n 0) := ⟨by simp, fun z hz => by simp [hz]⟩
theorem NumI.step {ord : List Int} {n k f : Nat} {ns : List Int} (h : NumI ord n k ns) (hnd : ord.Nodup) (hf : ord[k]? = some (f : Int)) : NumI ord n (k + 1) (ns.set f (k : Int)) := by
  refine ⟨by simp [h.1], fun z hz => ?_⟩
  rw [take_succ_of hf]
  by_cases e : z = f
  · subst e
    rw [if_pos (by simp), idxOf_of_get? hnd hf]
    simp [h.1, hz]
  · rw [List.getElem?_set_ne (by omega), h.2 z hz]
    have : ¬ (z : Int) = (f : Int) := by omega
    simp [this]
theorem NumI.get {ord : List Int} {n z : Nat} {ns : List Int} (h : NumI ord n ord.length ns) (hz : z < n) (hm : (z : Int) ∈ ord) : ns[z]? = some (ord.idxOf (z : Int) : Int) := by
  rw [h.2 z hz, List.take_length, if_pos hm]
theorem numsIn_le {xss : List (List Int)} {n : Nat} (h : ∀ p ∈ xss, p.length ≤ n) : numsIn xss ≤ xss.length * n := by
  induction xss with
  | nil => simp [numsIn]
  | cons p t ih =>
    have h1 := h p (by simp)
    have h2 := ih (fun q hq => h q (by simp [hq]))
    have e : numsIn (p :: t) = p.length + numsIn t := by simp [numsIn]
    rw [e, List.length_cons, Nat.add_mul, Nat.one_mul]
    omega
theorem bfs_closed {list : List (List Int)} {n : Nat} {x y : Int} {p : List Int} (hs : SysOf list n) (h0 : 0 ≤ x) (h1 : x < n) (hy : y ∈ bfs list n x) (hp : p ∈ list) : at' p y ∈ bfs list n x :=
  (bfs_mem hs h0 h1).2 (((bfs_mem hs h0 h1).1 hy).step hp)
theorem formL_nums {xss : List (List Int)} {n : Nat} {x : Int} (hs : SysOf xss n) (h0 : 0 ≤ x) (h1 : x < n) (hn : n ≤ 400) (hl : xss.length ≤ 20) : (formL xss n x).length + numsIn (formL xss n x) ≤ 1048576 := by
  have hlen := (bfs_met hs h0 h1).len
  have := numsIn_le (xss := formL xss n x) (n := 400) (fun p hp => by
    obtain ⟨q, _, rfl⟩ := List.mem_map.1 hp
    rw [ixF_length]; omega)
  rw [formL_length] at *
  omega
end Go.Proofs.YtebdfhkimnlglaaDoor
