/- Plain: the first place where a poset has no diamond. No program in sight. No condition. -/
import Derived.Test.YtbioelmofceaaaaPosP
import Derived.Test.YtbioelmofceaaaaOrbO
namespace Go.Proofs.Ytbioelmofceaaaa
set_option linter.unusedVariables false
set_option maxRecDepth 100000
def ofRk (r : Int) (ps : List Int) (i : Int) : List Int := if inR 0 (r - 1) i = true then plc ps i ps.length else [-1]
def inBl (xss : List (List Int)) (e f : Int) : Bool := decide (e ∈ xss.getD f.toNat [])
def skipEF (xss : List (List Int)) (e f : Int) : Bool := decide (0 ≤ e) && (decide (0 ≤ f) && !inBl xss e f)
def midB (xss : List (List Int)) (e f d : Int) : Bool := (decide (e < 0) || inBl xss e d) && (decide (f < 0) || inBl xss d f)
def cntM (xss : List (List Int)) (e f : Int) (mid : List Int) : Nat := (mid.filter (midB xss e f)).length
def dfAt (xss : List (List Int)) (mid : List Int) (i e f : Int) : Option (List Int) := if skipEF xss e f = true then none else if cntM xss e f mid = 2 then none else some [i, e, f]
def dfE (r : Int) (ps : List Int) (xss : List (List Int)) (i e : Int) : Option (List Int) := (ofRk r ps (i + 1)).findSome? (dfAt xss (ofRk r ps i) i e)
def dfI (r : Int) (ps : List Int) (xss : List (List Int)) (i : Int) : Option (List Int) := (ofRk r ps (i - 1)).findSome? (dfE r ps xss i)
def rngI (k : Nat) : List Int := (List.range k).map Int.ofNat
def df (r : Int) (ps : List Int) (xss : List (List Int)) : Option (List Int) := (rngI r.toNat).findSome? (dfI r ps xss)
noncomputable def dfF (r : Int) (ps : List Int) (xss : List (List Int)) : List Int × Int := if isPosB r ps xss = true then ((df r ps xss).getD [], if (df r ps xss).isNone = true then 4 else 0) else ([], 1)
theorem rngI_succ (k : Nat) : rngI (k + 1) = rngI k ++ [(k : Int)] := by unfold rngI; rw [List.range_succ, List.map_append]; rfl
theorem rngI_mem {k : Nat} {x : Int} : x ∈ rngI k ↔ 0 ≤ x ∧ x < k := by
  unfold rngI
  simp only [List.mem_map, List.mem_range]
  constructor
  · rintro ⟨j, hj, rfl⟩
    constructor
    · exact Int.natCast_nonneg j
    · exact Int.ofNat_lt.2 hj
  · rintro ⟨h0, h1⟩
    exact ⟨x.toNat, by omega, Int.toNat_of_nonneg h0⟩
section
variable {α β : Type}
theorem fs_snoc {f : α → Option β} {l : List α} {x : α} (h : l.findSome? f = none) : (l ++ [x]).findSome? f = f x := by
  rw [List.findSome?_append, h]
  simp
theorem fs_take {f : α → Option β} {l : List α} {k : Nat} {x : α} (h : (l.take k).findSome? f = none) (hx : l[k]? = some x) : (l.take (k + 1)).findSome? f = f x := by
  rw [take_succ_of hx]
  exact fs_snoc h
theorem fs_pre {f : α → Option β} {a b : List α} {y : β} (h : a.findSome? f = some y) : (a ++ b).findSome? f = some y := by
  rw [List.findSome?_append, h]
  rfl
theorem fs_hit {f : α → Option β} {l : List α} {k : Nat} {x : α} {y : β} (h : (l.take k).findSome? f = none) (hx : l[k]? = some x) (hy : f x = some y) : l.findSome? f = some y := by
  rw [← List.take_append_drop (k + 1) l]
  exact fs_pre ((fs_take h hx).trans hy)
theorem fs_filter {f : α → Option β} {p : α → Bool} : ∀ l : List α, (l.filter p).findSome? f = l.findSome? fun x => if p x = true then f x else none
  | [] => rfl
  | x :: l => by
    rw [List.filter_cons]
    by_cases h : p x = true
    · rw [if_pos h, List.findSome?_cons, List.findSome?_cons, if_pos h, fs_filter l]
    · rw [if_neg h, List.findSome?_cons, if_neg h, fs_filter l]
end
theorem rngI_hit {f : Int → Option (List Int)} {k n : Nat} {y : List Int} (h : (rngI k).findSome? f = none) (hk : k < n) (hy : f k = some y) : (rngI n).findSome? f = some y := by
  refine fs_hit (k := k) (x := (k : Int)) ?_ ?_ hy
  · unfold rngI at *
    rw [← List.map_take, List.take_range, Nat.min_eq_left (by omega)]
    exact h
  · unfold rngI
    simp [hk]
theorem ofRk_rng {r : Int} {ps : List Int} {i x : Int} (h : x ∈ ofRk r ps i) : x = -1 ∨ (0 ≤ x ∧ x < (ps.length : Nat) ∧ ps.getD x.toNat 0 = i) := by
  unfold ofRk at h
  split at h
  · right
    obtain ⟨h0, h1, h2⟩ := plc_mem.1 h
    exact ⟨h0, h1, h2.symm⟩
  · left
    simpa using h
theorem ofRk_le (r : Int) (ps : List Int) (i : Int) : (ofRk r ps i).length ≤ ps.length + 1 := by
  unfold ofRk
  split
  · have := plc_le ps i ps.length; omega
  · simp
/-- the numbers from -1 on -/
def rngM (k : Nat) : List Int := (List.range k).map fun (s : Nat) => (s : Int) - 1
theorem rngM_succ (k : Nat) : rngM (k + 1) = rngM k ++ [(k : Int) - 1] := by unfold rngM; rw [List.range_succ, List.map_append]; rfl
theorem rngM_hit {f : Int → Option (List Int)} {k n : Nat} {y : List Int} (h : (rngM k).findSome? f = none) (hk : k < n) (hy : f ((k : Int) - 1) = some y) : (rngM n).findSome? f = some y := by
  refine fs_hit (k := k) (x := (k : Int) - 1) ?_ ?_ hy
  · unfold rngM at *
    rw [← List.map_take, List.take_range, Nat.min_eq_left (by omega)]
    exact h
  · unfold rngM
    simp [hk]
def gE (ps : List Int) (z j e : Int) : Bool := !((decide (e < 0) != decide (z = 0)) || (decide (0 ≤ e) && !decide (ps.getD e.toNat 0 = j)))
theorem rngM_cons (n : Nat) : rngM (n + 1) = -1 :: rngI n := by
  unfold rngM rngI
  rw [List.range_succ_eq_map, List.map_cons, List.map_map]
  congr 1
  refine List.map_congr_left (fun s _ => ?_)
  simp
/-- the candidates of the reference: z is 0 exactly if the rank j is none -/
theorem cand_eq {r : Int} {ps : List Int} {z j : Int} (hz : z = 0 ↔ ¬ (0 ≤ j ∧ j ≤ r - 1)) : (rngM (ps.length + 1)).filter (gE ps z j) = ofRk r ps j := by
  rw [rngM_cons]
  unfold ofRk
  by_cases h0 : z = 0
  · have hj := hz.1 h0
    rw [if_neg (by rw [inR_iff]; exact hj), List.filter_cons, if_pos (by simp [gE, h0])]
    congr 1
    rw [List.filter_eq_nil_iff]
    intro x hx
    have := (rngI_mem.1 hx).1
    simp only [gE, h0]
    have : ¬ x < 0 := by omega
    simp [this]
  · have hj : 0 ≤ j ∧ j ≤ r - 1 := by
      rcases Classical.em (0 ≤ j ∧ j ≤ r - 1) with h | h
      · exact h
      · exact absurd (hz.2 h) h0
    rw [if_pos (by rw [inR_iff]; exact hj), List.filter_cons, if_neg (by simp [gE, h0])]
    unfold rngI plc
    rw [List.filter_map]
    congr 1
    refine List.filter_congr (fun s _ => ?_)
    simp only [Function.comp, gE, h0]
    have h1 : ¬ (Int.ofNat s < 0) := by have := Int.natCast_nonneg s; simp; 
    have h2 : (0 : Int) ≤ Int.ofNat s := Int.natCast_nonneg s
    rw [decide_eq_false h1, decide_eq_true h2]
    simp [eq_comm]
end Go.Proofs.Ytbioelmofceaaaa
