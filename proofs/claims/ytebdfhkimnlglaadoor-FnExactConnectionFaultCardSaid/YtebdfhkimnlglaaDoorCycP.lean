/- Plain: the cycles of a permutation, as both packages collect them; orders; powers. No program in sight. No condition. -/
import Derived.Test.YtebdfhkimnlglaaDoorPlain
namespace Go.Proofs.YtebdfhkimnlglaaDoor
set_option linter.unusedVariables false
set_option maxRecDepth 100000

/-- one cycle: from x on, until a point is met that has been seen -/
def cycGo (p : List Int) : Nat → List Bool → Int → List Int → List Bool × List Int
  | 0, bs, _, c => (bs, c)
  | f + 1, bs, x, c => if bs.getD x.toNat true = true then (bs, c) else cycGo p f (bs.set x.toNat true) (p.getD x.toNat 0) (c ++ [x])
/-- the points seen and the cycles found from the first i points -/
def cycLoop (p : List Int) (n : Nat) : Nat → List Bool × List (List Int)
  | 0 => (List.replicate n false, [])
  | i + 1 => ((cycGo p (n + 1) (cycLoop p n i).1 i []).1,
      if (cycGo p (n + 1) (cycLoop p n i).1 i []).2 = [] then (cycLoop p n i).2 else (cycLoop p n i).2 ++ [(cycGo p (n + 1) (cycLoop p n i).1 i []).2])
def cycAll (p : List Int) : List (List Int) := (cycLoop p p.length p.length).2

theorem count_set_true {bs : List Bool} {k : Nat} (h : bs[k]? = some false) : (bs.set k true).count false + 1 = bs.count false := by
  induction bs generalizing k with
  | nil => simp at h
  | cons b t ih =>
    cases k with
    | zero => simp at h; subst h; simp
    | succ k =>
      simp at h
      have := ih h
      simp only [List.set_cons_succ, List.count_cons]
      omega
theorem cycGo_stop {p : List Int} {f : Nat} {bs : List Bool} {x : Int} {c : List Int} (h : bs[x.toNat]? = some true) : cycGo p (f + 1) bs x c = (bs, c) := by
  simp [cycGo, List.getD, h]
theorem cycGo_step {p : List Int} {f : Nat} {bs : List Bool} {x y : Int} {c : List Int} (h : bs[x.toNat]? = some false) (hy : p[x.toNat]? = some y) :
    cycGo p (f + 1) bs x c = cycGo p f (bs.set x.toNat true) y (c ++ [x]) := by
  simp [cycGo, List.getD, h, hy]
theorem cycGo_len (p : List Int) : ∀ (f : Nat) (bs : List Bool) (x : Int) (c : List Int), (cycGo p f bs x c).2.length ≤ c.length + f
  | 0, bs, x, c => by simp [cycGo]
  | f + 1, bs, x, c => by
    unfold cycGo
    split
    · simp
    · have := cycGo_len p f (bs.set x.toNat true) (p.getD x.toNat 0) (c ++ [x])
      rw [List.length_append, List.length_singleton] at this
      omega
theorem cycGo_ge (p : List Int) : ∀ (f : Nat) (bs : List Bool) (x : Int) (c : List Int), c.length ≤ (cycGo p f bs x c).2.length
  | 0, bs, x, c => by simp [cycGo]
  | f + 1, bs, x, c => by
    unfold cycGo
    split
    · simp
    · have := cycGo_ge p f (bs.set x.toNat true) (p.getD x.toNat 0) (c ++ [x])
      rw [List.length_append, List.length_singleton] at this
      omega
theorem cycGo_ne {p : List Int} {f : Nat} {bs bq : List Bool} {x y : Int} {ys : List Int} (h : bs[x.toNat]? = some false) (hy : p[x.toNat]? = some y) (e : cycGo p (f + 1) bs x [] = (bq, ys)) : ys ≠ [] := by
  rw [cycGo_step h hy] at e
  have := cycGo_ge p f (bs.set x.toNat true) y ([] ++ [x])
  rw [e] at this
  intro h0
  simp [h0] at this
theorem cycLoop_len (p : List Int) (n : Nat) : ∀ i, ((cycLoop p n i).2.length ≤ i) ∧ ∀ c ∈ (cycLoop p n i).2, 1 ≤ c.length ∧ c.length ≤ n + 1
  | 0 => by simp [cycLoop]
  | i + 1 => by
    obtain ⟨h1, h2⟩ := cycLoop_len p n i
    unfold cycLoop
    dsimp only
    split
    · exact ⟨by omega, h2⟩
    · rename_i hne
      refine ⟨by simp; omega, fun c hc => ?_⟩
      rcases List.mem_append.1 hc with hc | hc
      · exact h2 c hc
      · simp at hc
        subst hc
        have := cycGo_len p (n + 1) (cycLoop p n i).1 i []
        have hp := List.length_pos_iff.2 hne
        simp at this
        omega
theorem cycLoop_succ {p : List Int} {n i : Nat} {bs bq : List Bool} {cs : List (List Int)} {ys : List Int} (h1 : cycLoop p n i = (bs, cs)) (h2 : cycGo p (n + 1) bs i [] = (bq, ys)) :
    cycLoop p n (i + 1) = (bq, if ys = [] then cs else cs ++ [ys]) := by
  simp only [cycLoop, h1, h2]
theorem cycAll_len (p : List Int) : (cycAll p).length ≤ p.length ∧ ∀ c ∈ cycAll p, 1 ≤ c.length ∧ c.length ≤ p.length + 1 := cycLoop_len p p.length p.length
end Go.Proofs.YtebdfhkimnlglaaDoor
