/- Plain: what a poset is. No program in sight. No condition. -/
import Derived.Test.YtebdfhkimnlglaaDoorBin
namespace Go.Proofs.YtebdfhkimnlglaaDoor
set_option linter.unusedVariables false
set_option maxRecDepth 100000
/-- the number f at the place k of the row B of the element e -/
def BelK (ps : List Int) (e : Nat) (B : List Int) (k : Nat) (f : Int) : Prop := 0 ≤ f ∧ f < (ps.length : Nat) ∧ at' ps f < ps.getD e 0 ∧ (0 < k → B.getD (k - 1) 0 < f)
structure PosP (r : Int) (ps : List Int) (xss : List (List Int)) : Prop where
  r1 : 1 ≤ r
  r5 : r ≤ 5
  n5 : ps.length ≤ 500
  len : xss.length = ps.length
  rk : ∀ x ∈ ps, 0 ≤ x ∧ x ≤ r - 1
  srt : ∀ k, k + 1 < ps.length → ps.getD k 0 ≤ ps.getD (k + 1) 0
  bel : ∀ (e : Nat) (B : List Int), xss[e]? = some B → ∀ (k : Nat) (f : Int), B[k]? = some f → BelK ps e B k f
  tra : ∀ (e : Nat) (B : List Int), xss[e]? = some B → ∀ f ∈ B, ∀ (C : List Int), xss[f.toNat]? = some C → ∀ g ∈ C, g ∈ B
noncomputable def isPosB (r : Int) (ps : List Int) (xss : List (List Int)) : Bool := @decide (PosP r ps xss) (Classical.propDecidable _)
theorem isPosB_iff {r : Int} {ps : List Int} {xss : List (List Int)} : isPosB r ps xss = true ↔ PosP r ps xss := by unfold isPosB; simp
theorem isPosB_not {r : Int} {ps : List Int} {xss : List (List Int)} (h : ¬ PosP r ps xss) : isPosB r ps xss = false := by unfold isPosB; simp [h]
theorem bel_srt {ps : List Int} {e : Nat} {B : List Int} (h : ∀ (k : Nat) (f : Int), B[k]? = some f → BelK ps e B k f) : ∀ k, k + 1 < B.length → B.getD k 0 ≤ B.getD (k + 1) 0 := by
  intro k hk
  have h2 := (h (k + 1) _ (get?_getD 0 hk)).2.2.2 (by omega)
  rw [Nat.add_sub_cancel] at h2
  omega
theorem bel_ge {ps : List Int} {e : Nat} {B : List Int} (h : ∀ (k : Nat) (f : Int), B[k]? = some f → BelK ps e B k f) : ∀ k, k < B.length → (k : Int) ≤ B.getD k 0 := by
  intro k
  induction k with
  | zero => intro hk; exact (h 0 _ (get?_getD 0 hk)).1
  | succ k ih =>
    intro hk
    have h1 := ih (by omega)
    have h2 := (h (k + 1) _ (get?_getD 0 hk)).2.2.2 (by omega)
    rw [Nat.add_sub_cancel] at h2
    omega
theorem bel_len {ps : List Int} {e : Nat} {B : List Int} (h : ∀ (k : Nat) (f : Int), B[k]? = some f → BelK ps e B k f) : B.length ≤ ps.length := by
  rcases Nat.eq_zero_or_pos B.length with h0 | h0
  · omega
  · have h1 := bel_ge h (B.length - 1) (by omega)
    have h2 := (h (B.length - 1) _ (get?_getD 0 (by omega))).2.1
    omega
theorem bel_lt {ps : List Int} {e : Nat} {B : List Int} {k : Nat} {f : Int} (hs : ∀ k, k + 1 < ps.length → ps.getD k 0 ≤ ps.getD (k + 1) 0) (h : BelK ps e B k f) : f < e := by
  obtain ⟨h0, h1, h2, _⟩ := h
  rcases Int.lt_or_le f e with hl | hl
  · exact hl
  · have := srt_mono hs (i := e) (j := f.toNat) (by omega) (by omega)
    unfold at' at h2
    omega
/-- all that the reference asks of one element -/
def SRow (r : Int) (ps : List Int) (xss : List (List Int)) (e : Nat) : Prop :=
  0 ≤ ps.getD e 0 ∧ ps.getD e 0 ≤ r - 1 ∧ (0 < e → ps.getD (e - 1) 0 ≤ ps.getD e 0) ∧ ∀ B, xss[e]? = some B → ∀ (k : Nat) (f : Int), B[k]? = some f → BelK ps e B k f ∧ ∀ C, xss[f.toNat]? = some C → ∀ g ∈ C, g ∈ B
theorem PosP.of_rows {r : Int} {ps : List Int} {xss : List (List Int)} (h1 : 1 ≤ r) (h5 : r ≤ 5) (hn : ps.length ≤ 500) (hl : xss.length = ps.length) (h : ∀ e, e < ps.length → SRow r ps xss e) : PosP r ps xss := by
  refine ⟨h1, h5, hn, hl, fun x hx => ?_, fun k hk => ?_, fun e B hB k f hf => ?_, fun e B hB f hf C hC g hg => ?_⟩
  · obtain ⟨k, hk, rfl⟩ := List.getElem_of_mem hx
    have := h k hk
    have e1 : ps.getD k 0 = ps[k] := getD_some (List.getElem?_eq_getElem hk)
    rw [← e1]
    exact ⟨this.1, this.2.1⟩
  · have := (h (k + 1) hk).2.2.1 (by omega)
    rwa [Nat.add_sub_cancel] at this
  · have he := (List.getElem?_eq_some_iff.1 hB).1
    exact ((h e (by omega)).2.2.2 B hB k f hf).1
  · have he := (List.getElem?_eq_some_iff.1 hB).1
    obtain ⟨k, hk, rfl⟩ := List.getElem_of_mem hf
    exact ((h e (by omega)).2.2.2 B hB k _ (List.getElem?_eq_getElem hk)).2 C hC g hg
end Go.Proofs.YtebdfhkimnlglaaDoor
