/- Plain: the first of the shortest words between two flags. No program in sight. No condition. -/
import Derived.Test.YtpbkdjkgaalegaaDistP
namespace Go.Proofs.Ytpbkdjkgaalegaa
set_option linter.unusedVariables false
set_option maxRecDepth 100000
theorem all_take_succ' {α : Type} {xs : List α} {k : Nat} {x : α} {f : α → Bool} (h : xs[k]? = some x) : (xs.take (k + 1)).all f = ((xs.take k).all f && f x) := by
  rw [take_succ_of h, List.all_append]; simp
/-- the first move that leads nearer -/
def nearB (D : List Int) (f : Int) (p : List Int) : Bool := decide (dat D (at' p f) < dat D f)
def stepK (xss : List (List Int)) (D : List Int) (f : Int) : Nat := xss.findIdx (nearB D f)
def fwL (xss : List (List Int)) (D : List Int) : Nat → Int → List Int
  | 0, _ => []
  | d + 1, f => (stepK xss D f : Int) :: fwL xss D d (at' (xss.getD (stepK xss D f) []) f)
theorem fwL_length (xss : List (List Int)) (D : List Int) : ∀ (d : Nat) (f : Int), (fwL xss D d f).length = d := by
  intro d
  induction d with
  | zero => intro f; rfl
  | succ d ih => intro f; unfold fwL; rw [List.length_cons, ih]
/-- each move is its own inverse -/
def Invo (xss : List (List Int)) (n : Nat) : Prop := ∀ p ∈ xss, ∀ z : Int, 0 ≤ z → z < n → at' p (at' p z) = z
theorem near_iff {xss : List (List Int)} {n : Nat} {x f : Int} {D p : List Int} (hs : SysOf xss n) (hi : Invo xss n) (h : DFin xss n x D) (h0 : 0 ≤ f) (h1 : f < n) (hp : p ∈ xss) : dat D (at' p f) < dat D f ↔ dat D (at' p f) = dat D f - 1 := by
  have hr := at'_rng (hs p hp).1 (hs p hp).2.2 h0 h1
  have h2 := h.lip (at' p f) p hr.1 hr.2 hp
  rw [hi p hp f h0 h1] at h2
  constructor
  · intro h3; omega
  · intro h3; omega
theorem near_ex {xss : List (List Int)} {n : Nat} {x f : Int} {D : List Int} (hs : SysOf xss n) (hi : Invo xss n) (h : DFin xss n x D) (h0 : 0 ≤ f) (h1 : f < n) (hne : f ≠ x) : ∃ p ∈ xss, nearB D f p = true := by
  obtain ⟨y, p, hp, y0, y1, e, hd⟩ := h.par f h0 h1 hne
  refine ⟨p, hp, ?_⟩
  unfold nearB
  rw [e, hi p hp y y0 y1, ← e]
  exact decide_eq_true (by omega)
theorem dist_zero {xss : List (List Int)} {n : Nat} {x f : Int} {D : List Int} (h : DFin xss n x D) (h0 : 0 ≤ f) (h1 : f < n) : f = x ↔ dat D f = 0 := by
  constructor
  · rintro rfl; exact h.zero
  · intro hd
    by_cases e : f = x
    · exact e
    · obtain ⟨y, p, _, y0, y1, _, hd2⟩ := h.par f h0 h1 e
      have := h.rng y y0 y1
      omega
theorem stepK_eq {xss : List (List Int)} {D p : List Int} {f : Int} {k : Nat} (hp : xss[k]? = some p) (hn : nearB D f p = true) (hall : (xss.take k).all (fun q => !(nearB D f q)) = true) : stepK xss D f = k := by
  have hk := (List.getElem?_eq_some_iff.1 hp).1
  have hpe := (List.getElem?_eq_some_iff.1 hp).2
  unfold stepK
  rw [List.findIdx_eq hk]
  refine ⟨by rw [hpe]; exact hn, fun j hj => ?_⟩
  have := List.all_eq_true.1 hall (xss[j]) (by rw [List.mem_take_iff_getElem]; exact ⟨j, by omega, rfl⟩)
  simpa using this
theorem fwL_step {xss : List (List Int)} {D p : List Int} {f : Int} {k d : Nat} (hp : xss[k]? = some p) (hk : stepK xss D f = k) : fwL xss D (d + 1) f = (k : Int) :: fwL xss D d (at' p f) := by
  show (stepK xss D f : Int) :: fwL xss D d (at' (xss.getD (stepK xss D f) []) f) = _
  rw [hk, getD_some hp]
theorem ManP.invo {xss : List (List Int)} (h : ManP xss) : Invo xss (flg xss) := by
  intro p hp z z0 z1
  obtain ⟨_, hf, hl⟩ := mvB_iff.1 (h.mv p hp)
  unfold freeB at hf
  have h1 := (of_decide_eq_true hf z.toNat (by omega)).2
  rw [Int.toNat_of_nonneg z0] at h1
  exact h1
end Go.Proofs.Ytpbkdjkgaalegaa
