/- Plain: the text of a list of numbers, of a permutation. No program in sight. No condition. -/
import Derived.Test.YtebdfhkimnlglaaDoorCycP
import Derived.Lib.ItoaNum
import Derived.Lib.ItoaLen
import Derived.Lib.ItoaMem
import Derived.Lib.Join
import Derived.Lib.SmallJoins
namespace Go.Proofs.YtebdfhkimnlglaaDoor
set_option linter.unusedVariables false
set_option maxRecDepth 100000
/-- the string with these bytes -/
abbrev strB (l : List UInt8) : ByteArray := ⟨l.toArray⟩
theorem strB_data (l : List UInt8) : (strB l).data.toList = l := by simp
theorem strB_size (l : List UInt8) : (strB l).size = l.length := by simp [ByteArray.size]
theorem strB_append (a b : List UInt8) : strB a ++ strB b = strB (a ++ b) := by
  apply ByteArray.ext
  simp [strB, ByteArray.data_append]
/-- numbers in decimal with a byte between them -/
def numsB (sep : UInt8) (xs : List Int) : List UInt8 := Lib.join (xs.map Lib.itoa) [sep]
/-- the text of one cycle, or nothing where it has one point -/
def cycB (c : List Int) : List UInt8 := if 1 < c.length then 40 :: (numsB 32 c ++ [41]) else []
def permGo (cs : List (List Int)) : List UInt8 := (cs.map cycB).flatten
/-- the text of a permutation -/
def permB (xs : List Int) : List UInt8 := if permGo (cycAll xs) = [] then [40, 41] else permGo (cycAll xs)
theorem permGo_succ {cs : List (List Int)} {k : Nat} {c : List Int} (h : cs[k]? = some c) : permGo (cs.take (k + 1)) = permGo (cs.take k) ++ cycB c := by
  unfold permGo
  rw [List.take_add_one, h]
  simp
theorem join_snoc (xs : List (List UInt8)) (y sep : List UInt8) (h : xs ≠ []) : Lib.join (xs ++ [y]) sep = Lib.join xs sep ++ (sep ++ y) := by
  cases xs with
  | nil => exact absurd rfl h
  | cons x r =>
    rw [List.cons_append, Lib.join_cons, Lib.join_cons]
    simp [Lib.joinTail]
theorem numsB_zero (sep : UInt8) : numsB sep [] = [] := rfl
theorem numsB_one (sep : UInt8) (x : Int) : numsB sep [x] = Lib.itoa x := by simp [numsB, Lib.join_one]
theorem numsB_snoc (sep : UInt8) (xs : List Int) (y : Int) (h : xs ≠ []) : numsB sep (xs ++ [y]) = numsB sep xs ++ (sep :: Lib.itoa y) := by
  unfold numsB
  rw [List.map_append, List.map_cons, List.map_nil, join_snoc _ _ _ (by simpa using h)]
  rfl
theorem itoa_nat (u : Nat) : Lib.itoa (u : Int) = Lib.decDigits u := Lib.itoa_nonneg u
theorem itoa_pos (x : Int) : 1 ≤ (Lib.itoa x).length := by
  unfold Lib.itoa
  split
  · simp
  · rw [Lib.decDigits]
    split <;> simp
theorem itoa_len {x : Int} (h0 : -9223372036854775808 ≤ x) (h1 : x ≤ 9223372036854775807) : (Lib.itoa x).length ≤ 21 := Lib.itoa_length_le x h0 h1
/-- numbers that a machine's int holds -/
def SmallI (x : Int) : Prop := 0 ≤ x ∧ x ≤ 9223372036854775807
theorem numsB_len (sep : UInt8) (xs : List Int) (h : ∀ x ∈ xs, SmallI x) : (numsB sep xs).length ≤ 22 * xs.length := by
  have key : ∀ (ys zs : List Int), (∀ x ∈ ys ++ zs, SmallI x) → (numsB sep ys).length ≤ 22 * ys.length → (numsB sep (ys ++ zs)).length ≤ 22 * (ys ++ zs).length := by
    intro ys zs
    induction zs generalizing ys with
    | nil => intro _ h; simpa using h
    | cons z r ih =>
      intro hs hy
      have hz := hs z (by simp)
      have hl := itoa_len (x := z) (by have := hz.1; omega) hz.2
      have e : ys ++ z :: r = (ys ++ [z]) ++ r := by simp
      rw [e]
      refine ih (ys ++ [z]) (by rw [← e]; exact hs) ?_
      by_cases hn : ys = []
      · subst hn
        rw [List.nil_append, numsB_one]
        simp; omega
      · rw [numsB_snoc _ _ _ hn]
        simp; omega
  simpa using key [] xs (by simpa using h) (by simp [numsB_zero])
theorem numsB_take (sep : UInt8) (xs : List Int) (k : Nat) (h : ∀ x ∈ xs, SmallI x) : (numsB sep (xs.take k)).length ≤ 22 * xs.length := by
  have := numsB_len sep (xs.take k) (fun x hx => h x (List.mem_of_mem_take hx))
  simp only [List.length_take] at this
  omega
theorem cycB_len (c : List Int) (h : ∀ x ∈ c, SmallI x) : (cycB c).length ≤ 22 * c.length + 2 := by
  unfold cycB
  have := numsB_len 32 c h
  split
  · simp; omega
  · simp
theorem cycB_nil {c : List Int} (h : ¬ 1 < c.length) : cycB c = [] := if_neg h
theorem cycB_pos {c : List Int} (h : 1 < c.length) : cycB c = 40 :: (numsB 32 c ++ [41]) := if_pos h
theorem permGo_len (cs : List (List Int)) (m : Nat) (h : ∀ c ∈ cs, c.length ≤ m ∧ ∀ x ∈ c, SmallI x) : (permGo cs).length ≤ cs.length * (22 * m + 2) := by
  induction cs with
  | nil => simp [permGo]
  | cons c r ih =>
    have h1 := h c List.mem_cons_self
    have h2 := cycB_len c h1.2
    have h3 := ih (fun d hd => h d (List.mem_cons_of_mem _ hd))
    have e : permGo (c :: r) = cycB c ++ permGo r := by simp [permGo]
    rw [e, List.length_append, List.length_cons, Nat.add_one_mul]
    omega
theorem permGo_take (cs : List (List Int)) (m k : Nat) (h : ∀ c ∈ cs, c.length ≤ m ∧ ∀ x ∈ c, SmallI x) : (permGo (cs.take k)).length ≤ cs.length * (22 * m + 2) := by
  have := permGo_len (cs.take k) m (fun c hc => h c (List.mem_of_mem_take hc))
  have h2 : (cs.take k).length * (22 * m + 2) ≤ cs.length * (22 * m + 2) := Nat.mul_le_mul_right _ (by simp; omega)
  omega
/-- the points of the cycles are points -/
theorem cycGo_rng {p : List Int} {n : Nat} (hn : p.length = n) (hr : ∀ x ∈ p, 0 ≤ x ∧ x < (n : Int)) : ∀ (f : Nat) (bs : List Bool) (x : Int) (c : List Int), bs.length = n → (0 ≤ x ∧ x < n) → (∀ y ∈ c, 0 ≤ y ∧ y < (n : Int)) →
    (cycGo p f bs x c).1.length = n ∧ ∀ y ∈ (cycGo p f bs x c).2, 0 ≤ y ∧ y < (n : Int)
  | 0, bs, x, c, hb, hx, hc => ⟨hb, hc⟩
  | f + 1, bs, x, c, hb, hx, hc => by
    unfold cycGo
    split
    · exact ⟨hb, hc⟩
    · refine cycGo_rng hn hr f _ _ _ (by simpa using hb) ?_ ?_
      · have : x.toNat < p.length := by omega
        rw [List.getD_eq_getElem?_getD, List.getElem?_eq_getElem this]
        exact hr _ (List.getElem_mem _)
      · intro y hy
        rcases List.mem_append.1 hy with h | h
        · exact hc y h
        · rw [List.mem_singleton.1 h]; exact hx
theorem cycLoop_rng {p : List Int} {n : Nat} (hn : p.length = n) (hr : ∀ x ∈ p, 0 ≤ x ∧ x < (n : Int)) : ∀ i, i ≤ n → (cycLoop p n i).1.length = n ∧ ∀ c ∈ (cycLoop p n i).2, ∀ y ∈ c, 0 ≤ y ∧ y < (n : Int)
  | 0, _ => by simp [cycLoop]
  | i + 1, hi => by
    obtain ⟨h1, h2⟩ := cycLoop_rng hn hr i (by omega)
    obtain ⟨g1, g2⟩ := cycGo_rng hn hr (n + 1) (cycLoop p n i).1 (i : Int) [] h1 (by omega) (by simp)
    unfold cycLoop
    dsimp only
    split
    · exact ⟨g1, h2⟩
    · refine ⟨g1, fun c hc => ?_⟩
      rcases List.mem_append.1 hc with hc | hc
      · exact h2 c hc
      · rw [List.mem_singleton.1 hc]; exact g2
theorem cycAll_rng {p : List Int} (hr : ∀ x ∈ p, 0 ≤ x ∧ x < (p.length : Int)) : ∀ c ∈ cycAll p, ∀ y ∈ c, 0 ≤ y ∧ y < (p.length : Int) := (cycLoop_rng rfl hr p.length (Nat.le_refl _)).2
end Go.Proofs.YtebdfhkimnlglaaDoor
