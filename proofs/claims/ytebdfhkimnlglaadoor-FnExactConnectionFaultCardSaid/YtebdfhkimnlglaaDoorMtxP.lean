/- Plain: the text of a maniplex. No program in sight. No condition. -/
import Derived.Test.YtebdfhkimnlglaaDoorTxtP
import Derived.Lib.Replace
import Derived.Lib.SplitLaws
namespace Go.Proofs.YtebdfhkimnlglaaDoor
set_option linter.unusedVariables false
set_option maxRecDepth 100000
/-- one byte for another -/
def swapB (a b c : UInt8) : UInt8 := if c = a then b else c
theorem index_cons_ne {a c : UInt8} (h : c ≠ a) (t : List UInt8) : Lib.index (c :: t) [a] = if Lib.index t [a] == -1 then -1 else Lib.index t [a] + 1 := by
  have hb : ([a].isPrefixOf (c :: t)) = false := by simp [List.isPrefixOf]; exact fun e => absurd e.symm h
  rw [Lib.index, hb]
  simp
theorem index_cons_eq (a : UInt8) (t : List UInt8) : Lib.index (a :: t) [a] = 0 := by
  have hb : ([a].isPrefixOf (a :: t)) = true := by simp [List.isPrefixOf]
  rw [Lib.index, if_pos hb]
theorem replaceK_ne {a b c : UInt8} (h : c ≠ a) (t : List UInt8) : ∀ k, Lib.replaceK [a] [b] k (c :: t) = c :: Lib.replaceK [a] [b] k t
  | 0 => rfl
  | k + 1 => by
    by_cases hm : Lib.index t [a] = -1
    · rw [Lib.replaceK, Lib.replaceK, index_cons_ne h, hm]; simp
    · have hge := Lib.index_ge t [a]
      obtain ⟨i, hi⟩ : ∃ i : Nat, Lib.index t [a] = i := ⟨(Lib.index t [a]).toNat, by omega⟩
      have h1 : Lib.index (c :: t) [a] = ((i + 1 : Nat) : Int) := by
        rw [index_cons_ne h, hi, if_neg (by simp)]; rfl
      rw [Lib.replaceK_hit _ _ _ _ _ h1, Lib.replaceK_hit _ _ _ _ _ hi]
      simp
theorem repl_map (a b : UInt8) : ∀ s : List UInt8, Lib.replaceK [a] [b] (s.count a) s = s.map (swapB a b)
  | [] => by simp [Lib.replaceK]
  | c :: t => by
    by_cases h : c = a
    · subst h
      rw [List.count_cons_self, Lib.replaceK_hit _ _ _ _ 0 (index_cons_eq c t)]
      simp [swapB, repl_map c b t]
    · rw [List.count_cons_of_ne (by simpa using h), replaceK_ne h, repl_map a b t]
      simp [swapB, h]
theorem replaceAll_map {a b : UInt8} (h : a ≠ b) (s : List UInt8) : Lib.replaceAll s [a] [b] = s.map (swapB a b) := by
  unfold Lib.replaceAll Lib.replace Lib.replaceNum
  have hb : ([a] == [b]) = false := by simpa using h
  rw [hb, if_neg (by simp), if_pos (.inl (by omega)), Lib.count_one]
  exact repl_map a b s
theorem dec_mem (u : Nat) : ∀ b ∈ Lib.decDigits u, 48 ≤ b.toNat ∧ b.toNat ≤ 57 := by
  induction u using Nat.strongRecOn with
  | _ u ih =>
    intro b hb
    rw [Lib.decDigits] at hb
    split at hb
    · rename_i h
      rw [List.mem_singleton.1 hb]
      simp; omega
    · rcases List.mem_append.1 hb with h | h
      · exact ih (u / 10) (by omega) b h
      · rw [List.mem_singleton.1 h]
        simp; omega
theorem itoa_swap {x : Int} (h : SmallI x) {a b : UInt8} (ha : a.toNat < 48) : (Lib.itoa x).map (swapB a b) = Lib.itoa x := by
  obtain ⟨u, rfl⟩ := Int.eq_ofNat_of_zero_le h.1
  rw [itoa_nat]
  have : ∀ c ∈ Lib.decDigits u, swapB a b c = c := fun c hc => by
    have := dec_mem u c hc
    unfold swapB
    rw [if_neg]
    intro e
    subst e
    omega
  rw [List.map_congr_left this, List.map_id']
theorem list_snoc {α : Type} {P : List α → Prop} (h0 : P []) (hs : ∀ t x, P t → P (t ++ [x])) (l : List α) : P l := by
  have : ∀ (r : List α), P r.reverse := fun r => by
    induction r with
    | nil => exact h0
    | cons x r ih => rw [List.reverse_cons]; exact hs _ _ ih
  simpa using this l.reverse
theorem nums_swap (a b : UInt8) (ha : a.toNat < 48) (xs : List Int) : (∀ x ∈ xs, SmallI x) → (numsB a xs).map (swapB a b) = numsB b xs := by
  refine list_snoc (P := fun xs => (∀ x ∈ xs, SmallI x) → (numsB a xs).map (swapB a b) = numsB b xs) (fun _ => rfl) ?_ xs
  intro t x ih hs
  have ih := ih (fun y hy => hs y (by simp [hy]))
  have hx := hs x (by simp)
  by_cases h : t = []
  · subst h
    rw [List.nil_append, numsB_one, numsB_one, itoa_swap hx ha]
  · rw [numsB_snoc _ _ _ h, numsB_snoc _ _ _ h, List.map_append, ih, List.map_cons, itoa_swap hx ha]
    simp [swapB]
/-- the text of a maniplex -/
def txtB (xss : List (List Int)) : List UInt8 := Lib.join (xss.map (numsB 44)) [47]
theorem txtB_zero : txtB [] = [] := rfl
theorem txtB_one (xs : List Int) : txtB [xs] = numsB 44 xs := by simp [txtB, Lib.join_one]
theorem txtB_snoc (xss : List (List Int)) (ys : List Int) (h : xss ≠ []) : txtB (xss ++ [ys]) = txtB xss ++ (47 :: numsB 44 ys) := by
  unfold txtB
  rw [List.map_append, List.map_cons, List.map_nil, join_snoc _ _ _ (by simpa using h)]
  rfl
theorem txtB_len (m : Nat) (xss : List (List Int)) : (∀ xs ∈ xss, xs.length ≤ m ∧ ∀ x ∈ xs, SmallI x) → (txtB xss).length ≤ xss.length * (22 * m + 1) := by
  refine list_snoc (P := fun xss => (∀ xs ∈ xss, xs.length ≤ m ∧ ∀ x ∈ xs, SmallI x) → (txtB xss).length ≤ xss.length * (22 * m + 1)) (fun _ => by simp [txtB_zero]) ?_ xss
  intro t ys ih hs
  have ih := ih (fun y hy => hs y (by simp [hy]))
  have hy := hs ys (by simp)
  have hl := numsB_len 44 ys hy.2
  by_cases h : t = []
  · subst h
    rw [List.nil_append, txtB_one]
    simp; omega
  · rw [txtB_snoc _ _ h, List.length_append, List.length_append, List.length_cons, List.length_singleton, Nat.add_mul]
    omega
theorem txtB_take (m : Nat) (xss : List (List Int)) (k : Nat) (h : ∀ xs ∈ xss, xs.length ≤ m ∧ ∀ x ∈ xs, SmallI x) : (txtB (xss.take k)).length ≤ xss.length * (22 * m + 1) := by
  have h1 := txtB_len m (xss.take k) (fun xs hx => h xs (List.mem_of_mem_take hx))
  have h2 : (xss.take k).length * (22 * m + 1) ≤ xss.length * (22 * m + 1) := Nat.mul_le_mul_right _ (by simp; omega)
  omega
end Go.Proofs.YtebdfhkimnlglaaDoor
