/- Plain: a text split at a byte; numerals read back. No program in sight. No condition. -/
import Derived.Test.YtebdfhkimnlglaaDoorMtxP
import Derived.Lib.Split
import Derived.Lib.ParseIntB
namespace Go.Proofs.YtebdfhkimnlglaaDoor
set_option linter.unusedVariables false
set_option maxRecDepth 100000
/-- the parts between the bytes b -/
def spl (b : UInt8) : List UInt8 → List (List UInt8)
  | [] => [[]]
  | c :: t => if c = b then [] :: spl b t else ((c :: (spl b t).headD []) :: (spl b t).tail)
theorem spl_eq (b : UInt8) (t : List UInt8) : spl b (b :: t) = [] :: spl b t := if_pos rfl
theorem spl_step {b c : UInt8} (h : c ≠ b) (t : List UInt8) : spl b (c :: t) = (c :: (spl b t).headD []) :: (spl b t).tail := if_neg h
theorem spl_ne (b : UInt8) : ∀ l, spl b l ≠ []
  | [] => by simp [spl]
  | c :: t => by unfold spl; split <;> simp
theorem spl_cons (b : UInt8) (l : List UInt8) : ∃ h r, spl b l = h :: r := by
  cases hh : spl b l with
  | nil => exact absurd hh (spl_ne b l)
  | cons h r => exact ⟨h, r, rfl⟩
theorem spl_join (b : UInt8) : ∀ l, Lib.join (spl b l) [b] = l
  | [] => by simp [spl, Lib.join_one]
  | c :: t => by
    obtain ⟨h, r, e⟩ := spl_cons b t
    have ih := spl_join b t
    rw [e, Lib.join_cons] at ih
    by_cases hc : c = b
    · subst hc
      rw [spl_eq, e, Lib.join_cons]
      simp only [Lib.joinTail, List.map_cons, List.flatten_cons, List.nil_append, List.cons_append]
      rw [← ih]
      rfl
    · rw [spl_step hc, e, Lib.join_cons]
      simp only [List.headD_cons, List.tail_cons, List.cons_append]
      rw [ih]
theorem spl_plain {b : UInt8} : ∀ {p : List UInt8}, b ∉ p → spl b p = [p]
  | [], _ => rfl
  | c :: t, h => by
    have hc : c ≠ b := fun e => h (by rw [e]; exact List.mem_cons_self)
    rw [spl_step hc, spl_plain (fun hm => h (List.mem_cons_of_mem _ hm))]
    rfl
theorem spl_app {b : UInt8} : ∀ {p : List UInt8}, b ∉ p → ∀ t, spl b (p ++ b :: t) = p :: spl b t
  | [], _, t => by rw [List.nil_append, spl_eq]
  | c :: p, h, t => by
    have hc : c ≠ b := fun e => h (by rw [e]; exact List.mem_cons_self)
    have ih := spl_app (p := p) (fun hm => h (List.mem_cons_of_mem _ hm)) t
    rw [List.cons_append, spl_step hc, ih]
    rfl
theorem spl_of_join {b : UInt8} : ∀ {ps : List (List UInt8)}, ps ≠ [] → (∀ p ∈ ps, b ∉ p) → spl b (Lib.join ps [b]) = ps
  | [], h, _ => absurd rfl h
  | [p], _, hp => by rw [Lib.join_one]; exact spl_plain (hp p (by simp))
  | p :: q :: r, _, hp => by
    have ih := spl_of_join (b := b) (ps := q :: r) (by simp) (fun x hx => hp x (List.mem_cons_of_mem _ hx))
    have e : Lib.join (p :: q :: r) [b] = p ++ b :: Lib.join (q :: r) [b] := by
      rw [Lib.join_cons, Lib.join_cons]; simp [Lib.joinTail]
    rw [e, spl_app (hp p List.mem_cons_self), ih]
theorem spl_sum (b : UInt8) : ∀ l, (spl b l).length ≤ l.length + 1
  | [] => by simp [spl]
  | c :: t => by
    have ih := spl_sum b t
    obtain ⟨h, r, e⟩ := spl_cons b t
    unfold spl
    split
    · simp; omega
    · rw [e] at ih ⊢
      simp at ih ⊢; omega
theorem spl_mem_len (b : UInt8) : ∀ l, ∀ p ∈ spl b l, p.length ≤ l.length
  | [] => by simp [spl]
  | c :: t => by
    have ih := spl_mem_len b t
    obtain ⟨h, r, e⟩ := spl_cons b t
    unfold spl
    intro p hp
    split at hp
    · rcases List.mem_cons.1 hp with k | k
      · subst k; simp
      · have := ih p k; simp; omega
    · rw [e] at hp ih
      rcases List.mem_cons.1 hp with k | k
      · subst k
        have := ih h List.mem_cons_self
        simp; omega
      · have := ih p (List.mem_cons_of_mem _ k)
        simp; omega
/-- the library's split at one byte -/
theorem splitK_ne {a c : UInt8} (h : c ≠ a) (t : List UInt8) : ∀ k, Lib.splitK [a] 0 k (c :: t) = (c :: (Lib.splitK [a] 0 k t).headD []) :: (Lib.splitK [a] 0 k t).tail
  | 0 => rfl
  | k + 1 => by
    by_cases hm : Lib.index t [a] = -1
    · rw [Lib.splitK, Lib.splitK, index_cons_ne h, hm]; simp
    · have hge := Lib.index_ge t [a]
      obtain ⟨i, hi⟩ : ∃ i : Nat, Lib.index t [a] = i := ⟨(Lib.index t [a]).toNat, by omega⟩
      have h1 : Lib.index (c :: t) [a] = ((i + 1 : Nat) : Int) := by
        rw [index_cons_ne h, hi, if_neg (by simp)]; rfl
      have e1 : (((i + 1 : Nat) : Int) == -1) = false := by rw [beq_eq_false_iff_ne]; omega
      have e2 : ((i : Int) == -1) = false := by rw [beq_eq_false_iff_ne]; omega
      rw [Lib.splitK, Lib.splitK, h1, hi, e1, e2]
      simp
theorem split_spl (a : UInt8) : ∀ s : List UInt8, Lib.splitK [a] 0 (s.count a) s = spl a s
  | [] => by simp [Lib.splitK, spl]
  | c :: t => by
    by_cases h : c = a
    · subst h
      rw [List.count_cons_self, Lib.splitK, index_cons_eq c t]
      rw [spl_eq, ← split_spl c t]
      simp
    · rw [List.count_cons_of_ne (by simpa using h), splitK_ne h, split_spl a t, spl_step h]
theorem lib_split (a : UInt8) (s : List UInt8) : Lib.split s [a] = spl a s := by
  unfold Lib.split
  rw [Lib.count_one]
  exact split_spl a s
/-- a numeral holds digits alone -/
theorem itoa_digits {x : Int} (h : SmallI x) : ∀ b ∈ Lib.itoa x, 48 ≤ b.toNat ∧ b.toNat ≤ 57 := by
  obtain ⟨u, rfl⟩ := Int.eq_ofNat_of_zero_le h.1
  rw [itoa_nat]
  exact dec_mem u
theorem nums_spl {xs : List Int} (h : ∀ x ∈ xs, SmallI x) (hn : xs ≠ []) {b : UInt8} (hb : b.toNat < 48) : spl b (numsB b xs) = xs.map Lib.itoa := by
  unfold numsB
  refine spl_of_join (by simpa using hn) fun p hp => ?_
  obtain ⟨x, hx, rfl⟩ := List.mem_map.1 hp
  intro hm
  have := itoa_digits (h x hx) b hm
  omega
theorem nums_mem {b : UInt8} (xs : List Int) : (∀ x ∈ xs, SmallI x) → ∀ c ∈ numsB b xs, c = b ∨ (48 ≤ c.toNat ∧ c.toNat ≤ 57) := by
  refine list_snoc (P := fun xs => (∀ x ∈ xs, SmallI x) → ∀ c ∈ numsB b xs, c = b ∨ (48 ≤ c.toNat ∧ c.toNat ≤ 57)) (fun _ c hc => by simp [numsB_zero] at hc) ?_ xs
  intro t y ih hs c hc
  have ih := ih (fun z hz => hs z (by simp [hz]))
  by_cases h : t = []
  · subst h
    rw [List.nil_append, numsB_one] at hc
    exact .inr (itoa_digits (hs y (by simp)) c hc)
  · rw [numsB_snoc _ _ _ h] at hc
    rcases List.mem_append.1 hc with k | k
    · exact ih c k
    · rcases List.mem_cons.1 k with k | k
      · exact .inl k
      · exact .inr (itoa_digits (hs y (by simp)) c k)
theorem txt_spl {xss : List (List Int)} (h : ∀ xs ∈ xss, ∀ x ∈ xs, SmallI x) (hn : xss ≠ []) : spl 47 (txtB xss) = xss.map (numsB 44) := by
  unfold txtB
  refine spl_of_join (by simpa using hn) fun p hp => ?_
  obtain ⟨xs, hx, rfl⟩ := List.mem_map.1 hp
  intro hm
  rcases nums_mem xs (h xs hx) 47 hm with k | k
  · revert k; decide
  · revert k; decide
/-- the value of a numeral -/
theorem dec_inj : ∀ (u v : Nat), Lib.decDigits u = Lib.decDigits v → u = v := by
  intro u
  induction u using Nat.strongRecOn with
  | _ u ih =>
    intro v h
    have hd : ∀ a b : Nat, a < 10 → b < 10 → UInt8.ofNat (48 + a) = UInt8.ofNat (48 + b) → a = b := by
      intro a b ha hb e
      have := congrArg UInt8.toNat e
      simp at this
      omega
    have hpos : ∀ w : Nat, Lib.decDigits w ≠ [] := by
      intro w
      rw [Lib.decDigits]
      split <;> simp
    by_cases h1 : u < 10
    · by_cases h2 : v < 10
      · rw [Lib.decDigits_one h1, Lib.decDigits_one h2] at h
        exact hd u v h1 h2 (by simpa using h)
      · rw [Lib.decDigits_one h1, Lib.decDigits, dif_neg h2] at h
        have := congrArg List.length h
        have hl : 0 < (Lib.decDigits (v / 10)).length := List.length_pos_iff.2 (hpos _)
        rw [List.length_append] at this
        simp only [List.length_cons, List.length_nil] at this
        omega
    · by_cases h2 : v < 10
      · rw [Lib.decDigits_one h2, Lib.decDigits, dif_neg h1] at h
        have := congrArg List.length h
        have hl : 0 < (Lib.decDigits (u / 10)).length := List.length_pos_iff.2 (hpos _)
        rw [List.length_append] at this
        simp only [List.length_cons, List.length_nil] at this
        omega
      · rw [Lib.decDigits, dif_neg h1, Lib.decDigits.eq_def v, dif_neg h2] at h
        obtain ⟨e1, e2⟩ := List.append_inj' h rfl
        have := ih (u / 10) (by omega) (v / 10) e1
        have := hd (u % 10) (v % 10) (by omega) (by omega) (by simpa using e2)
        omega
theorem itoa_inj {x y : Int} (hx : SmallI x) (hy : SmallI y) (h : Lib.itoa x = Lib.itoa y) : x = y := by
  obtain ⟨u, rfl⟩ := Int.eq_ofNat_of_zero_le hx.1
  obtain ⟨v, rfl⟩ := Int.eq_ofNat_of_zero_le hy.1
  rw [itoa_nat, itoa_nat] at h
  have := dec_inj u v h
  omega
theorem itoa_inj_map : ∀ {xs ys : List Int}, (∀ x ∈ xs, SmallI x) → (∀ y ∈ ys, SmallI y) → xs.map Lib.itoa = ys.map Lib.itoa → xs = ys
  | [], [], _, _, _ => rfl
  | [], y :: ys, _, _, h => by simp at h
  | x :: xs, [], _, _, h => by simp at h
  | x :: xs, y :: ys, hx, hy, h => by
    simp only [List.map_cons, List.cons.injEq] at h
    rw [itoa_inj (hx x List.mem_cons_self) (hy y List.mem_cons_self) h.1, itoa_inj_map (fun z hz => hx z (List.mem_cons_of_mem _ hz)) (fun z hz => hy z (List.mem_cons_of_mem _ hz)) h.2]
/-- the numbers below 400 are read back -/
theorem parse_small : ((List.range 400).all fun u => decide (Lib.parseIntB 64 (Lib.decDigits u) = .ok (u : Int))) = true := by decide +kernel
theorem parse_back {y : Int} (h0 : 0 ≤ y) (h1 : y < 400) : Lib.parseIntB 64 (Lib.itoa y) = .ok y := by
  obtain ⟨u, rfl⟩ := Int.eq_ofNat_of_zero_le h0
  rw [itoa_nat]
  have := List.all_eq_true.1 parse_small u (List.mem_range.2 (by omega))
  exact of_decide_eq_true this
end Go.Proofs.YtebdfhkimnlglaaDoor
