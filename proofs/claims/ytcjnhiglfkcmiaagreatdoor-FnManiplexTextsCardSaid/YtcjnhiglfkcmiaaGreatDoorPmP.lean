/- Plain: the maniplex of a text. No program in sight. No condition. -/
import Derived.Test.YtcjnhiglfkcmiaaGreatDoorSplP
import Derived.Test.YtcjnhiglfkcmiaaGreatDoorManP
namespace Go.Proofs.YtcjnhiglfkcmiaaGreatDoor
set_option linter.unusedVariables false
set_option maxRecDepth 100000
/-- the number that digits stand for -/
def valN (w : List UInt8) : Nat := w.foldl (fun n c => n * 10 + (c.toNat - 48)) 0
theorem valN_snoc (t : List UInt8) (c : UInt8) : valN (t ++ [c]) = valN t * 10 + (c.toNat - 48) := by simp [valN, List.foldl_append]
def digB (c : UInt8) : Bool := decide (48 ≤ c.toNat ∧ c.toNat ≤ 57)
/-- the number of a numeral of at most nine digits without leading zeros, or -1 -/
def valB (w : List UInt8) : Int :=
  if w.length = 0 ∨ 9 < w.length ∨ (1 < w.length ∧ w.headD 0 = 48) then -1 else if w.all digB = true then (valN w : Int) else -1
theorem valN_pos (w : List UInt8) : w ≠ [] → (∀ c ∈ w, digB c = true) → w.headD 0 ≠ 48 → 1 ≤ valN w := by
  refine list_snoc (P := fun w => w ≠ [] → (∀ c ∈ w, digB c = true) → w.headD 0 ≠ 48 → 1 ≤ valN w) (fun h => absurd rfl h) ?_ w
  intro t c ih _ hd h0
  rw [valN_snoc]
  by_cases ht : t = []
  · subst ht
    have hc := of_decide_eq_true (hd c (by simp))
    have : c.toNat ≠ 48 := fun e => h0 (by
      show c = 48
      apply UInt8.toNat.inj
      rw [e]; rfl)
    omega
  · have := ih ht (fun x hx => hd x (by simp [hx])) (by
      cases t with
      | nil => exact absurd rfl ht
      | cons a r => simpa using h0)
    omega
theorem dec_valN (w : List UInt8) : w ≠ [] → (∀ c ∈ w, digB c = true) → (1 < w.length → w.headD 0 ≠ 48) → Lib.decDigits (valN w) = w := by
  refine list_snoc (P := fun w => w ≠ [] → (∀ c ∈ w, digB c = true) → (1 < w.length → w.headD 0 ≠ 48) → Lib.decDigits (valN w) = w) (fun h => absurd rfl h) ?_ w
  intro t c ih _ hd h0
  rw [valN_snoc]
  have hc := of_decide_eq_true (hd c (by simp))
  have hcc : UInt8.ofNat (48 + (c.toNat - 48)) = c := by
    apply UInt8.toNat.inj
    simp; omega
  by_cases ht : t = []
  · subst ht
    rw [show valN [] = 0 from rfl, Nat.zero_mul, Nat.zero_add, Lib.decDigits_one (by omega), hcc]
    rfl
  · obtain ⟨a, r, rfl⟩ : ∃ a r, t = a :: r := by
      cases t with
      | nil => exact absurd rfl ht
      | cons a r => exact ⟨a, r, rfl⟩
    have h1 : (a :: r).headD 0 ≠ 48 := by simpa using h0 (by simp)
    have hp := valN_pos (a :: r) ht (fun x hx => hd x (List.mem_append_left _ hx)) h1
    have ih := ih ht (fun x hx => hd x (List.mem_append_left _ hx)) (fun _ => h1)
    rw [Lib.decDigits, dif_neg (by omega)]
    have e1 : (valN (a :: r) * 10 + (c.toNat - 48)) / 10 = valN (a :: r) := by omega
    have e2 : (valN (a :: r) * 10 + (c.toNat - 48)) % 10 = c.toNat - 48 := by omega
    rw [e1, e2, ih, hcc]
theorem valB_sound {w : List UInt8} (h : 0 ≤ valB w) : Lib.itoa (valB w) = w := by
  unfold valB at h ⊢
  by_cases h1 : w.length = 0 ∨ 9 < w.length ∨ (1 < w.length ∧ w.headD 0 = 48)
  · rw [if_pos h1] at h; omega
  · rw [if_neg h1] at h ⊢
    by_cases h2 : w.all digB = true
    · rw [if_pos h2]
      rw [itoa_nat]
      refine dec_valN w (fun e => h1 (.inl (by rw [e]; rfl))) (fun c hc => List.all_eq_true.1 h2 c hc) (fun hl e => h1 (.inr (.inr ⟨hl, e⟩)))
    · rw [if_neg h2] at h; omega
theorem val_small : ((List.range 400).all fun u => decide (valB (Lib.decDigits u) = (u : Int))) = true := by decide +kernel
theorem valB_back {y : Int} (h0 : 0 ≤ y) (h1 : y < 400) : valB (Lib.itoa y) = y := by
  obtain ⟨u, rfl⟩ := Int.eq_ofNat_of_zero_le h0
  rw [itoa_nat]
  exact of_decide_eq_true (List.all_eq_true.1 val_small u (List.mem_range.2 (by omega)))
/-- the numbers of a text's rows -/
def valM (L : List UInt8) : List (List Int) := (spl 47 L).map fun P => (spl 44 P).map valB
/-- what ParseManiplex returns -/
noncomputable def pmF (L : List UInt8) : List (List Int) × Int := if isManB (valM L) = true then (valM L, 0) else ([], 6)
theorem man_ent {xss : List (List Int)} (hM : isManB xss = true) : xss ≠ [] ∧ xss.length ≤ 5 ∧ ∀ xs ∈ xss, xs ≠ [] ∧ xs.length ≤ 400 ∧ ∀ x ∈ xs, 0 ≤ x ∧ x < 400 := by
  have hP := isManB_iff.1 hM
  have h1 := hP.r1
  have h5 := hP.r5
  have h2 := hP.f2
  have h4 := hP.f4
  refine ⟨fun e => by rw [e] at h1; simp at h1, h5, fun xs hx => ?_⟩
  obtain ⟨a, _, c⟩ := hP.sys xs hx
  refine ⟨fun e => by rw [e] at c; simp at c; omega, by omega, fun x hx => ?_⟩
  have := a x hx
  omega
/-- a number read from a word -/
def rdR (x : Int) (w : List UInt8) : Prop := Lib.itoa x = w ∧ ∀ y : Int, 0 ≤ y → y < 400 → Lib.itoa y = w → x = y
def RowR (xs : List Int) (ws : List (List UInt8)) : Prop := xs.length = ws.length ∧ ∀ (j : Nat) (x : Int) (w : List UInt8), xs[j]? = some x → ws[j]? = some w → rdR x w
def MatR (xss : List (List Int)) (Ps : List (List UInt8)) : Prop := xss.length = Ps.length ∧ ∀ (k : Nat) (xs : List Int) (P : List UInt8), xss[k]? = some xs → Ps[k]? = some P → RowR xs (spl 44 P)
theorem RowR.zero : RowR [] [] := ⟨rfl, fun j x w h => by simp at h⟩
theorem RowR.snoc {xs : List Int} {ws : List (List UInt8)} {k : Nat} {x : Int} {w : List UInt8} (h : RowR xs (ws.take k)) (hw : ws[k]? = some w) (hx : rdR x w) : RowR (xs ++ [x]) (ws.take (k + 1)) := by
  have e : ws.take (k + 1) = ws.take k ++ [w] := by rw [List.take_add_one, hw]; rfl
  rw [e]
  refine ⟨by simp [h.1], fun j y v hy hv => ?_⟩
  by_cases hj : j < xs.length
  · rw [List.getElem?_append_left hj] at hy
    rw [List.getElem?_append_left (by rw [← h.1]; exact hj)] at hv
    exact h.2 j y v hy hv
  · rw [List.getElem?_append_right (by omega)] at hy
    rw [List.getElem?_append_right (by rw [← h.1]; omega)] at hv
    have h0 : j - xs.length = 0 := by have := (List.getElem?_eq_some_iff.1 hy).1; simp at this; omega
    have h1 := h.1
    rw [h0] at hy
    rw [← h1, h0] at hv
    simp at hy hv
    subst hy; subst hv
    exact hx
theorem MatR.zero : MatR [] [] := ⟨rfl, fun j x w h => by simp at h⟩
theorem MatR.snoc {xss : List (List Int)} {Ps : List (List UInt8)} {k : Nat} {xs : List Int} {P : List UInt8} (h : MatR xss (Ps.take k)) (hw : Ps[k]? = some P) (hx : RowR xs (spl 44 P)) : MatR (xss ++ [xs]) (Ps.take (k + 1)) := by
  have e : Ps.take (k + 1) = Ps.take k ++ [P] := by rw [List.take_add_one, hw]; rfl
  rw [e]
  refine ⟨by simp [h.1], fun j y v hy hv => ?_⟩
  by_cases hj : j < xss.length
  · rw [List.getElem?_append_left hj] at hy
    rw [List.getElem?_append_left (by rw [← h.1]; exact hj)] at hv
    exact h.2 j y v hy hv
  · rw [List.getElem?_append_right (by omega)] at hy
    rw [List.getElem?_append_right (by rw [← h.1]; omega)] at hv
    have h0 : j - xss.length = 0 := by have := (List.getElem?_eq_some_iff.1 hy).1; simp at this; omega
    have h1 := h.1
    rw [h0] at hy
    rw [← h1, h0] at hv
    simp at hy hv
    subst hy; subst hv
    exact hx
/-- the rows that the program reads are those of the reference, where either is a maniplex -/
theorem mat_eq {L : List UInt8} {xss : List (List Int)} (h : MatR xss (spl 47 L)) (hM : isManB xss = true ∨ isManB (valM L) = true) : xss = valM L := by
  apply List.ext_getElem?
  intro k
  unfold valM
  rw [List.getElem?_map]
  by_cases hk : k < xss.length
  · have hk2 : k < (spl 47 L).length := by rw [← h.1]; exact hk
    rw [List.getElem?_eq_getElem hk, List.getElem?_eq_getElem hk2]
    simp only [Option.map_some, Option.some.injEq]
    have hr := h.2 k _ _ (List.getElem?_eq_getElem hk) (List.getElem?_eq_getElem hk2)
    apply List.ext_getElem?
    intro j
    rw [List.getElem?_map]
    by_cases hj : j < (xss[k]).length
    · have hj2 : j < (spl 44 (spl 47 L)[k]).length := by rw [← hr.1]; exact hj
      rw [List.getElem?_eq_getElem hj, List.getElem?_eq_getElem hj2]
      simp only [Option.map_some, Option.some.injEq]
      have hx := hr.2 j _ _ (List.getElem?_eq_getElem hj) (List.getElem?_eq_getElem hj2)
      rcases hM with hM | hM
      · have := ((man_ent hM).2.2 _ (List.getElem_mem hk)).2.2 _ (List.getElem_mem hj)
        rw [← hx.1, valB_back this.1 this.2]
      · have hm1 : ((spl 44 (spl 47 L)[k]).map valB) ∈ valM L := List.mem_map_of_mem (f := fun P => (spl 44 P).map valB) (List.getElem_mem hk2)
        have := ((man_ent hM).2.2 _ hm1).2.2 _ (List.mem_map_of_mem (List.getElem_mem hj2))
        exact hx.2 _ this.1 this.2 (valB_sound this.1)
    · rw [List.getElem?_eq_none (by omega), List.getElem?_eq_none (by rw [← hr.1]; omega)]; rfl
  · rw [List.getElem?_eq_none (by omega), List.getElem?_eq_none (by rw [← h.1]; omega)]; rfl
theorem pm_of {L : List UInt8} {xss : List (List Int)} (h : MatR xss (spl 47 L)) : pmF L = if isManB xss = true then (xss, 0) else ([], 6) := by
  unfold pmF
  by_cases h1 : isManB xss = true
  · rw [if_pos h1, ← mat_eq h (.inl h1), if_pos h1]
  · rw [if_neg h1]
    by_cases h2 : isManB (valM L) = true
    · rw [← mat_eq h (.inr h2)] at h2; exact absurd h2 h1
    · rw [if_neg h2]
/-- a word that is no numeral of a flag -/
theorem pm_word {L P w : List UInt8} (hP : P ∈ spl 47 L) (hw : w ∈ spl 44 P) (h : ∀ y : Int, 0 ≤ y → y < 400 → Lib.itoa y ≠ w) : pmF L = ([], 6) := by
  unfold pmF
  rw [if_neg]
  intro hM
  have hm1 : ((spl 44 P).map valB) ∈ valM L := List.mem_map_of_mem (f := fun P => (spl 44 P).map valB) hP
  have := ((man_ent hM).2.2 _ hm1).2.2 _ (List.mem_map_of_mem hw)
  exact h _ this.1 this.2 (valB_sound this.1)
theorem itoa_len3 {x : Int} (h0 : 0 ≤ x) (h1 : x < 400) : (Lib.itoa x).length ≤ 3 := by
  have key : ((List.range 400).all fun u => decide ((Lib.decDigits u).length ≤ 3)) = true := by decide +kernel
  obtain ⟨u, rfl⟩ := Int.eq_ofNat_of_zero_le h0
  rw [itoa_nat]
  exact of_decide_eq_true (List.all_eq_true.1 key u (List.mem_range.2 (by omega)))
theorem nums_len4 (b : UInt8) (xs : List Int) : (∀ x ∈ xs, 0 ≤ x ∧ x < 400) → (numsB b xs).length ≤ 4 * xs.length := by
  refine list_snoc (P := fun xs => (∀ x ∈ xs, 0 ≤ x ∧ x < 400) → (numsB b xs).length ≤ 4 * xs.length) (fun _ => by simp [numsB_zero]) ?_ xs
  intro t y ih hs
  have ih := ih (fun z hz => hs z (by simp [hz]))
  have hy := hs y (by simp)
  have hl := itoa_len3 hy.1 hy.2
  by_cases h : t = []
  · subst h
    rw [List.nil_append, numsB_one]
    simp; omega
  · rw [numsB_snoc _ _ _ h]
    simp; omega
theorem txt_len4 (xss : List (List Int)) : (∀ xs ∈ xss, xs.length ≤ 400 ∧ ∀ x ∈ xs, 0 ≤ x ∧ x < 400) → (txtB xss).length ≤ xss.length * 1601 := by
  refine list_snoc (P := fun xss => (∀ xs ∈ xss, xs.length ≤ 400 ∧ ∀ x ∈ xs, 0 ≤ x ∧ x < 400) → (txtB xss).length ≤ xss.length * 1601) (fun _ => by simp [txtB_zero]) ?_ xss
  intro t ys ih hs
  have ih := ih (fun y hy => hs y (by simp [hy]))
  have hy := hs ys (by simp)
  have hl := nums_len4 44 ys hy.2
  by_cases h : t = []
  · subst h
    rw [List.nil_append, txtB_one]
    simp; omega
  · rw [txtB_snoc _ _ h]
    simp; omega
/-- the text of what is read is the text -/
theorem val_txt {L : List UInt8} (hM : isManB (valM L) = true) : txtB (valM L) = L := by
  have e : (valM L).map (numsB 44) = spl 47 L := by
    unfold valM
    rw [List.map_map]
    have : ∀ P ∈ spl 47 L, (numsB 44 ∘ fun P => (spl 44 P).map valB) P = P := by
      intro P hP
      have hm1 : ((spl 44 P).map valB) ∈ valM L := List.mem_map_of_mem (f := fun P => (spl 44 P).map valB) hP
      have h2 := ((man_ent hM).2.2 _ hm1).2.2
      show Lib.join (((spl 44 P).map valB).map Lib.itoa) [44] = P
      rw [List.map_map]
      have : ∀ w ∈ spl 44 P, (Lib.itoa ∘ valB) w = w := fun w hw => valB_sound (h2 _ (List.mem_map_of_mem hw)).1
      rw [List.map_congr_left this, List.map_id']
      exact spl_join 44 P
    rw [List.map_congr_left this, List.map_id']
  unfold txtB
  rw [e]
  exact spl_join 47 L
theorem pm_long {L : List UInt8} (h : 10000 < L.length) : pmF L = ([], 6) := by
  unfold pmF
  rw [if_neg]
  intro hM
  obtain ⟨_, h5, he⟩ := man_ent hM
  have := txt_len4 (valM L) (fun xs hx => (he xs hx).2)
  rw [val_txt hM] at this
  omega
/-- the text of a maniplex is read back -/
theorem val_back {xss : List (List Int)} (hM : isManB xss = true) : valM (txtB xss) = xss := by
  obtain ⟨hn, _, he⟩ := man_ent hM
  have hs : ∀ xs ∈ xss, ∀ x ∈ xs, SmallI x := fun xs hx x hxx => by have := (he xs hx).2.2 x hxx; exact ⟨by omega, by omega⟩
  unfold valM
  rw [txt_spl hs hn, List.map_map]
  have : ∀ xs ∈ xss, ((fun P => (spl 44 P).map valB) ∘ numsB 44) xs = xs := by
    intro xs hx
    show (spl 44 (numsB 44 xs)).map valB = xs
    rw [nums_spl (hs xs hx) (he xs hx).1 (by decide), List.map_map]
    have : ∀ x ∈ xs, (valB ∘ Lib.itoa) x = x := fun x hxx => valB_back ((he xs hx).2.2 x hxx).1 ((he xs hx).2.2 x hxx).2
    rw [List.map_congr_left this, List.map_id']
  rw [List.map_congr_left this, List.map_id']
end Go.Proofs.YtcjnhiglfkcmiaaGreatDoor
