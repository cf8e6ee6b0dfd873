/- Plain: lattices, by rows and by words of bits. No program in sight. No condition. -/
import Derived.Test.YtbioelmofceaaaaOppP
import Derived.Lib.BitFns
import Derived.Lib.ItoaNum
namespace Go.Proofs.Ytbioelmofceaaaa
set_option linter.unusedVariables false
set_option maxRecDepth 100000
open Classical
/-- the w-th word of 64 bits -/
def wd (m w : Nat) : Nat := (m >>> (64 * w)) % 2 ^ 64
theorem wd_testBit (m w i : Nat) : (wd m w).testBit i = (decide (i < 64) && m.testBit (64 * w + i)) := by
  unfold wd
  rw [Nat.testBit_mod_two_pow, Nat.testBit_shiftRight]
theorem wd_lt (m w : Nat) : wd m w < 18446744073709551616 := Nat.mod_lt _ (by decide)
theorem wd_or_here (m x : Nat) : wd (m ||| 2 ^ x) (x / 64) = wd m (x / 64) ||| 2 ^ (x % 64) := by
  apply Nat.eq_of_testBit_eq
  intro i
  rw [Nat.testBit_or, wd_testBit, wd_testBit, Nat.testBit_or, Nat.testBit_two_pow, Nat.testBit_two_pow]
  by_cases h : i < 64
  · have : (x = 64 * (x / 64) + i) ↔ (x % 64 = i) := by omega
    simp [h, this]
  · have : ¬ x % 64 = i := by omega
    simp [h, this]
theorem wd_or_there (m x w : Nat) (hw : w ≠ x / 64) : wd (m ||| 2 ^ x) w = wd m w := by
  apply Nat.eq_of_testBit_eq
  intro i
  rw [wd_testBit, wd_testBit, Nat.testBit_or, Nat.testBit_two_pow]
  by_cases h : i < 64
  · have : ¬ (x = 64 * w + i) := by omega
    simp [this]
  · simp [h]
theorem wd_and (a b w : Nat) : wd (a &&& b) w = wd a w &&& wd b w := by
  apply Nat.eq_of_testBit_eq
  intro i
  rw [Nat.testBit_and, wd_testBit, wd_testBit, wd_testBit, Nat.testBit_and]
  cases decide (i < 64) <;> simp
theorem wd_zero (w : Nat) : wd 0 w = 0 := by simp [wd]
/-- the bits of an element: itself and what is below -/
def mskK (B : List Int) (e : Nat) (k : Nat) : Nat := (B.take k).foldl (fun m f => m ||| 2 ^ f.toNat) (2 ^ e)
def msk (xss : List (List Int)) (e : Nat) : Nat := mskK (xss.getD e []) e (xss.getD e []).length
theorem mskK_zero (B : List Int) (e : Nat) : mskK B e 0 = 2 ^ e := by simp [mskK]
theorem mskK_succ {B : List Int} {e k : Nat} {f : Int} (h : B[k]? = some f) : mskK B e (k + 1) = mskK B e k ||| 2 ^ f.toNat := by
  unfold mskK
  rw [List.take_add_one, h]
  simp [List.foldl_append]
theorem foldl_bits (l : List Int) (m i : Nat) : (l.foldl (fun m f => m ||| 2 ^ f.toNat) m).testBit i = (m.testBit i || l.any fun f => f.toNat == i) := by
  induction l generalizing m with
  | nil => simp
  | cons f l ih =>
    rw [List.foldl_cons, ih, List.any_cons, Nat.testBit_or, Nat.testBit_two_pow, Bool.or_assoc]
    rfl
theorem msk_bit {xss : List (List Int)} {e : Nat} (h : ∀ f ∈ xss.getD e [], 0 ≤ f) (i : Nat) : (msk xss e).testBit i = true ↔ (i = e ∨ (i : Int) ∈ xss.getD e []) := by
  unfold msk mskK
  rw [foldl_bits, List.take_length, Nat.testBit_two_pow, Bool.or_eq_true, decide_eq_true_eq, List.any_eq_true]
  constructor
  · rintro (h1 | ⟨f, hf, h2⟩)
    · exact .inl h1.symm
    · right
      have h3 := h f hf
      have h4 : f.toNat = i := by simpa using h2
      have : f = (i : Int) := by omega
      rw [← this]; exact hf
  · rintro (h1 | h1)
    · exact .inl h1.symm
    · exact .inr ⟨_, h1, by simp⟩
/-- the row of words: element e, word w at 8 e + w -/
def wds (M : Nat → Nat) (n : Nat) : List Value := (List.range (n * 8)).map fun j => .int .u64 (wd (M (j / 8)) (j % 8) : Nat)
theorem wds_length (M : Nat → Nat) (n : Nat) : (wds M n).length = n * 8 := by simp [wds]
theorem wds_get (M : Nat → Nat) {n e w : Nat} (he : e < n) (hw : w < 8) : (wds M n)[e * 8 + w]? = some (.int .u64 (wd (M e) w : Nat)) := by
  unfold wds
  rw [List.getElem?_map, List.getElem?_range (by omega)]
  have h1 : (e * 8 + w) / 8 = e := by omega
  have h2 : (e * 8 + w) % 8 = w := by omega
  simp only [Option.map_some, h1, h2]
theorem wds_set {M M' : Nat → Nat} {n e x : Nat} (he : e < n) (hx : x < 512) (h1 : M' e = M e ||| 2 ^ x) (h2 : ∀ j, j ≠ e → M' j = M j) :
    (wds M n).set (e * 8 + x / 64) (.int .u64 ((wd (M e) (x / 64) ||| 2 ^ (x % 64) : Nat) : Int)) = wds M' n := by
  apply List.ext_getElem?
  intro j
  rw [List.getElem?_set]
  by_cases hj : j < n * 8
  · by_cases hje : e * 8 + x / 64 = j
    · rw [if_pos hje, if_pos (by rw [wds_length]; omega), ← hje, wds_get M' he (by omega), h1, wd_or_here]
    · rw [if_neg hje]
      obtain ⟨a, b, hb, rfl⟩ : ∃ a b, b < 8 ∧ j = a * 8 + b := ⟨j / 8, j % 8, by omega, by omega⟩
      rw [wds_get M (by omega) hb, wds_get M' (by omega) hb]
      by_cases ha : a = e
      · subst ha
        rw [h1, wd_or_there _ _ _ (by omega)]
      · rw [h2 a ha]
  · rw [if_neg (by omega), List.getElem?_eq_none (by rw [wds_length]; omega), List.getElem?_eq_none (by rw [wds_length]; omega)]
theorem wds_start (n : Nat) : wds (fun _ => 0) n = List.replicate (n * 8) (.int .u64 0) := by
  apply List.ext_getElem?
  intro j
  by_cases hj : j < n * 8
  · unfold wds
    rw [List.getElem?_map, List.getElem?_range hj, List.getElem?_replicate, if_pos hj]
    simp [wd_zero]
  · rw [List.getElem?_eq_none (by rw [wds_length]; omega), List.getElem?_eq_none (by simp; omega)]
/-- the masks when the elements below E are done, E itself up to its place k -/
def mskE (xss : List (List Int)) (E k j : Nat) : Nat := if j < E then msk xss j else if j = E then mskK (xss.getD j []) j k else 0
def mskA (xss : List (List Int)) (E j : Nat) : Nat := if j < E then msk xss j else 0
theorem mskA_zero (xss : List (List Int)) : mskA xss 0 = fun _ => 0 := by funext j; unfold mskA; rw [if_neg (by omega)]
theorem mskE_zero_here (xss : List (List Int)) (E : Nat) : mskE xss E 0 E = mskA xss E E ||| 2 ^ E := by unfold mskE mskA; rw [if_neg (by omega), if_pos rfl, if_neg (by omega), mskK_zero]; simp
theorem mskE_zero_there (xss : List (List Int)) (E j : Nat) (h : j ≠ E) : mskE xss E 0 j = mskA xss E j := by unfold mskE mskA; by_cases g : j < E <;> simp [g, h]
theorem mskE_succ_here {xss : List (List Int)} {E k : Nat} {f : Int} (h : (xss.getD E [])[k]? = some f) : mskE xss E (k + 1) E = mskE xss E k E ||| 2 ^ f.toNat := by unfold mskE; rw [if_neg (by omega), if_pos rfl, if_neg (by omega), if_pos rfl, mskK_succ h]
theorem mskE_there (xss : List (List Int)) (E k k' j : Nat) (h : j ≠ E) : mskE xss E k j = mskE xss E k' j := by unfold mskE; by_cases g : j < E <;> simp [g, h]
theorem mskE_end (xss : List (List Int)) (E : Nat) : mskE xss E (xss.getD E []).length = mskA xss (E + 1) := by
  funext j
  unfold mskE mskA
  by_cases g : j < E
  · rw [if_pos g, if_pos (by omega)]
  · by_cases h : j = E
    · subst h; rw [if_neg g, if_pos rfl, if_pos (by omega)]; rfl
    · rw [if_neg g, if_neg h, if_neg (by omega)]
theorem mskA_all {xss : List (List Int)} {n e : Nat} (h : e < n) : mskA xss n e = msk xss e := if_pos h
/-- the greatest bit of the first w words, or -1 -/
def topW (m : Nat) : Nat → Int
  | 0 => -1
  | w + 1 => if wd m w = 0 then topW m w else ((64 * w + Lib.bitLen (wd m w) - 1 : Nat) : Int)
theorem topW_succ0 {m w : Nat} (h : wd m w = 0) : topW m (w + 1) = topW m w := by show (if _ then _ else _) = _; rw [if_pos h]
theorem topW_succ1 {m w : Nat} (h : wd m w ≠ 0) : topW m (w + 1) = ((64 * w + Lib.bitLen (wd m w) - 1 : Nat) : Int) := by show (if _ then _ else _) = _; rw [if_neg h]
theorem bitLen_pos {x : Nat} (h0 : x ≠ 0) (h : x < 18446744073709551616) : 1 ≤ Lib.bitLen x ∧ Lib.bitLen x ≤ 64 ∧ 2 ^ (Lib.bitLen x - 1) ≤ x ∧ x < 2 ^ Lib.bitLen x := by
  have h1 := Lib.bitLenAux_bounds 64 x h h0
  exact ⟨h1.1, Lib.bitLen_le x 64 (Nat.le_refl _) h, h1.2⟩
theorem testBit_top {x k : Nat} (h1 : 2 ^ k ≤ x) (h2 : x < 2 ^ (k + 1)) : x.testBit k = true := by
  rw [Nat.testBit_eq_decide_div_mod_eq, decide_eq_true_eq]
  have : x / 2 ^ k = 1 := by
    apply Nat.div_eq_of_lt_le
    · omega
    · rw [Nat.pow_succ] at h2; omega
  rw [this]
theorem topW_spec (m : Nat) : ∀ w, (topW m w = -1 ∧ ∀ i, i < 64 * w → m.testBit i = false) ∨ ∃ t : Nat, topW m w = t ∧ t < 64 * w ∧ m.testBit t = true ∧ ∀ i, t < i → i < 64 * w → m.testBit i = false := by
  intro w
  induction w with
  | zero => exact .inl ⟨rfl, fun i hi => by omega⟩
  | succ w ih =>
    by_cases h : wd m w = 0
    · have hz : ∀ i, 64 * w ≤ i → i < 64 * (w + 1) → m.testBit i = false := by
        intro i h1 h2
        have h3 := wd_testBit m w (i - 64 * w)
        rw [h, Nat.zero_testBit] at h3
        have h4 : 64 * w + (i - 64 * w) = i := by omega
        rw [h4, decide_eq_true (show i - 64 * w < 64 by omega), Bool.true_and] at h3
        exact h3.symm
      rw [topW_succ0 h]
      rcases ih with ⟨h1, h2⟩ | ⟨t, h1, h2, h3, h4⟩
      · exact .inl ⟨h1, fun i hi => by
          by_cases g : i < 64 * w
          · exact h2 i g
          · exact hz i (by omega) hi⟩
      · exact .inr ⟨t, h1, by omega, h3, fun i hi hj => by
          by_cases g : i < 64 * w
          · exact h4 i hi g
          · exact hz i (by omega) hj⟩
    · obtain ⟨b1, b2, b3, b4⟩ := bitLen_pos h (wd_lt m w)
      rw [topW_succ1 h]
      refine .inr ⟨64 * w + Lib.bitLen (wd m w) - 1, rfl, by omega, ?_, fun i hi hj => ?_⟩
      · have h3 := wd_testBit m w (Lib.bitLen (wd m w) - 1)
        rw [testBit_top b3 (by rw [Nat.sub_add_cancel b1]; exact b4), decide_eq_true (show Lib.bitLen (wd m w) - 1 < 64 by omega), Bool.true_and] at h3
        rw [show 64 * w + Lib.bitLen (wd m w) - 1 = 64 * w + (Lib.bitLen (wd m w) - 1) by omega]
        exact h3.symm
      · have h3 := wd_testBit m w (i - 64 * w)
        rw [Nat.testBit_lt_two_pow (Nat.lt_of_lt_of_le b4 (Nat.pow_le_pow_right (n := 2) (by decide) (show Lib.bitLen (wd m w) ≤ i - 64 * w by omega)))] at h3
        rw [show 64 * w + (i - 64 * w) = i by omega, decide_eq_true (show i - 64 * w < 64 by omega), Bool.true_and] at h3
        exact h3.symm
/-- the element d is below or equal to both e and f, f < e -/
def Cmn (xss : List (List Int)) (e f d : Nat) : Prop := (d = f ∨ (d : Int) ∈ xss.getD f []) ∧ (d : Int) ∈ xss.getD e []
/-- the common ones of e and f have a greatest one -/
def Mt (xss : List (List Int)) (e f : Nat) : Prop := ∀ t, Cmn xss e f t → (∀ d, Cmn xss e f d → d ≤ t) → ∀ d, Cmn xss e f d → d ≠ t → (d : Int) ∈ xss.getD t []
noncomputable def meetB (xss : List (List Int)) : Bool := decide (∀ e f, f < e → e < xss.length → Mt xss e f)
/-- rows that lead downward -/
def Dwn (xss : List (List Int)) : Prop := ∀ e, ∀ f ∈ xss.getD e [], 0 ≤ f ∧ f < e
noncomputable def cmnB (xss : List (List Int)) (e f d : Nat) : Bool := decide (Cmn xss e f d)
theorem cmnB_true {xss : List (List Int)} {e f d : Nat} (h : cmnB xss e f d = true) : Cmn xss e f d := of_decide_eq_true h
theorem cmnB_false {xss : List (List Int)} {e f d : Nat} (h : cmnB xss e f d = false) : ¬ Cmn xss e f d := of_decide_eq_false h
theorem cmn_le {xss : List (List Int)} {e f d : Nat} (hD : Dwn xss) (h : Cmn xss e f d) : d ≤ f := by
  rcases h.1 with g | g
  · omega
  · have := (hD f _ g).2; omega
theorem cmn_bit {xss : List (List Int)} {e f : Nat} (hD : Dwn xss) (hfe : f < e) (i : Nat) : (msk xss e &&& msk xss f).testBit i = true ↔ Cmn xss e f i := by
  rw [Nat.testBit_and, Bool.and_eq_true, msk_bit (fun x hx => (hD e x hx).1), msk_bit (fun x hx => (hD f x hx).1)]
  constructor
  · rintro ⟨h1 | h1, h2⟩
    · subst h1
      rcases h2 with h2 | h2
      · omega
      · have := (hD f _ h2).2; omega
    · exact ⟨h2, h1⟩
  · rintro ⟨h1, h2⟩
    exact ⟨.inr h2, h1⟩
/-- what the program tests of two elements at the word w -/
def okW (m t : Nat) (w : Nat) : Prop := wd m w &&& (18446744073709551615 - wd t w) = 0
theorem andNot_zero {a b : Nat} (ha : a < 18446744073709551616) (hb : b < 18446744073709551616) : a &&& (18446744073709551615 - b) = 0 ↔ ∀ i, a.testBit i = true → b.testBit i = true := by
  have hc : ∀ i, (18446744073709551615 - b).testBit i = (decide (i < 64) && !b.testBit i) := fun i => by
    have h64 : (2 : Nat) ^ 64 = 18446744073709551616 := by decide
    have e : 18446744073709551615 - b = 2 ^ 64 - (b + 1) := by omega
    rw [e, Nat.testBit_two_pow_sub_succ (by omega)]
  constructor
  · intro h i hi
    have h1 : (a &&& (18446744073709551615 - b)).testBit i = false := by rw [h]; simp
    rw [Nat.testBit_and, hi, hc, Bool.true_and] at h1
    by_cases hlt : i < 64
    · rw [decide_eq_true hlt, Bool.true_and] at h1
      simpa using h1
    · have : a.testBit i = false := Nat.testBit_lt_two_pow (Nat.lt_of_lt_of_le ha (Nat.pow_le_pow_right (n := 2) (by decide) (show 64 ≤ i by omega)))
      rw [this] at hi; cases hi
  · intro h
    apply Nat.eq_of_testBit_eq
    intro i
    rw [Nat.testBit_and, Nat.zero_testBit, hc]
    cases g : a.testBit i with
    | false => rfl
    | true => rw [h i g]; simp
theorem okW_iff {m t w : Nat} : okW m t w ↔ ∀ i, 64 * w ≤ i → i < 64 * (w + 1) → m.testBit i = true → t.testBit i = true := by
  unfold okW
  rw [andNot_zero (wd_lt _ _) (wd_lt _ _)]
  constructor
  · intro h i h1 h2 h3
    have := h (i - 64 * w)
    rw [wd_testBit, wd_testBit, show 64 * w + (i - 64 * w) = i by omega, decide_eq_true (show i - 64 * w < 64 by omega), Bool.true_and, Bool.true_and] at this
    exact this h3
  · intro h i hi
    rw [wd_testBit, Bool.and_eq_true, decide_eq_true_eq] at hi
    rw [wd_testBit, decide_eq_true hi.1, Bool.true_and]
    exact h _ (by omega) (by omega) hi.2
/-- the program's test of two elements is the law's -/
theorem mt_iff {xss : List (List Int)} {e f : Nat} (hD : Dwn xss) (hfe : f < e) (he : e < 500) :
    Mt xss e f ↔ ∀ t : Nat, topW (msk xss e &&& msk xss f) 8 = t → ∀ w, w < 8 → okW (msk xss e &&& msk xss f) (msk xss t) w := by
  have hb := cmn_bit (xss := xss) hD hfe
  have hin : ∀ i, Cmn xss e f i → i < 64 * 8 := fun i hi => by have := cmn_le hD hi; omega
  constructor
  · intro h t ht w hw
    rcases topW_spec (msk xss e &&& msk xss f) 8 with ⟨h1, _⟩ | ⟨t', h1, h2, h3, h4⟩
    · omega
    · obtain rfl : t = t' := by omega
      rw [okW_iff]
      intro i hi1 hi2 hi3
      rw [msk_bit (fun x hx => (hD t x hx).1)]
      by_cases g : i = t
      · exact .inl g
      · right
        refine h t ((hb t).1 h3) (fun d hd => ?_) i ((hb i).1 hi3) g
        rcases Nat.lt_or_ge t d with q | q
        · have := h4 d q (hin d hd)
          rw [(hb d).2 hd] at this; cases this
        · exact q
  · intro h t ht hmax d hd hdt
    rcases topW_spec (msk xss e &&& msk xss f) 8 with ⟨h1, h2⟩ | ⟨t', h1, h2, h3, h4⟩
    · have := h2 t (hin t ht)
      rw [(hb t).2 ht] at this; cases this
    · have e1 : t = t' := by
        have q1 := hmax t' ((hb t').1 h3)
        rcases Nat.lt_or_ge t' t with q | q
        · have := h4 t q (hin t ht)
          rw [(hb t).2 ht] at this; cases this
        · omega
      subst e1
      have h5 := okW_iff.1 (h t h1 (d / 64) (by have := hin d hd; omega)) d (by omega) (by omega) ((hb d).2 hd)
      rcases (msk_bit (fun x hx => (hD t x hx).1) d).1 h5 with g | g
      · exact absurd g hdt
      · exact g
/-- the reference's list of common ones, up to D -/
noncomputable def cmL (xss : List (List Int)) (e f D : Nat) : List Int := ((List.range D).filter fun d => decide (Cmn xss e f d)).map Int.ofNat
theorem cmL_zero (xss : List (List Int)) (e f : Nat) : cmL xss e f 0 = [] := rfl
theorem cmL_succ (xss : List (List Int)) (e f D : Nat) : cmL xss e f (D + 1) = cmL xss e f D ++ (if Cmn xss e f D then [(D : Int)] else []) := by
  unfold cmL
  rw [List.range_succ, List.filter_append, List.map_append]
  congr 1
  by_cases h : Cmn xss e f D <;> simp [h]
theorem cmL_hit {xss : List (List Int)} {e f D : Nat} (h : Cmn xss e f D) : cmL xss e f (D + 1) = cmL xss e f D ++ [(D : Int)] := by rw [cmL_succ, if_pos h]
theorem cmL_miss {xss : List (List Int)} {e f D : Nat} (h : ¬ Cmn xss e f D) : cmL xss e f (D + 1) = cmL xss e f D := by rw [cmL_succ, if_neg h, List.append_nil]
theorem cmL_len (xss : List (List Int)) (e f D : Nat) : (cmL xss e f D).length ≤ D := by
  unfold cmL
  rw [List.length_map]
  exact Nat.le_trans (List.length_filter_le _ _) (by simp)
theorem cmL_mem {xss : List (List Int)} {e f D : Nat} {x : Int} : x ∈ cmL xss e f D ↔ ∃ d : Nat, d < D ∧ Cmn xss e f d ∧ x = d := by
  unfold cmL
  simp only [List.mem_map, List.mem_filter, List.mem_range, decide_eq_true_eq]
  constructor
  · rintro ⟨d, ⟨h1, h2⟩, h3⟩; exact ⟨d, h1, h2, h3.symm⟩
  · rintro ⟨d, h1, h2, h3⟩; exact ⟨d, ⟨h1, h2⟩, h3.symm⟩
theorem cmL_asc (xss : List (List Int)) (e f : Nat) : ∀ D, (cmL xss e f D).Pairwise (· < ·) := by
  intro D
  unfold cmL
  rw [List.pairwise_map]
  exact (List.Pairwise.filter _ List.pairwise_lt_range).imp (fun h => Int.ofNat_lt.2 h)
/-- the reference's test: all but the last one are below the last one -/
theorem mt_list {xss : List (List Int)} {e f : Nat} (hD : Dwn xss) :
    Mt xss e f ↔ ∀ (i : Nat) (t x : Int), (cmL xss e f (f + 1))[(cmL xss e f (f + 1)).length - 1]? = some t → i + 1 < (cmL xss e f (f + 1)).length → (cmL xss e f (f + 1))[i]? = some x → x ∈ xss.getD t.toNat [] := by
  have hm : ∀ d, Cmn xss e f d ↔ (d : Int) ∈ cmL xss e f (f + 1) := fun d => by
    rw [cmL_mem]
    constructor
    · intro h; exact ⟨d, by have := cmn_le hD h; omega, h, rfl⟩
    · rintro ⟨d', _, h, e1⟩
      obtain rfl : d = d' := by omega
      exact h
  have hp := List.pairwise_iff_getElem.1 (cmL_asc xss e f (f + 1))
  have hn : ∀ x ∈ cmL xss e f (f + 1), 0 ≤ x := fun x hx => by obtain ⟨d, _, _, rfl⟩ := cmL_mem.1 hx; omega
  constructor
  · intro h i t x ht hi hx
    obtain ⟨p1, rfl⟩ := List.getElem?_eq_some_iff.1 ht
    obtain ⟨p2, rfl⟩ := List.getElem?_eq_some_iff.1 hx
    have n1 := hn _ (List.getElem_mem p1)
    have n2 := hn _ (List.getElem_mem p2)
    have lt := hp i _ p2 p1 (by omega)
    have g := h (cmL xss e f (f + 1))[(cmL xss e f (f + 1)).length - 1].toNat ((hm _).2 (by rw [Int.toNat_of_nonneg n1]; exact List.getElem_mem p1)) (fun d hd => ?_) (cmL xss e f (f + 1))[i].toNat ((hm _).2 (by rw [Int.toNat_of_nonneg n2]; exact List.getElem_mem p2)) (by omega)
    · rwa [Int.toNat_of_nonneg n2] at g
    · obtain ⟨j, pj, ej⟩ := List.getElem_of_mem ((hm d).1 hd)
      by_cases q : j = (cmL xss e f (f + 1)).length - 1
      · subst q; omega
      · have := hp j _ pj p1 (by omega); omega
  · intro h t ht hmax d hd hdt
    obtain ⟨j, pj, ej⟩ := List.getElem_of_mem ((hm d).1 hd)
    obtain ⟨k, pk, ek⟩ := List.getElem_of_mem ((hm t).1 ht)
    have hk : k = (cmL xss e f (f + 1)).length - 1 := by
      by_cases q : k = (cmL xss e f (f + 1)).length - 1
      · exact q
      · have h1 := hp k _ pk (show (cmL xss e f (f + 1)).length - 1 < _ by omega) (by omega)
        have h2 := hn _ (List.getElem_mem (show (cmL xss e f (f + 1)).length - 1 < (cmL xss e f (f + 1)).length by omega))
        have h3 := hmax (cmL xss e f (f + 1))[(cmL xss e f (f + 1)).length - 1].toNat ((hm _).2 (by rw [Int.toNat_of_nonneg h2]; exact List.getElem_mem _))
        omega
    have hjk : j ≠ k := fun q => by subst q; omega
    have := h j (t : Int) (d : Int) (by rw [← hk, List.getElem?_eq_getElem pk, ek]) (by omega) (by rw [List.getElem?_eq_getElem pj, ej])
    simpa using this
theorem meetB_iff {xss : List (List Int)} : meetB xss = true ↔ ∀ e f, f < e → e < xss.length → Mt xss e f := by unfold meetB; simp
theorem meetB_not {xss : List (List Int)} {e f : Nat} (h1 : f < e) (h2 : e < xss.length) (h : ¬ Mt xss e f) : meetB xss = false := by
  unfold meetB
  exact decide_eq_false (fun g => h (g e f h1 h2))
theorem dwn_pos {r : Int} {ps : List Int} {xss : List (List Int)} (h : PosP r ps xss) : Dwn xss := by
  intro e f hf
  by_cases he : e < xss.length
  · have hB : xss[e]? = some (xss.getD e []) := get?_getD [] he
    obtain ⟨k, hk, rfl⟩ := List.getElem_of_mem hf
    have h1 := h.bel e _ hB k _ (List.getElem?_eq_getElem hk)
    exact ⟨h1.1, bel_lt h.srt h1⟩
  · rw [List.getD_eq_getElem?_getD, List.getElem?_eq_none (by omega)] at hf
    simp at hf
theorem dwn_opp (xss : List (List Int)) : Dwn (oppB xss) := by
  intro e f hf
  by_cases he : e < xss.length
  · have hB : (oppB xss).getD e [] = oppRow xss e e := by rw [List.getD_eq_getElem?_getD, oppB_get he]; rfl
    rw [hB] at hf
    unfold oppRow at hf
    obtain ⟨i, hi, rfl⟩ := List.mem_map.1 hf
    have := List.mem_range.1 (List.mem_filter.1 hi).1
    exact ⟨by simp, by simp; omega⟩
  · rw [List.getD_eq_getElem?_getD, List.getElem?_eq_none (by rw [oppB_length]; omega)] at hf
    simp at hf
/-- both sides -/
noncomputable def latF (r : Int) (ps : List Int) (xss : List (List Int)) : Bool × Int := if isPosB r ps xss then (meetB xss && meetB (oppB xss), 0) else (false, 1)
end Go.Proofs.Ytbioelmofceaaaa
