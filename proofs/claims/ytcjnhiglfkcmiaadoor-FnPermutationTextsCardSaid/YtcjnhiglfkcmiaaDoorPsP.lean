/- Plain: the permutation of a text. No program in sight. No condition. -/
import Derived.Test.YtcjnhiglfkcmiaaDoorSplP
import Derived.Test.YtcjnhiglfkcmiaaDoorPorP
import Derived.Test.YtcjnhiglfkcmiaaDoorPmP
import Derived.Lib.CountLaws
namespace Go.Proofs.YtcjnhiglfkcmiaaDoor
set_option linter.unusedVariables false
set_option maxRecDepth 100000
-- the split at the two bytes ")("
theorem idx2_plain {p : List UInt8} (h : (41 : UInt8) ∉ p) : Lib.index p [41, 40] = -1 := by
  induction p with
  | nil => rfl
  | cons a t ih =>
    have ha : a ≠ 41 := fun e => h (by simp [e])
    have ht := ih (fun hm => h (by simp [hm]))
    unfold Lib.index
    rw [ht]
    have : ([41, 40] : List UInt8).isPrefixOf (a :: t) = false := by
      simp [List.isPrefixOf, ha.symm]
    rw [this]
    simp
theorem idx2_app {p : List UInt8} (h : (41 : UInt8) ∉ p) (t : List UInt8) : Lib.index (p ++ ([41, 40] ++ t)) [41, 40] = p.length := by
  induction p with
  | nil =>
    show Lib.index (41 :: 40 :: t) [41, 40] = 0
    unfold Lib.index
    simp [List.isPrefixOf]
  | cons a r ih =>
    have ha : a ≠ 41 := fun e => h (by simp [e])
    have ht := ih (fun hm => h (by simp [hm]))
    show Lib.index (a :: (r ++ ([41, 40] ++ t))) [41, 40] = _
    unfold Lib.index
    rw [ht]
    have : ([41, 40] : List UInt8).isPrefixOf (a :: (r ++ ([41, 40] ++ t))) = false := by
      simp [List.isPrefixOf, ha.symm]
    rw [this]
    have e : (((r.length : Nat) : Int) == -1) = false := by rw [beq_eq_false_iff_ne]; omega
    rw [e]
    simp
/-- the split at ")(" -/
def spl2 (L : List UInt8) : List (List UInt8) := Lib.splitK [41, 40] 0 (Lib.count L [41, 40]) L
theorem spl2_plain {p : List UInt8} (h : (41 : UInt8) ∉ p) : spl2 p = [p] := by
  unfold spl2
  have : Lib.count p [41, 40] = 0 := by
    unfold Lib.count Lib.countFrom
    rw [idx2_plain h]; rfl
  rw [this]; rfl
theorem spl2_app {p : List UInt8} (h : (41 : UInt8) ∉ p) (t : List UInt8) : spl2 (p ++ ([41, 40] ++ t)) = p :: spl2 t := by
  have e : (((p.length : Nat) : Int) == -1) = false := by rw [beq_eq_false_iff_ne]; omega
  have hd : (p ++ ([41, 40] ++ t)).drop (p.length + 2) = t := by
    rw [← List.append_assoc, List.drop_append_of_le_length (by simp)]
    simp
  have hc : Lib.count (p ++ ([41, 40] ++ t)) [41, 40] = Lib.count t [41, 40] + 1 := by
    unfold Lib.count
    conv => lhs; unfold Lib.countFrom
    rw [idx2_app h, e]
    simp only [Bool.false_eq_true, if_false, Int.toNat_natCast]
    rw [show p.length + ([41, 40] : List UInt8).length = p.length + 2 from rfl, hd]
    rw [Lib.countFrom_fuel (by simp) _ t (by simp; omega) (t.length + 1) (by omega)]
    omega
  unfold spl2
  rw [hc, Lib.splitK, idx2_app h, e]
  simp only [Bool.false_eq_true, if_false, Int.toNat_natCast, Nat.add_zero]
  rw [show p.length + ([41, 40] : List UInt8).length = p.length + 2 from rfl, hd]
  simp
theorem spl2_join : ∀ {ps : List (List UInt8)}, ps ≠ [] → (∀ p ∈ ps, (41 : UInt8) ∉ p) → spl2 (Lib.join ps [41, 40]) = ps
  | [], h, _ => absurd rfl h
  | [p], _, hp => by
    rw [Lib.join_one]
    exact spl2_plain (hp p (by simp))
  | p :: q :: r, _, hp => by
    have e : Lib.join (p :: q :: r) [41, 40] = p ++ ([41, 40] ++ Lib.join (q :: r) [41, 40]) := by simp [Lib.join]
    rw [e, spl2_app (hp p (by simp)), spl2_join (by simp) (fun x hx => hp x (by simp [hx]))]
-- the cycles
/-- a cycle of p -/
def CycOk (p c : List Int) : Prop := c ≠ [] ∧ (∀ y ∈ c, 0 ≤ y ∧ y < (p.length : Int)) ∧ ∀ (j : Nat) (u : Int), c[j]? = some u → c[(j + 1) % c.length]? = some (at' p u)
def chainC (p c : List Int) : Prop := ∀ (j : Nat) (u v : Int), c[j]? = some u → c[j + 1]? = some v → v = at' p u
theorem cycGo_chain (p : List Int) : ∀ (f : Nat) (bs : List Bool) (x : Int) (c : List Int), chainC p c → (∀ u, c.getLast? = some u → x = at' p u) → chainC p (cycGo p f bs x c).2
  | 0, bs, x, c, h, _ => h
  | f + 1, bs, x, c, h, hl => by
    unfold cycGo
    split
    · exact h
    · refine cycGo_chain p f _ _ _ ?_ (fun u hu => ?_)
      · intro j u v hu hv
        by_cases hj : j + 1 < c.length
        · rw [List.getElem?_append_left (by omega)] at hu
          rw [List.getElem?_append_left hj] at hv
          exact h j u v hu hv
        · have h1 := (List.getElem?_eq_some_iff.1 hv).1
          simp at h1
          have hj1 : j + 1 = c.length := by omega
          rw [List.getElem?_append_left (by omega)] at hu
          rw [List.getElem?_append_right (by omega), hj1] at hv
          simp at hv
          subst hv
          refine hl u ?_
          rw [List.getLast?_eq_getElem?, ← hj1]
          simpa using hu
      · simp at hu
        subst hu
        rfl
theorem cyc_close {p c : List Int} {i : Nat} (hp : isPermP p) (hi : i < p.length) (hc : chainC p c) (hnd : c.Nodup) (hm : ∀ y, y ∈ c ↔ Rch [p] i y) (h0 : c[0]? = some (i : Int)) : CycOk p c := by
  have hr : ∀ y ∈ c, 0 ≤ y ∧ y < (p.length : Int) := by
    intro y hy
    have := (hm y).1 hy
    exact Rch.rng (one_sys hp) this (by omega) (by omega)
  have hne : c ≠ [] := fun e => by rw [e] at h0; simp at h0
  refine ⟨hne, hr, fun j u hu => ?_⟩
  have hj := (List.getElem?_eq_some_iff.1 hu).1
  have hum := List.mem_of_getElem? hu
  have hcl : at' p u ∈ c := (hm _).2 (((hm u).1 hum).step (by simp))
  by_cases hj1 : j + 1 < c.length
  · rw [Nat.mod_eq_of_lt hj1, List.getElem?_eq_getElem hj1]
    exact congrArg some (hc j u _ hu (List.getElem?_eq_getElem hj1))
  · have e : j + 1 = c.length := by omega
    rw [e, Nat.mod_self]
    obtain ⟨m, hm1⟩ := List.mem_iff_getElem?.1 hcl
    cases m with
    | zero => exact hm1
    | succ m =>
      exfalso
      have hml := (List.getElem?_eq_some_iff.1 hm1).1
      have h2 := hc m (c[m]'(by omega)) _ (List.getElem?_eq_getElem (by omega)) hm1
      have hr1 := hr _ hum
      have hr2 := hr _ (List.getElem_mem (show m < c.length by omega))
      have h3 := at_inj hp hr1.1 hr1.2 hr2.1 hr2.2 h2
      have h4 : c[j]? = c[m]? := by rw [hu, List.getElem?_eq_getElem (by omega), h3]
      have := (List.getElem?_inj hj hnd).1 h4
      omega
theorem cycGo_head (p : List Int) : ∀ (f : Nat) (bs : List Bool) (x y : Int) (c : List Int), c[0]? = some y → (cycGo p f bs x c).2[0]? = some y
  | 0, bs, x, y, c, h => h
  | f + 1, bs, x, y, c, h => by
    unfold cycGo
    split
    · exact h
    · refine cycGo_head p f _ _ _ _ ?_
      have := (List.getElem?_eq_some_iff.1 h).1
      rw [List.getElem?_append_left this]; exact h
open Classical in
theorem cycLoop_ok {p : List Int} (hp : isPermP p) : ∀ i, i ≤ p.length → (∀ c ∈ (cycLoop p p.length i).2, CycOk p c) ∧ ∀ y : Nat, y < p.length → Old [p] i y → ∃ c ∈ (cycLoop p p.length i).2, (y : Int) ∈ c := by
  have hs := one_sys hp
  intro i
  induction i with
  | zero =>
    intro _
    refine ⟨by simp [cycLoop], fun y _ h => ?_⟩
    obtain ⟨j, hj, _⟩ := h; omega
  | succ i ih =>
    intro hi
    obtain ⟨ih1, ih2⟩ := ih (by omega)
    obtain ⟨bs, cs, e, hb, hbl, _⟩ := cycLoop_cls hp i (by omega)
    rw [e] at ih1 ih2
    by_cases ho : Old [p] i i
    · have hbi := hb i (by omega)
      rw [decide_eq_true ho] at hbi
      have h2 : cycGo p (p.length + 1) bs (i : Int) [] = (bs, []) := cycGo_stop (by simpa using hbi)
      rw [cycLoop_succ e h2, if_pos rfl]
      exact ⟨ih1, fun y hy h => ih2 y hy ((Old.step hs (by omega) ho).1 h)⟩
    · obtain ⟨bq, ys, h2, hnd, hbq, hbql, hmem⟩ := cycGo_cls hs (i := i) (by omega) (O := Old [p] i) (fun y hy => not_old hs (by omega) ho hy) (p.length + 1) bs (i : Int) [] (by simp) (fun y hy => by rw [hb y hy]; simp) hbl (by simp) .refl (.inr ⟨rfl, rfl⟩) (by simp) (by simp)
      have hne : ys ≠ [] := by
        intro h
        have := (hmem i).2 .refl
        rw [h] at this
        simp at this
      have hch := cycGo_chain p (p.length + 1) bs (i : Int) [] (fun j u v h => by simp at h) (fun u h => by simp at h)
      rw [h2] at hch
      have hhd : ys[0]? = some (i : Int) := by
        have hbi := hb i (by omega)
        rw [decide_eq_false ho] at hbi
        rw [cycGo_step (y := at' p i) (by simpa using hbi) (by exact at_mem rfl (by omega) (by omega))] at h2
        have := cycGo_head p p.length (bs.set (i : Int).toNat true) (at' p i) (i : Int) ([] ++ [(i : Int)]) (by simp)
        rw [h2] at this
        exact this
      rw [cycLoop_succ e h2, if_neg hne]
      refine ⟨fun c hc => ?_, fun y hy h => ?_⟩
      · rcases List.mem_append.1 hc with h | h
        · exact ih1 c h
        · simp at h; subst h
          exact cyc_close hp (by omega) hch hnd hmem hhd
      · rcases Old.new.1 h with h | h
        · obtain ⟨c, hc, hyc⟩ := ih2 y hy h
          exact ⟨c, List.mem_append_left _ hc, hyc⟩
        · exact ⟨ys, by simp, (hmem y).2 h⟩
theorem cycAll_ok {p : List Int} (hp : isPermP p) : (∀ c ∈ cycAll p, CycOk p c) ∧ ∀ y : Nat, y < p.length → ∃ c ∈ cycAll p, (y : Int) ∈ c := by
  obtain ⟨h1, h2⟩ := cycLoop_ok hp p.length (Nat.le_refl _)
  exact ⟨h1, fun y hy => h2 y hy ⟨y, hy, .refl⟩⟩
/-- the cycles that the text writes -/
def cyc2 (p : List Int) : List (List Int) := (cycAll p).filter fun c => decide (1 < c.length)
/-- a list that is q at the points of cs, and the identity elsewhere -/
def mixL (n : Nat) (q : List Int) (cs : List (List Int)) : List Int := (List.range n).map fun (x : Nat) => if cs.any (fun c => c.contains (x : Int)) = true then at' q (x : Int) else (x : Int)
theorem mixL_length (n : Nat) (q : List Int) (cs : List (List Int)) : (mixL n q cs).length = n := by simp [mixL]
theorem mixL_nil (n : Nat) (q : List Int) : mixL n q [] = idL n := by
  unfold mixL idL
  refine List.map_congr_left fun x _ => ?_
  simp
theorem mixL_zero (n : Nat) (q : List Int) (cs : List (List Int)) (c : List Int) : mixL n q (cs ++ [c.take 0]) = mixL n q cs := by
  unfold mixL
  refine List.map_congr_left fun x _ => ?_
  simp
theorem mixL_set {n : Nat} {q : List Int} {cs : List (List Int)} {c : List Int} {j : Nat} {u : Int} (hu : c[j]? = some u) (h0 : 0 ≤ u) (h1 : u < n) : (mixL n q (cs ++ [c.take j])).set u.toNat (at' q u) = mixL n q (cs ++ [c.take (j + 1)]) := by
  obtain ⟨m, rfl⟩ := Int.eq_ofNat_of_zero_le h0
  have hmn : m < n := by omega
  apply List.ext_getElem?
  intro y
  by_cases hy : y < n
  · have htk : c.take (j + 1) = c.take j ++ [(m : Int)] := by rw [List.take_add_one, hu]; rfl
    rw [List.getElem?_set, mixL_length]
    by_cases hym : m = y
    · subst hym
      rw [if_pos (by simp), if_pos (by simpa using hmn)]
      unfold mixL
      rw [List.getElem?_map, List.getElem?_range hmn, htk]
      simp
    · rw [if_neg (by simpa using hym)]
      unfold mixL
      rw [List.getElem?_map, List.getElem?_map, List.getElem?_range hy, htk]
      have hne : ((y : Int) = (m : Int)) = False := by simp; omega
      simp [hne]
  · rw [List.getElem?_eq_none (by simp [mixL]; omega), List.getElem?_eq_none (by simp [mixL]; omega)]
theorem mixL_all {q : List Int} (hq : isPermP q) : mixL q.length q (cyc2 q) = q := by
  obtain ⟨h1, h2⟩ := cycAll_ok hq
  apply List.ext_getElem?
  intro y
  by_cases hy : y < q.length
  · have hyv : q[y]? = some (at' q (y : Int)) := by
      have := at_mem (p := q) rfl (x := (y : Int)) (by omega) (by omega)
      simpa using this
    rw [hyv]
    unfold mixL
    rw [List.getElem?_map, List.getElem?_range hy]
    simp only [Option.map_some, Option.some.injEq]
    split
    · rfl
    · rename_i hno
      obtain ⟨c, hc, hyc⟩ := h2 y hy
      have hlen : ¬ 1 < c.length := fun hl => hno (by
        rw [List.any_eq_true]
        exact ⟨c, List.mem_filter.2 ⟨hc, by simpa using hl⟩, by simpa using hyc⟩)
      obtain ⟨hne, _, hnx⟩ := h1 c hc
      obtain ⟨z, hz⟩ : ∃ z, c = [z] := by
        cases c with
        | nil => exact absurd rfl hne
        | cons a r => cases r with
          | nil => exact ⟨a, rfl⟩
          | cons b r => simp at hlen
      subst hz
      simp at hyc
      subst hyc
      have := hnx 0 y (by simp)
      simpa using this
  · rw [List.getElem?_eq_none (by rw [mixL_length]; omega), List.getElem?_eq_none (by omega)]
-- the text
theorem permGo_cyc2 (cs : List (List Int)) : permGo cs = ((cs.filter fun c => decide (1 < c.length)).map fun c => 40 :: (numsB 32 c ++ [41])).flatten := by
  unfold permGo
  induction cs with
  | nil => rfl
  | cons c r ih =>
    by_cases h : 1 < c.length
    · rw [List.filter_cons_of_pos (by simpa using h)]
      simp only [List.map_cons, List.flatten_cons]
      rw [ih, cycB_pos h]
    · rw [List.filter_cons_of_neg (by simpa using h)]
      simp only [List.map_cons, List.flatten_cons]
      rw [ih, cycB_nil h]
      rfl
theorem flat_join (f : List Int → List UInt8) : ∀ (cs : List (List Int)), cs ≠ [] → (cs.map fun c => 40 :: (f c ++ [41])).flatten = 40 :: (Lib.join (cs.map f) [41, 40] ++ [41])
  | [], h => absurd rfl h
  | [c], _ => by simp [Lib.join_one]
  | c :: d :: r, _ => by
    have ih := flat_join f (d :: r) (by simp)
    have e : Lib.join ((c :: d :: r).map f) [41, 40] = f c ++ ([41, 40] ++ Lib.join ((d :: r).map f) [41, 40]) := by simp [Lib.join]
    rw [e, List.map_cons, List.flatten_cons, ih]
    simp
theorem flat_join1 (f : List Int → List UInt8) : ∀ (cs : List (List Int)), (cs.map fun c => 40 :: (f c ++ [41])).flatten = Lib.join ((cs.map fun c => 40 :: f c) ++ [[]]) [41]
  | [] => by simp [Lib.join_one]
  | c :: r => by
    have ih := flat_join1 f r
    obtain ⟨a, b, hab⟩ : ∃ a b, (r.map fun c => 40 :: f c) ++ [[]] = a :: b := by
      cases r with
      | nil => exact ⟨_, _, rfl⟩
      | cons d r => exact ⟨_, _, rfl⟩
    have e : ∀ x, Lib.join (x :: a :: b) [41] = x ++ ([41] ++ Lib.join (a :: b) [41]) := fun x => by simp [Lib.join]
    have e2 : (List.map (fun c => 40 :: f c) (c :: r)) ++ [[]] = (40 :: f c) :: a :: b := by rw [List.map_cons, List.cons_append, hab]
    rw [e2, e, List.map_cons, List.flatten_cons, ih, hab]
    simp only [List.cons_append, List.append_assoc, List.nil_append]
/-- L is the text of q, a permutation of n points -/
def PT (n : Nat) (L : List UInt8) (q : List Int) : Prop := isPermP q ∧ q.length = n ∧ permB q = L
theorem PT.le {n : Nat} {L : List UInt8} {q : List Int} (h : PT n L q) : n ≤ 400 := by rw [← h.2.1]; exact h.1.le
theorem PT.cyc {n : Nat} {L : List UInt8} {q c : List Int} (h : PT n L q) (hc : c ∈ cyc2 q) : 1 < c.length ∧ (∀ y ∈ c, 0 ≤ y ∧ y < (n : Int)) ∧ ∀ (j : Nat) (u : Int), c[j]? = some u → c[(j + 1) % c.length]? = some (at' q u) := by
  obtain ⟨h1, h2⟩ := List.mem_filter.1 hc
  obtain ⟨a, b, d⟩ := (cycAll_ok h.1).1 c h1
  rw [h.2.1] at b
  exact ⟨by simpa using h2, b, d⟩
theorem PT.small {n : Nat} {L : List UInt8} {q c : List Int} (h : PT n L q) (hc : c ∈ cyc2 q) : ∀ y ∈ c, SmallI y := fun y hy => by
  have := (h.cyc hc).2.1 y hy
  have := h.le
  exact ⟨by omega, by omega⟩
theorem PT.words {n : Nat} {L : List UInt8} {q c : List Int} (h : PT n L q) (hc : c ∈ cyc2 q) : spl 32 (numsB 32 c) = c.map Lib.itoa :=
  nums_spl (h.small hc) (fun e => by have := (h.cyc hc).1; rw [e] at this; simp at this) (by decide)
theorem PT.ne {n : Nat} {L : List UInt8} {q c : List Int} (h : PT n L q) (hc : c ∈ cyc2 q) : numsB 32 c ≠ [] := by
  intro e
  have h1 := h.words hc
  rw [e] at h1
  have h2 := (h.cyc hc).1
  cases c with
  | nil => simp at h2
  | cons a r =>
    simp [spl] at h1
    have := itoa_pos a
    first
      | (rw [h1.1] at this; simp at this)
      | (rw [← h1.1] at this; simp at this)
theorem PT.no41 {n : Nat} {L : List UInt8} {q c : List Int} (h : PT n L q) (hc : c ∈ cyc2 q) : (41 : UInt8) ∉ numsB 32 c := fun hm => by
  rcases nums_mem c (h.small hc) 41 hm with e | e
  · exact absurd e (by decide)
  · exact absurd e (by decide)
/-- what lies between the first and the last sign -/
def innerB (q : List Int) : List UInt8 := Lib.join ((cyc2 q).map (numsB 32)) [41, 40]
theorem PT.text {n : Nat} {L : List UInt8} {q : List Int} (h : PT n L q) : L = 40 :: (innerB q ++ [41]) := by
  rw [← h.2.2]
  unfold permB innerB
  rw [permGo_cyc2]
  show (if ((cyc2 q).map fun c => 40 :: (numsB 32 c ++ [41])).flatten = [] then _ else ((cyc2 q).map fun c => 40 :: (numsB 32 c ++ [41])).flatten) = _
  by_cases hc : cyc2 q = []
  · rw [hc]; simp [Lib.join]
  · rw [flat_join _ _ hc, if_neg (by simp)]
theorem PT.inner {n : Nat} {L : List UInt8} {q : List Int} (h : PT n L q) : (cyc2 q = [] ∧ spl2 (innerB q) = [[]]) ∨ (cyc2 q ≠ [] ∧ spl2 (innerB q) = (cyc2 q).map (numsB 32)) := by
  by_cases hc : cyc2 q = []
  · left
    refine ⟨hc, ?_⟩
    unfold innerB
    rw [hc]
    exact spl2_plain (by simp [Lib.join])
  · right
    refine ⟨hc, spl2_join (by simpa using hc) (fun p hp => ?_)⟩
    obtain ⟨c, hcc, rfl⟩ := List.mem_map.1 hp
    exact h.no41 hcc
theorem PT.outer {n : Nat} {L : List UInt8} {q : List Int} (h : PT n L q) : (cyc2 q = [] ∧ L = [40, 41]) ∨ (cyc2 q ≠ [] ∧ L ≠ [40, 41] ∧ spl 41 L = ((cyc2 q).map fun c => 40 :: numsB 32 c) ++ [[]]) := by
  have ht := h.text
  by_cases hc : cyc2 q = []
  · left
    refine ⟨hc, ?_⟩
    rw [ht]; unfold innerB
    rw [hc]; rfl
  · right
    refine ⟨hc, fun e => ?_, ?_⟩
    · rw [e] at ht
      have hi : innerB q = [] := by
        have := congrArg List.length ht
        simp at this
        exact this
      rcases h.inner with ⟨h1, _⟩ | ⟨_, h2⟩
      · exact hc h1
      · rw [hi] at h2
        obtain ⟨c, r, hcr⟩ : ∃ c r, cyc2 q = c :: r := by
          cases hx : cyc2 q with
          | nil => exact absurd hx hc
          | cons a b => exact ⟨a, b, rfl⟩
        have h3 : spl2 [] = [[]] := spl2_plain (by simp)
        rw [h3, hcr] at h2
        simp at h2
        exact h.ne (c := c) (by rw [hcr]; simp) (by first | exact h2.1 | exact h2.1.symm)
    · rw [ht]
      have e : 40 :: (innerB q ++ [41]) = Lib.join (((cyc2 q).map fun c => 40 :: numsB 32 c) ++ [[]]) [41] := by
        rw [← flat_join1, flat_join _ _ hc]; rfl
      rw [e]
      refine spl_of_join (by simp) (fun p hp => ?_)
      rcases List.mem_append.1 hp with hp | hp
      · obtain ⟨c, hcc, rfl⟩ := List.mem_map.1 hp
        intro hm
        rcases List.mem_cons.1 hm with e | e
        · exact absurd e (by decide)
        · exact h.no41 hcc e
      · simp at hp; subst hp; simp
theorem permGo_len6 (cs : List (List Int)) (h : ∀ c ∈ cs, 1 ≤ c.length ∧ ∀ x ∈ c, 0 ≤ x ∧ x < 400) : (permGo cs).length ≤ 6 * (cs.map List.length).sum := by
  induction cs with
  | nil => simp [permGo]
  | cons c r ih =>
    have ih := ih (fun d hd => h d (by simp [hd]))
    obtain ⟨h1, h2⟩ := h c (by simp)
    have e : permGo (c :: r) = cycB c ++ permGo r := by simp [permGo]
    rw [e, List.length_append, List.map_cons, List.sum_cons]
    have h3 := nums_len4 32 c h2
    have h4 : (cycB c).length ≤ 4 * c.length + 2 := by
      unfold cycB
      split
      · simp; omega
      · simp
    omega
theorem PT.len {n : Nat} {L : List UInt8} {q : List Int} (h : PT n L q) : L.length ≤ 5000 := by
  have hs := lens_sum h.1
  have hl := h.1.le
  have h1 := permGo_len6 (cycAll q) (fun c hc => by
    obtain ⟨a, b, _⟩ := (cycAll_ok h.1).1 c hc
    refine ⟨by cases c with
      | nil => exact absurd rfl a
      | cons x r => simp, fun x hx => by have := b x hx; omega⟩)
  rw [← h.2.2]
  unfold permB
  split
  · simp
  · unfold cycLens at hs
    rw [hs] at h1
    omega
-- the parser's states
/-- the parts of a text -/
def PsOk (n : Nat) (L : List UInt8) (Ps : List (List UInt8)) : Prop := ∀ q, PT n L q → (cyc2 q = [] ∧ Ps = [[]]) ∨ (cyc2 q ≠ [] ∧ Ps = (cyc2 q).map (numsB 32))
def GotI (n : Nat) (L : List UInt8) (k : Nat) (g : List Int) : Prop := g.length = n ∧ ∀ q, PT n L q → g = mixL n q ((cyc2 q).take k)
/-- of the k-th cycle's words j are read -/
def RowI (n : Nat) (L : List UInt8) (k : Nat) (Qs : List (List UInt8)) (j : Nat) (ys : List Int) : Prop := ys.length = j ∧ (∀ y ∈ ys, 0 ≤ y ∧ y < (n : Int)) ∧ ∀ q, PT n L q → ∃ c, (cyc2 q)[k]? = some c ∧ Qs = c.map Lib.itoa ∧ ys = c.take j
/-- of the k-th cycle's points j are set -/
def StoI (n : Nat) (L : List UInt8) (k : Nat) (ys : List Int) (j : Nat) (g : List Int) : Prop := g.length = n ∧ ∀ q, PT n L q → (cyc2 q)[k]? = some ys ∧ g = mixL n q ((cyc2 q).take k ++ [ys.take j])
theorem GotI.zero (n : Nat) (L : List UInt8) : GotI n L 0 (idL n) := ⟨idL_length n, fun q _ => by rw [List.take_zero, mixL_nil]⟩
theorem PsOk.at_ {n : Nat} {L : List UInt8} {Ps : List (List UInt8)} (h : PsOk n L Ps) {k : Nat} {P : List UInt8} (hP : Ps[k]? = some P) (hne : P ≠ []) : ∀ q, PT n L q → ∃ c, (cyc2 q)[k]? = some c ∧ P = numsB 32 c := by
  intro q hq
  rcases h q hq with ⟨_, h2⟩ | ⟨_, h2⟩
  · rw [h2] at hP
    cases k with
    | zero => simp at hP; exact absurd hP hne
    | succ k => simp at hP
  · rw [h2, List.getElem?_map] at hP
    cases hc : (cyc2 q)[k]? with
    | none => rw [hc] at hP; simp at hP
    | some c => rw [hc] at hP; simp at hP; exact ⟨c, rfl, hP.symm⟩
theorem GotI.skip {n : Nat} {L : List UInt8} {Ps : List (List UInt8)} (h : PsOk n L Ps) {k : Nat} (hP : Ps[k]? = some []) {g : List Int} (hg : GotI n L k g) : GotI n L (k + 1) g := by
  refine ⟨hg.1, fun q hq => ?_⟩
  rcases h q hq with ⟨h1, _⟩ | ⟨_, h2⟩
  · have := hg.2 q hq
    rw [h1] at this ⊢
    simpa using this
  · exfalso
    rw [h2, List.getElem?_map] at hP
    cases hc : (cyc2 q)[k]? with
    | none => rw [hc] at hP; simp at hP
    | some c =>
      rw [hc] at hP; simp at hP
      exact hq.ne (List.mem_of_getElem? hc) hP
theorem RowI.zero {n : Nat} {L : List UInt8} {k : Nat} {P : List UInt8} (h : ∀ q, PT n L q → ∃ c, (cyc2 q)[k]? = some c ∧ P = numsB 32 c) : RowI n L k (spl 32 P) 0 [] := by
  refine ⟨rfl, by simp, fun q hq => ?_⟩
  obtain ⟨c, hc, rfl⟩ := h q hq
  exact ⟨c, hc, hq.words (List.mem_of_getElem? hc), by simp⟩
/-- the next word is that of a point -/
theorem RowI.word {n : Nat} {L : List UInt8} {k j : Nat} {Qs : List (List UInt8)} {ys : List Int} (h : RowI n L k Qs j ys) {u : List UInt8} (hu : Qs[j]? = some u) : ∀ q, PT n L q → ∃ c z, (cyc2 q)[k]? = some c ∧ c[j]? = some z ∧ Lib.itoa z = u ∧ 0 ≤ z ∧ z < (n : Int) ∧ n ≤ 400 := by
  intro q hq
  obtain ⟨c, hc, hQ, _⟩ := h.2.2 q hq
  rw [hQ, List.getElem?_map] at hu
  cases hz : c[j]? with
  | none => rw [hz] at hu; simp at hu
  | some z =>
    rw [hz] at hu; simp at hu
    have := (hq.cyc (List.mem_of_getElem? hc)).2.1 z (List.mem_of_getElem? hz)
    exact ⟨c, z, hc, hz, hu, this.1, this.2, hq.le⟩
theorem RowI.snoc {n : Nat} {L : List UInt8} {k j : Nat} {Qs : List (List UInt8)} {ys : List Int} (h : RowI n L k Qs j ys) {u : List UInt8} (hu : Qs[j]? = some u) {x : Int} (h0 : 0 ≤ x) (h1 : x < (n : Int)) (hx : ∀ y : Int, 0 ≤ y → y < 400 → Lib.itoa y = u → x = y) : RowI n L k Qs (j + 1) (ys ++ [x]) := by
  refine ⟨by simp [h.1], fun y hy => ?_, fun q hq => ?_⟩
  · rcases List.mem_append.1 hy with hy | hy
    · exact h.2.1 y hy
    · simp at hy; subst hy; exact ⟨h0, h1⟩
  · obtain ⟨c, hc, hQ, hy⟩ := h.2.2 q hq
    obtain ⟨c', z, hc', hz, hzu, z0, z1, hn⟩ := h.word hu q hq
    obtain rfl := Option.some.inj (hc.symm.trans hc')
    have := hx z z0 (by omega) hzu
    subst this
    exact ⟨c, hc, hQ, by rw [hy, List.take_add_one, hz]; rfl⟩
theorem RowI.bad {n : Nat} {L : List UInt8} {k j : Nat} {Qs : List (List UInt8)} {ys : List Int} (h : RowI n L k Qs j ys) {u : List UInt8} (hu : Qs[j]? = some u) (hx : ∀ y : Int, 0 ≤ y → y < (n : Int) → y < 400 → Lib.itoa y ≠ u) : ¬ ∃ q, PT n L q := by
  rintro ⟨q, hq⟩
  obtain ⟨c, z, _, _, hzu, z0, z1, hn⟩ := h.word hu q hq
  exact hx z z0 z1 (by omega) hzu
theorem StoI.zero {n : Nat} {L : List UInt8} {k : Nat} {Qs : List (List UInt8)} {ys g : List Int} (h : RowI n L k Qs Qs.length ys) (hg : GotI n L k g) : StoI n L k ys 0 g := by
  refine ⟨hg.1, fun q hq => ?_⟩
  obtain ⟨c, hc, hQ, hy⟩ := h.2.2 q hq
  have e : ys = c := by rw [hy, List.take_of_length_le (by rw [hQ]; simp)]
  subst e
  exact ⟨hc, by rw [mixL_zero]; exact hg.2 q hq⟩
theorem StoI.step {n : Nat} {L : List UInt8} {k j : Nat} {ys g : List Int} (h : StoI n L k ys j g) {u v : Int} (hu : ys[j]? = some u) (hv : ys[(j + 1) % ys.length]? = some v) : StoI n L k ys (j + 1) (g.set u.toNat v) := by
  refine ⟨by simp [h.1], fun q hq => ?_⟩
  obtain ⟨hc, hg⟩ := h.2 q hq
  obtain ⟨_, hr, hn⟩ := hq.cyc (List.mem_of_getElem? hc)
  have := hr u (List.mem_of_getElem? hu)
  obtain rfl := Option.some.inj (hv.symm.trans (hn j u hu))
  exact ⟨hc, by rw [hg, mixL_set hu this.1 this.2]⟩
theorem StoI.done {n : Nat} {L : List UInt8} {k : Nat} {ys g : List Int} (h : StoI n L k ys ys.length g) : GotI n L (k + 1) g := by
  refine ⟨h.1, fun q hq => ?_⟩
  obtain ⟨hc, hg⟩ := h.2 q hq
  rw [hg, List.take_of_length_le (Nat.le_refl _), List.take_add_one, hc]
  rfl
/-- all is read -/
def GotF (n : Nat) (L : List UInt8) (g : List Int) : Prop := g.length = n ∧ ∀ q, PT n L q → g = q
theorem GotI.fin {n : Nat} {L : List UInt8} {g : List Int} {k : Nat} (h : GotI n L k g) (hk : ∀ q, PT n L q → (cyc2 q).length ≤ k) : GotF n L g := by
  refine ⟨h.1, fun q hq => ?_⟩
  rw [h.2 q hq, List.take_of_length_le (hk q hq), ← hq.2.1]
  exact mixL_all hq.1
theorem PsOk.fin {n : Nat} {L : List UInt8} {Ps : List (List UInt8)} (h : PsOk n L Ps) {g : List Int} (hg : GotI n L Ps.length g) : GotF n L g := hg.fin fun q hq => by
  rcases h q hq with ⟨h1, _⟩ | ⟨_, h2⟩
  · rw [h1]; simp
  · rw [h2]; simp
open Classical in
/-- the permutation of n points that the text says -/
noncomputable def psG (n : Nat) (L : List UInt8) : List Int × Int := if h : ∃ q, PT n L q then (h.choose, 0) else ([], 6)
theorem psG_no {n : Nat} {L : List UInt8} (h : ¬ ∃ q, PT n L q) : psG n L = ([], 6) := dif_neg h
theorem psG_yes {n : Nat} {L : List UInt8} {g : List Int} (h : PT n L g) (hf : GotF n L g) : psG n L = (g, 0) := by
  have hx : ∃ q, PT n L q := ⟨g, h⟩
  unfold psG
  rw [dif_pos hx, ← hf.2 _ hx.choose_spec]
theorem GotF.yes {n : Nat} {L : List UInt8} {g : List Int} (h : GotF n L g) (hp : isPermB g = true) (ht : permB g = L) : psG n L = (g, 0) := psG_yes ⟨of_decide_eq_true hp, h.1, ht⟩ h
theorem GotF.no {n : Nat} {L : List UInt8} {g : List Int} (h : GotF n L g) (hp : isPermB g = false ∨ permB g ≠ L) : psG n L = ([], 6) := psG_no fun ⟨q, hq⟩ => by
  have := h.2 q hq
  subst this
  rcases hp with hp | hp
  · exact of_decide_eq_false hp hq.1
  · exact hp hq.2.2
/-- what ParsePermutation returns -/
noncomputable def psF (x : Int) (L : List UInt8) : List Int × Int := if inR 0 400 x = true then psG x.toNat L else ([], 2)
end Go.Proofs.YtcjnhiglfkcmiaaDoor
