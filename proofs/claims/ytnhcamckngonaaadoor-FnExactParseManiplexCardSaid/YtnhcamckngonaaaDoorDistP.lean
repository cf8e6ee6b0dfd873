/- Plain: distances by a breadth-first search. No program in sight. No condition. -/
import Derived.Test.YtnhcamckngonaaaDoorManP
namespace Go.Proofs.YtnhcamckngonaaaDoor
set_option linter.unusedVariables false
set_option maxRecDepth 100000
/-- d at z -/
def dat (d : List Int) (z : Int) : Int := d.getD z.toNat 0
/-- what the move p adds at the point y -/
def dMove (y : Int) (s : List Int × List Int) (p : List Int) : List Int × List Int := if dat s.1 (at' p y) < 0 then (s.1.set (at' p y).toNat (dat s.1 y + 1), s.2 ++ [at' p y]) else s
def dStep (list : List (List Int)) (y : Int) (s : List Int × List Int) : List Int × List Int := list.foldl (dMove y) s
def dGo (list : List (List Int)) : Nat → List Int × List Int → Nat → List Int × List Int
  | 0, s, _ => s
  | f + 1, s, i => match s.2[i]? with
    | none => s
    | some y => dGo list f (dStep list y s) (i + 1)
def dstart (n : Nat) (x : Int) : List Int × List Int := ((List.replicate n (-1)).set x.toNat 0, [x])
def dist (list : List (List Int)) (n : Nat) (x : Int) : List Int := (dGo list (n + 1) (dstart n x) 0).1
theorem dStep_snoc (list : List (List Int)) (p : List Int) (y : Int) (s : List Int × List Int) : dStep (list ++ [p]) y s = dMove y (dStep list y s) p := by
  unfold dStep; rw [List.foldl_append]; rfl
theorem dGo_stop {list : List (List Int)} {f i : Nat} {s : List Int × List Int} (h : s.2.length ≤ i) : dGo list f s i = s := by
  cases f with
  | zero => rfl
  | succ f => simp [dGo, List.getElem?_eq_none h]
theorem dGo_step {list : List (List Int)} {f i : Nat} {s : List Int × List Int} {y : Int} (h : s.2[i]? = some y) : dGo list (f + 1) s i = dGo list f (dStep list y s) (i + 1) := by
  simp [dGo, h]
theorem dat_set_eq {d : List Int} {g : Int} {u : Int} {n : Nat} (hl : d.length = n) (h0 : 0 ≤ g) (h1 : g < n) : dat (d.set g.toNat u) g = u := by
  unfold dat; simp [List.getD, show g.toNat < d.length by omega]
theorem dat_set_ne {d : List Int} {g z : Int} {u : Int} (h0 : 0 ≤ g) (h1 : 0 ≤ z) (h : z ≠ g) : dat (d.set g.toNat u) z = dat d z := by
  unfold dat; simp [List.getD, List.getElem?_set_ne (show g.toNat ≠ z.toNat by omega)]
/-- what holds of the distances while the i-th of the points met is gone through -/
structure DMet (list : List (List Int)) (n : Nat) (x : Int) (d out : List Int) (i : Nat) : Prop where
  met : Met list n x out
  dl : d.length = n
  pos : ∀ z : Int, 0 ≤ z → z < n → (0 ≤ dat d z ↔ z ∈ out)
  neg : ∀ z : Int, 0 ≤ z → z < n → z ∉ out → dat d z = -1
  le : ∀ (j : Nat) z, out[j]? = some z → dat d z ≤ j
  mono : ∀ (j k : Nat) y z, j ≤ k → out[j]? = some y → out[k]? = some z → dat d y ≤ dat d z
  top : ∀ y z, out[i]? = some y → z ∈ out → dat d z ≤ dat d y + 1
  lip : ∀ (j : Nat) y p, j < i → out[j]? = some y → p ∈ list → at' p y ∈ out ∧ dat d (at' p y) ≤ dat d y + 1
  par : ∀ z ∈ out, z = x ∨ ∃ y p, p ∈ list ∧ y ∈ out ∧ z = at' p y ∧ dat d z = dat d y + 1
  zero : dat d x = 0
theorem DMet.start {list : List (List Int)} {n : Nat} {x : Int} (h0 : 0 ≤ x) (h1 : x < n) : DMet list n x (dstart n x).1 (dstart n x).2 0 := by
  have hz : dat (dstart n x).1 x = 0 := by unfold dstart; exact dat_set_eq (n := n) (by simp) h0 h1
  have hneg : ∀ z : Int, 0 ≤ z → z < n → z ≠ x → dat (dstart n x).1 z = -1 := by
    intro z g0 g1 hne
    unfold dstart
    rw [dat_set_ne h0 g0 hne]
    unfold dat
    simp [List.getD, show z.toNat < n by omega]
  have h1x : ∀ (j : Nat) (z : Int), (dstart n x).2[j]? = some z → j = 0 ∧ z = x := by
    intro j z h
    have h : ([x] : List Int)[j]? = some z := h
    have := (List.getElem?_eq_some_iff.1 h).1
    simp at this
    subst this
    simp at h
    exact ⟨rfl, h.symm⟩
  refine ⟨Met.one h0 h1, by simp [dstart], ?_, ?_, ?_, ?_, ?_, ?_, ?_, hz⟩
  · intro z g0 g1
    show _ ↔ z ∈ [x]
    by_cases e : z = x
    · subst e; simp [hz]
    · rw [hneg z g0 g1 e]; simp [e]
  · intro z g0 g1 hm
    exact hneg z g0 g1 (fun e => hm (by subst e; show z ∈ [z]; simp))
  · intro j z h
    obtain ⟨rfl, rfl⟩ := h1x j z h
    omega
  · intro j k y z _ hy hz'
    obtain ⟨_, rfl⟩ := h1x j y hy
    obtain ⟨_, rfl⟩ := h1x k z hz'
    exact Int.le_refl _
  · intro y z hy hz'
    obtain ⟨_, rfl⟩ := h1x 0 y hy
    have hz' : z ∈ [y] := hz'
    simp at hz'
    subst hz'
    omega
  · intro j y p hj
    omega
  · intro z hz'
    have hz' : z ∈ [x] := hz'
    simp at hz'
    exact .inl hz'
theorem DMet.datn {list : List (List Int)} {n : Nat} {x : Int} {d out : List Int} {i : Nat} (h : DMet list n x d out i) {z : Int} (hz : z ∈ out) : 0 ≤ dat d z ∧ dat d z < n := by
  have hr := h.met.rng z hz
  obtain ⟨j, hj⟩ := List.mem_iff_getElem?.1 hz
  have := h.le j z hj
  have := (List.getElem?_eq_some_iff.1 hj).1
  have := h.met.len
  exact ⟨(h.pos z hr.1 hr.2).2 hz, by omega⟩
theorem DMet.datr {list : List (List Int)} {n : Nat} {x : Int} {d out : List Int} {i : Nat} (h : DMet list n x d out i) {z : Int} (g0 : 0 ≤ z) (g1 : z < n) : -1 ≤ dat d z ∧ dat d z < n := by
  by_cases hz : z ∈ out
  · have := h.datn hz; omega
  · have := h.neg z g0 g1 hz; omega
theorem DMet.add {list : List (List Int)} {n : Nat} {x y : Int} {p : List Int} {d out : List Int} {i : Nat} (hs : SysOf list n) (h : DMet list n x d out i) (hy : out[i]? = some y) (hp : p ∈ list) (hn : dat d (at' p y) < 0) :
    DMet list n x (d.set (at' p y).toNat (dat d y + 1)) (out ++ [at' p y]) i := by
  have hym := mem_of_get? hy
  have hyr := h.met.rng y hym
  obtain ⟨g0, g1⟩ := at'_rng (hs p hp).1 (hs p hp).2.2 hyr.1 hyr.2
  have hgo : at' p y ∉ out := fun hm => by have := (h.pos _ g0 g1).2 hm; omega
  have hmet := h.met.add hs hym hp hgo
  generalize hg : at' p y = g at *
  have hdy := h.datn hym
  have hil := (List.getElem?_eq_some_iff.1 hy).1
  have hgg : dat (d.set g.toNat (dat d y + 1)) g = dat d y + 1 := dat_set_eq h.dl g0 g1
  have hold : ∀ z ∈ out, dat (d.set g.toNat (dat d y + 1)) z = dat d z := fun z hz => dat_set_ne g0 (h.met.rng z hz).1 (fun e => hgo (e ▸ hz))
  have hne : ∀ z : Int, 0 ≤ z → z ≠ g → dat (d.set g.toNat (dat d y + 1)) z = dat d z := fun z hz e => dat_set_ne g0 hz e
  have hget : ∀ (j : Nat) z, (out ++ [g])[j]? = some z → (out[j]? = some z ∧ j < out.length) ∨ (j = out.length ∧ z = g) := by
    intro j z hj
    by_cases hlt : j < out.length
    · rw [List.getElem?_append_left hlt] at hj; exact .inl ⟨hj, hlt⟩
    · have := (List.getElem?_eq_some_iff.1 hj).1
      simp at this
      have e : j = out.length := by omega
      subst e
      simp at hj
      exact .inr ⟨rfl, hj.symm⟩
  refine ⟨hmet, by simp [h.dl], ?_, ?_, ?_, ?_, ?_, ?_, ?_, ?_⟩
  · intro z k0 k1
    by_cases e : z = g
    · subst e; rw [hgg]; simp; omega
    · rw [hne z k0 e, h.pos z k0 k1]; simp [e]
  · intro z k0 k1 hm
    rw [List.mem_append] at hm
    have e : z ≠ g := fun e => hm (.inr (by simp [e]))
    rw [hne z k0 e]
    exact h.neg z k0 k1 (fun hz => hm (.inl hz))
  · intro j z hj
    rcases hget j z hj with ⟨hj, _⟩ | ⟨rfl, rfl⟩
    · rw [hold z (mem_of_get? hj)]; exact h.le j z hj
    · rw [hgg]; have := h.le i y hy; omega
  · intro j k y' z hjk hj hk
    rcases hget j y' hj with ⟨hj2, hjl⟩ | ⟨rfl, rfl⟩
    · rw [hold y' (mem_of_get? hj2)]
      rcases hget k z hk with ⟨hk2, _⟩ | ⟨rfl, rfl⟩
      · rw [hold z (mem_of_get? hk2)]; exact h.mono j k y' z hjk hj2 hk2
      · rw [hgg]; exact h.top y y' hy (mem_of_get? hj2)
    · rcases hget k z hk with ⟨hk, _⟩ | ⟨rfl, rfl⟩
      · have := (List.getElem?_eq_some_iff.1 hk).1; omega
      · exact Int.le_refl _
  · intro y' z hy' hz
    rw [List.getElem?_append_left hil, hy] at hy'
    obtain rfl := Option.some.inj hy'
    rw [hold y hym]
    rcases List.mem_append.1 hz with hz | hz
    · rw [hold z hz]; exact h.top y z hy hz
    · simp at hz; subst hz; rw [hgg]; exact Int.le_refl _
  · intro j y' q hj hjy hq
    rw [List.getElem?_append_left (by omega)] at hjy
    obtain ⟨k1, k2⟩ := h.lip j y' q hj hjy hq
    rw [hold _ k1, hold _ (mem_of_get? hjy)]
    exact ⟨List.mem_append_left _ k1, k2⟩
  · intro z hz
    rcases List.mem_append.1 hz with hz | hz
    · rcases h.par z hz with e | ⟨y', q, h1, h2, h3, h4⟩
      · exact .inl e
      · exact .inr ⟨y', q, h1, List.mem_append_left _ h2, h3, by rw [hold z hz, hold y' h2]; exact h4⟩
    · simp at hz
      subst hz
      exact .inr ⟨y, p, hp, List.mem_append_left _ hym, hg.symm, by rw [hgg, hold y hym]⟩
  · rw [hold x h.met.start]; exact h.zero
/-- all moves of the i-th point are done -/
theorem DMet.next {list : List (List Int)} {n : Nat} {x y : Int} {d out : List Int} {i : Nat} (h : DMet list n x d out i) (hy : out[i]? = some y) (hall : ∀ p ∈ list, at' p y ∈ out) : DMet list n x d out (i + 1) := by
  refine ⟨h.met, h.dl, h.pos, h.neg, h.le, h.mono, ?_, ?_, h.par, h.zero⟩
  · intro y' z hy' hz
    have := h.top y z hy hz
    have := h.mono i (i + 1) y y' (by omega) hy hy'
    omega
  · intro j y' p hj hjy hp
    by_cases e : j = i
    · subst e
      rw [hy] at hjy
      obtain rfl := Option.some.inj hjy
      exact ⟨hall p hp, h.top y _ hy (hall p hp)⟩
    · exact h.lip j y' p (by omega) hjy hp
theorem dMove_spec {list : List (List Int)} {n : Nat} {x y : Int} {p : List Int} {s : List Int × List Int} {i : Nat} (hs : SysOf list n) (h : DMet list n x s.1 s.2 i) (hy : s.2[i]? = some y) (hp : p ∈ list) :
    DMet list n x (dMove y s p).1 (dMove y s p).2 i ∧ (dMove y s p).2[i]? = some y ∧ at' p y ∈ (dMove y s p).2 ∧ ∀ z ∈ s.2, z ∈ (dMove y s p).2 := by
  have hil := (List.getElem?_eq_some_iff.1 hy).1
  have hyr := h.met.rng y (mem_of_get? hy)
  obtain ⟨g0, g1⟩ := at'_rng (hs p hp).1 (hs p hp).2.2 hyr.1 hyr.2
  unfold dMove
  by_cases hn : dat s.1 (at' p y) < 0
  · rw [if_pos hn]
    exact ⟨h.add hs hy hp hn, by rw [List.getElem?_append_left hil]; exact hy, by simp, fun z hz => List.mem_append_left _ hz⟩
  · rw [if_neg hn]
    exact ⟨h, hy, (h.pos _ g0 g1).1 (by omega), fun z hz => hz⟩
theorem dStep_spec {list : List (List Int)} {n : Nat} {x y : Int} {i : Nat} (hs : SysOf list n) : ∀ (ps : List (List Int)) (s : List Int × List Int), (∀ p ∈ ps, p ∈ list) → DMet list n x s.1 s.2 i → s.2[i]? = some y →
    DMet list n x (dStep ps y s).1 (dStep ps y s).2 i ∧ (dStep ps y s).2[i]? = some y ∧ (∀ p ∈ ps, at' p y ∈ (dStep ps y s).2) ∧ ∀ z ∈ s.2, z ∈ (dStep ps y s).2 := by
  intro ps
  induction ps with
  | nil => intro s _ h hy; exact ⟨h, hy, by simp, fun z hz => hz⟩
  | cons p t ih =>
    intro s hps h hy
    obtain ⟨h1, h2, h3, h4⟩ := dMove_spec hs h hy (hps p (by simp))
    obtain ⟨k1, k2, k3, k4⟩ := ih (dMove y s p) (fun q hq => hps q (by simp [hq])) h1 h2
    refine ⟨k1, k2, fun q hq => ?_, fun z hz => k4 z (h4 z hz)⟩
    rcases List.mem_cons.1 hq with rfl | hq
    · exact k4 _ h3
    · exact k3 q hq
theorem dStep_next {list : List (List Int)} {n : Nat} {x y : Int} {i : Nat} {s : List Int × List Int} (hs : SysOf list n) (h : DMet list n x s.1 s.2 i) (hy : s.2[i]? = some y) : DMet list n x (dStep list y s).1 (dStep list y s).2 (i + 1) := by
  obtain ⟨h1, h2, h3, _⟩ := dStep_spec hs list s (fun _ h => h) h hy
  exact h1.next h2 h3
theorem dGo_spec {list : List (List Int)} {n : Nat} {x : Int} (hs : SysOf list n) : ∀ (f : Nat) (s : List Int × List Int) (i : Nat), DMet list n x s.1 s.2 i → n < f + i →
    ∃ i', (dGo list f s i).2.length ≤ i' ∧ DMet list n x (dGo list f s i).1 (dGo list f s i).2 i' := by
  intro f
  induction f with
  | zero =>
    intro s i h hf
    have := h.met.len
    exact ⟨i, by show s.2.length ≤ i; omega, h⟩
  | succ f ih =>
    intro s i h hf
    cases hx : s.2[i]? with
    | none =>
      have := List.getElem?_eq_none_iff.1 hx
      rw [dGo_stop this]
      exact ⟨i, this, h⟩
    | some y =>
      rw [dGo_step hx]
      exact ih _ _ (dStep_next hs h hx) (by omega)
/-- what holds of the distances of a connected system -/
structure DFin (list : List (List Int)) (n : Nat) (x : Int) (d : List Int) : Prop where
  dl : d.length = n
  rng : ∀ z : Int, 0 ≤ z → z < n → 0 ≤ dat d z ∧ dat d z < n
  lip : ∀ (z : Int) p, 0 ≤ z → z < n → p ∈ list → dat d (at' p z) ≤ dat d z + 1
  par : ∀ z : Int, 0 ≤ z → z < n → z ≠ x → ∃ (y : Int) (p : List Int), p ∈ list ∧ 0 ≤ y ∧ y < n ∧ z = at' p y ∧ dat d z = dat d y + 1
  zero : dat d x = 0
/-- all points are met from each point -/
def Conn (list : List (List Int)) (n : Nat) : Prop := ∀ x z : Int, 0 ≤ x → x < n → 0 ≤ z → z < n → Rch list x z
theorem dGo_closed {list : List (List Int)} {n : Nat} {x : Int} {d out : List Int} {i : Nat} (h : DMet list n x d out i) (hl : out.length ≤ i) {z : Int} (hz : Rch list x z) : z ∈ out := by
  induction hz with
  | refl => exact h.met.start
  | step _ hp ih =>
    obtain ⟨j, hj⟩ := List.mem_iff_getElem?.1 ih
    exact (h.lip j _ _ (by have := (List.getElem?_eq_some_iff.1 hj).1; omega) hj hp).1
theorem dist_fin {list : List (List Int)} {n : Nat} {x : Int} (hs : SysOf list n) (hc : Conn list n) (h0 : 0 ≤ x) (h1 : x < n) : DFin list n x (dist list n x) := by
  obtain ⟨i, hi, h⟩ := dGo_spec hs (n + 1) (dstart n x) 0 (DMet.start h0 h1) (by omega)
  unfold dist
  generalize dGo list (n + 1) (dstart n x) 0 = s at *
  have hall : ∀ z : Int, 0 ≤ z → z < n → z ∈ s.2 := fun z g0 g1 => dGo_closed h hi (hc x z h0 h1 g0 g1)
  refine ⟨h.dl, fun z g0 g1 => h.datn (hall z g0 g1), fun z p g0 g1 hp => ?_, fun z g0 g1 hne => ?_, h.zero⟩
  · obtain ⟨j, hj⟩ := List.mem_iff_getElem?.1 (hall z g0 g1)
    exact (h.lip j z p (by have := (List.getElem?_eq_some_iff.1 hj).1; omega) hj hp).2
  · rcases h.par z (hall z g0 g1) with e | ⟨y, p, h2, h3, h4, h5⟩
    · exact absurd e hne
    · have := h.met.rng y h3
      exact ⟨y, p, h2, this.1, this.2, h4, h5⟩
theorem dist_length {list : List (List Int)} {n : Nat} {x : Int} (hs : SysOf list n) (h0 : 0 ≤ x) (h1 : x < n) : (dist list n x).length = n := by
  obtain ⟨i, hi, h⟩ := dGo_spec hs (n + 1) (dstart n x) 0 (DMet.start h0 h1) (by omega)
  exact h.dl
theorem dist_rng {list : List (List Int)} {n : Nat} {x : Int} (hs : SysOf list n) (h0 : 0 ≤ x) (h1 : x < n) : ∀ u ∈ dist list n x, -1 ≤ u ∧ u < n := by
  obtain ⟨i, hi, h⟩ := dGo_spec hs (n + 1) (dstart n x) 0 (DMet.start h0 h1) (by omega)
  intro u hu
  obtain ⟨j, hj⟩ := List.mem_iff_getElem?.1 hu
  have hlt := (List.getElem?_eq_some_iff.1 hj).1
  have := h.dl
  have e : dat (dist list n x) (j : Int) = u := by unfold dat; rw [Int.toNat_natCast]; exact getD_some hj
  have := h.datr (z := (j : Int)) (by omega) (by unfold dist at hlt; omega)
  unfold dist at e
  rw [e] at this
  exact this
theorem ManP.conn {xss : List (List Int)} (h : ManP xss) : Conn xss (flg xss) := by
  have h1 := h.f2
  have hs := h.sys
  have hlen := (conn_iff hs (by omega)).1 h.con
  have hm := bfs_met hs (show (0 : Int) ≤ 0 by omega) (show (0 : Int) < flg xss by omega)
  have hz : ∀ z : Int, 0 ≤ z → z < flg xss → Rch xss 0 z := by
    intro z g0 g1
    have : z ∈ bfs xss (flg xss) 0 := mem_of_full hm.nd (fun a ha => mem_ints.2 (hm.rng a ha)) (by simp [hlen]) (mem_ints.2 ⟨g0, g1⟩)
    exact hm.rch z this
  intro x z x0 x1 z0 z1
  exact ((hz x x0 x1).symm hs (by omega) (by omega)).trans (hz z z0 z1)
end Go.Proofs.YtnhcamckngonaaaDoor
