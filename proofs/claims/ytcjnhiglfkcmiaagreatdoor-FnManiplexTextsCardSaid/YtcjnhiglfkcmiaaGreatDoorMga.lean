/- Draws of maniplexes: two systems side by side (l02Beside). (Merged: DmgQ, FormP, DistP, RenP, Form, FormS, Ply, Dic, Prm, Mat, MapP, Run, Two, BesP, Sub, IsoP, FsP, Map, Bes.) -/
import Derived.Test.YtcjnhiglfkcmiaaGreatDoorLcgQ
import Derived.Test.YtcjnhiglfkcmiaaGreatDoorManP
import Derived.Test.YtcjnhiglfkcmiaaGreatDoorLawS
import Derived.Test.YtcjnhiglfkcmiaaGreatDoorMan
import Derived.Test.YtcjnhiglfkcmiaaGreatDoorLawM
import Derived.Test.YtcjnhiglfkcmiaaGreatDoorOrbS
import Derived.Test.YtcjnhiglfkcmiaaGreatDoorPerm2
import Derived.Laws.ResultCell
import Derived.BigRegion
import Derived.Test.YtcjnhiglfkcmiaaGreatDoorRow
import Derived.Deep.Cut
import Derived.Deep.CutRange
import Derived.Deep.OwnRows
import Derived.Test.YtcjnhiglfkcmiaaGreatDoorDrwF
import Derived.Test.YtcjnhiglfkcmiaaGreatDoorDrwD
import Derived.Test.YtcjnhiglfkcmiaaGreatDoorStep
import Derived.Test.YtcjnhiglfkcmiaaGreatDoorManX
import Derived.Test.YtcjnhiglfkcmiaaGreatDoorSls
import Derived.Test.YtcjnhiglfkcmiaaGreatDoorOrbP
import Derived.Test.YtcjnhiglfkcmiaaGreatDoorDrwS
/- DmgQ -/
namespace Go.Proofs.YtcjnhiglfkcmiaaGreatDoor
set_option linter.unusedVariables false
set_option maxRecDepth 100000
/-- the times of the rounds behind the code's end -/
structure MetS (H : Nat) (ts : List Nat) (t : Nat) : Prop where
  nd : ts.Nodup
  ev : t % 2 = 0
  mem : ∀ s ∈ ts, s % 2 = 0 ∧ s < t ∧ lcgX (lcgN (s + 1) H) % 3 = 0
  le : t ≤ 4 * ts.length
theorem MetS.zero (H : Nat) : MetS H [] 0 := ⟨List.nodup_nil, rfl, by simp, by simp⟩
theorem MetS.step {H t d : Nat} {ts : List Nat} (m : MetS H ts t) (h3 : lcgX (lcgN (t + 1) H) % 3 = 0) (hd : d = 2 ∨ d = 4) : MetS H (t :: ts) (t + d) := by
  have he := m.ev
  have hl := m.le
  refine ⟨List.nodup_cons.2 ⟨fun hm => by have := (m.mem t hm).2.1; omega, m.nd⟩, by omega, fun s hs => ?_, by rw [List.length_cons]; omega⟩
  rcases List.mem_cons.1 hs with e | hs
  · subst e; exact ⟨he, by omega, h3⟩
  · obtain ⟨a, b, c⟩ := m.mem s hs
    exact ⟨a, by omega, c⟩
theorem MetS.bound {H t : Nat} {ts : List Nat} (hH : H < 18446744073709551616) (m : MetS H ts t) (hl : ts.length ≤ 3074516989171597313) : ts.length ≤ 5592406 * 549755813888 := by
  have hle := m.le
  have hnd : (ts.map fun s => lcgCode (lcgN (s + 1) H)).Nodup := by
    rw [List.nodup_iff_pairwise_ne, List.pairwise_map]
    refine List.Pairwise.imp_of_mem ?_ m.nd
    intro a b ha hb hab e
    obtain ⟨a1, a2, a3⟩ := m.mem a ha
    obtain ⟨b1, b2, b3⟩ := m.mem b hb
    have h2 : lcgN (a + 1) H = lcgN (b + 1) H := lcgCode_inj (lcgN_lt hH _) (lcgN_lt hH _) (by rw [lcgN_mod2, lcgN_mod2]; omega) a3 b3 e
    rcases Nat.lt_or_gt_of_ne hab with h | h
    · exact lcgN_inj hH (a := a + 1) (b := b + 1) (by omega) (by omega) h2
    · exact lcgN_inj hH (a := b + 1) (b := a + 1) (by omega) (by omega) h2.symm
  have := nodup_lt (5592406 * 549755813888) hnd (fun x hx => by
    obtain ⟨s, _, rfl⟩ := List.mem_map.1 hx
    exact lcgCode_lt (lcgN_lt hH _))
  rwa [List.length_map] at this
/-- a run of rounds without an empty text between -/
structure RunS (b r h : Nat) : Prop where
  st : b < 18446744073709551616
  eq : h = lcgN (4 * r) b
  all : ∀ j, j < r → lcgX (lcg (lcgN (4 * j) b)) % 3 = 0
theorem RunS.zero {h : Nat} (hh : h < 18446744073709551616) : RunS h 0 h := ⟨hh, rfl, by intro j hj; omega⟩
theorem RunS.step {b r h : Nat} (R : RunS b r h) (h3 : lcgX (lcg h) % 3 = 0) : RunS b (r + 1) (lcgN 4 h) := by
  refine ⟨R.st, ?_, fun j hj => ?_⟩
  · rw [R.eq, ← lcgN_add]; congr 1; omega
  · by_cases e : j = r
    · subst e; rw [← R.eq]; exact h3
    · exact R.all j (by omega)
theorem RunS.bound {b r h : Nat} (R : RunS b r h) : r ≤ 2148532224 := by
  obtain ⟨j, hj, hn⟩ := run_short (h := lcg b) (lcg_lt b)
  have e : lcgN (4 * j) (lcg b) = lcg (lcgN (4 * j) b) := by
    have h1 : lcgN (4 * j) (lcgN 1 b) = lcgN (4 * j + 1) b := (lcgN_add _ _ _).symm
    exact h1
  rw [e] at hn
  apply Classical.byContradiction
  intro hr
  exact hn (R.all j (by omega))
/-- where a draw of texts stands: i bytes of n are used, h is the state, L the text; f falls with each round -/
def DmgL (K n i h : Nat) (L : List UInt8) (len0 f : Nat) : Prop :=
  (i < n ∧ L.length ≤ len0 + i ∧ f = (n - i) + (K + 3)) ∨
  (i = n ∧ ∃ (H : Nat) (ts : List Nat) (t b r base : Nat), H < 18446744073709551616 ∧ h = lcgN t H ∧ MetS H ts t ∧ ts.length ≤ K ∧ RunS b r h ∧ base ≤ len0 + n + 1 ∧ L.length ≤ base + r ∧ f = (K + 2) - ts.length)
theorem DmgL.len {K n i h len0 f : Nat} {L : List UInt8} (D : DmgL K n i h L len0 f) : L.length ≤ len0 + n + 2148532225 := by
  rcases D with ⟨_, h2, _⟩ | ⟨_, H, ts, t, b, r, base, _, _, _, _, R, h3, h4, _⟩
  · omega
  · have := R.bound; omega
theorem DmgL.start {K n i h len0 : Nat} {L : List UInt8} (hi : i ≤ n) (hh : h < 18446744073709551616) (hL : L.length ≤ len0) : ∃ f, f ≤ n + (K + 3) ∧ DmgL K n i h L len0 f := by
  by_cases hlt : i < n
  · exact ⟨(n - i) + (K + 3), by omega, .inl ⟨hlt, by omega, rfl⟩⟩
  · exact ⟨(K + 2), by omega, .inr ⟨by omega, h, [], 0, h, 0, len0, hh, rfl, MetS.zero h, by simp, RunS.zero hh, by omega, by omega, by simp⟩⟩
theorem DmgL.next {K n i h len0 f i1 i' h' : Nat} (hK : K = 5592406 * 549755813888) {L L' : List UInt8} {v : Int} (D : DmgL K n i h L len0 f) (hin : i ≤ n) (hs1 : i < n → i1 = i + 1) (hd1 : ¬ i < n → i1 = i ∧ v = (lcgX (lcg h) : Int) % 3) (hv : v = 0)
    (hlen : L'.length ≤ L.length + 1) (hone : L = [] → L'.length = 1) (hrise : i1 < n → i1 < i') (hstay : i1 = n → i' = n ∧ h' = lcgN (if L = [] then 1 else 3) (lcg h)) (hle : i' ≤ n) (hh' : h' < 18446744073709551616) :
    ∃ f', f' < f ∧ DmgL K n i' h' L' len0 f' := by
  rcases D with ⟨h1, h2, h3⟩ | ⟨h1, H, ts, t, b, r, base, hH, ht, m, hml, R, hb, hLl, hf⟩
  · have e1 := hs1 h1
    by_cases hi : i' < n
    · have hx : i1 < i' := by
        by_cases h4 : i1 < n
        · exact hrise h4
        · have := (hstay (by omega)).1; omega
      exact ⟨(n - i') + (K + 3), by omega, .inl ⟨hi, by omega, rfl⟩⟩
    · exact ⟨(K + 2), by omega, .inr ⟨by omega, h', [], 0, h', 0, len0 + n, hh', rfl, MetS.zero h', by simp, RunS.zero hh', by omega, by omega, by simp⟩⟩
  · obtain ⟨e1, e2⟩ := hd1 (by omega)
    have h3 : lcgX (lcg h) % 3 = 0 := by omega
    obtain ⟨hi, hst⟩ := hstay (by omega)
    have h3t : lcgX (lcgN (t + 1) H) % 3 = 0 := by rw [lcgN_succ, ← ht]; exact h3
    by_cases hL : L = []
    · rw [if_pos hL] at hst
      have m2 := m.step (d := 2) h3t (.inl rfl)
      have hb2 := m2.bound hH (by rw [List.length_cons]; omega)
      have e4 : h' = lcgN (t + 2) H := by rw [hst, ht, ← lcgN_succ, ← lcgN_add]; congr 1; omega
      have hl1 := hone hL
      refine ⟨(K + 2) - (ts.length + 1), ?_, .inr ⟨hi, H, t :: ts, t + 2, h', 0, 1, hH, e4, m2, ?_, RunS.zero hh', by omega, by omega, by rw [List.length_cons]⟩⟩
      · omega
      · omega
    · rw [if_neg hL] at hst
      have m2 := m.step (d := 4) h3t (.inr rfl)
      have hb2 := m2.bound hH (by rw [List.length_cons]; omega)
      have e4 : h' = lcgN (t + 4) H := by rw [hst, ht, ← lcgN_succ, ← lcgN_add]; congr 1; omega
      have e1' : lcgN 1 h = lcg h := lcgN_succ 0 h
      have e5 : h' = lcgN 4 h := by rw [hst, ← e1', ← lcgN_add]
      have R2 := R.step h3
      rw [← e5] at R2
      refine ⟨(K + 2) - (ts.length + 1), ?_, .inr ⟨hi, H, t :: ts, t + 4, b, r + 1, base, hH, e4, m2, ?_, R2, hb, by omega, by rw [List.length_cons]⟩⟩
      · omega
      · omega
end Go.Proofs.YtcjnhiglfkcmiaaGreatDoor
/- FormP -/
namespace Go.Proofs.YtcjnhiglfkcmiaaGreatDoor
set_option linter.unusedVariables false
set_option maxRecDepth 100000
/-- the move p, the flags numbered as ord has them -/
def ixF (ord p : List Int) : List Int := ord.map fun f => (ord.idxOf (at' p f) : Int)
def formL (xss : List (List Int)) (n : Nat) (x : Int) : List (List Int) := xss.map (ixF (bfs xss n x))
theorem ixF_length (ord p : List Int) : (ixF ord p).length = ord.length := by simp [ixF]
theorem formL_length (xss : List (List Int)) (n : Nat) (x : Int) : (formL xss n x).length = xss.length := by simp [formL]
/-- the numbers of the first k of the flags -/
def NumI (ord : List Int) (n k : Nat) (ns : List Int) : Prop := ns.length = n ∧ ∀ z : Nat, z < n → ns[z]? = some (if (z : Int) ∈ ord.take k then (ord.idxOf (z : Int) : Int) else 0)
theorem NumI.zero (ord : List Int) (n : Nat) : NumI ord n 0 (List.replicate n 0) := ⟨by simp, fun z hz => by simp [hz]⟩
theorem NumI.step {ord : List Int} {n k f : Nat} {ns : List Int} (h : NumI ord n k ns) (hnd : ord.Nodup) (hf : ord[k]? = some (f : Int)) : NumI ord n (k + 1) (ns.set f (k : Int)) := by
  refine ⟨by simp [h.1], fun z hz => ?_⟩
  rw [take_succ_of hf]
  by_cases e : z = f
  · subst e
    rw [if_pos (by simp), idxOf_of_get? hnd hf]
    simp [h.1, hz]
  · rw [List.getElem?_set_ne (by omega), h.2 z hz]
    have : ¬ (z : Int) = (f : Int) := by omega
    simp [this]
theorem NumI.get {ord : List Int} {n z : Nat} {ns : List Int} (h : NumI ord n ord.length ns) (hz : z < n) (hm : (z : Int) ∈ ord) : ns[z]? = some (ord.idxOf (z : Int) : Int) := by
  rw [h.2 z hz, List.take_length, if_pos hm]
theorem numsIn_le {xss : List (List Int)} {n : Nat} (h : ∀ p ∈ xss, p.length ≤ n) : numsIn xss ≤ xss.length * n := by
  induction xss with
  | nil => simp [numsIn]
  | cons p t ih =>
    have h1 := h p (by simp)
    have h2 := ih (fun q hq => h q (by simp [hq]))
    have e : numsIn (p :: t) = p.length + numsIn t := by simp [numsIn]
    rw [e, List.length_cons, Nat.add_mul, Nat.one_mul]
    omega
theorem bfs_closed {list : List (List Int)} {n : Nat} {x y : Int} {p : List Int} (hs : SysOf list n) (h0 : 0 ≤ x) (h1 : x < n) (hy : y ∈ bfs list n x) (hp : p ∈ list) : at' p y ∈ bfs list n x :=
  (bfs_mem hs h0 h1).2 (((bfs_mem hs h0 h1).1 hy).step hp)
theorem formL_nums {xss : List (List Int)} {n : Nat} {x : Int} (hs : SysOf xss n) (h0 : 0 ≤ x) (h1 : x < n) (hn : n ≤ 400) (hl : xss.length ≤ 20) : (formL xss n x).length + numsIn (formL xss n x) ≤ 1048576 := by
  have hlen := (bfs_met hs h0 h1).len
  have := numsIn_le (xss := formL xss n x) (n := 400) (fun p hp => by
    obtain ⟨q, _, rfl⟩ := List.mem_map.1 hp
    rw [ixF_length]; omega)
  rw [formL_length] at *
  omega
end Go.Proofs.YtcjnhiglfkcmiaaGreatDoor
/- DistP -/
namespace Go.Proofs.YtcjnhiglfkcmiaaGreatDoor
set_option linter.unusedVariables false
set_option maxRecDepth 100000
/-- d at z -/
def dat (d : List Int) (z : Int) : Int := d.getD z.toNat 0
/-- what the move p adds at the point y -/
def dMove (y : Int) (s : List Int × List Int) (p : List Int) : List Int × List Int := if dat s.1 (at' p y) < 0 then (s.1.set (at' p y).toNat (dat s.1 y + 1), s.2 ++ [at' p y]) else s
def dStep (list : List (List Int)) (y : Int) (s : List Int × List Int) : List Int × List Int := list.foldl (dMove y) s
def dGo (list : List (List Int)) : Nat → List Int × List Int → Nat → List Int × List Int
  | 0, s, _ => s
  | f + 1, s, i => match s.2[i]? with
    | none => s
    | some y => dGo list f (dStep list y s) (i + 1)
def dstart (n : Nat) (x : Int) : List Int × List Int := ((List.replicate n (-1)).set x.toNat 0, [x])
def dist (list : List (List Int)) (n : Nat) (x : Int) : List Int := (dGo list (n + 1) (dstart n x) 0).1
theorem dStep_snoc (list : List (List Int)) (p : List Int) (y : Int) (s : List Int × List Int) : dStep (list ++ [p]) y s = dMove y (dStep list y s) p := by
  unfold dStep; rw [List.foldl_append]; rfl
theorem dGo_stop {list : List (List Int)} {f i : Nat} {s : List Int × List Int} (h : s.2.length ≤ i) : dGo list f s i = s := by
  cases f with
  | zero => rfl
  | succ f => simp [dGo, List.getElem?_eq_none h]
theorem dGo_step {list : List (List Int)} {f i : Nat} {s : List Int × List Int} {y : Int} (h : s.2[i]? = some y) : dGo list (f + 1) s i = dGo list f (dStep list y s) (i + 1) := by
  simp [dGo, h]
theorem dat_set_eq {d : List Int} {g : Int} {u : Int} {n : Nat} (hl : d.length = n) (h0 : 0 ≤ g) (h1 : g < n) : dat (d.set g.toNat u) g = u := by
  unfold dat; simp [List.getD, show g.toNat < d.length by omega]
theorem dat_set_ne {d : List Int} {g z : Int} {u : Int} (h0 : 0 ≤ g) (h1 : 0 ≤ z) (h : z ≠ g) : dat (d.set g.toNat u) z = dat d z := by
  unfold dat; simp [List.getD, List.getElem?_set_ne (show g.toNat ≠ z.toNat by omega)]
/-- what holds of the distances while the i-th of the points met is gone through -/
structure DMet (list : List (List Int)) (n : Nat) (x : Int) (d out : List Int) (i : Nat) : Prop where
  met : Met list n x out
  dl : d.length = n
  pos : ∀ z : Int, 0 ≤ z → z < n → (0 ≤ dat d z ↔ z ∈ out)
  neg : ∀ z : Int, 0 ≤ z → z < n → z ∉ out → dat d z = -1
  le : ∀ (j : Nat) z, out[j]? = some z → dat d z ≤ j
  mono : ∀ (j k : Nat) y z, j ≤ k → out[j]? = some y → out[k]? = some z → dat d y ≤ dat d z
  top : ∀ y z, out[i]? = some y → z ∈ out → dat d z ≤ dat d y + 1
  lip : ∀ (j : Nat) y p, j < i → out[j]? = some y → p ∈ list → at' p y ∈ out ∧ dat d (at' p y) ≤ dat d y + 1
  par : ∀ z ∈ out, z = x ∨ ∃ y p, p ∈ list ∧ y ∈ out ∧ z = at' p y ∧ dat d z = dat d y + 1
  zero : dat d x = 0
theorem DMet.start {list : List (List Int)} {n : Nat} {x : Int} (h0 : 0 ≤ x) (h1 : x < n) : DMet list n x (dstart n x).1 (dstart n x).2 0 := by
  have hz : dat (dstart n x).1 x = 0 := by unfold dstart; exact dat_set_eq (n := n) (by simp) h0 h1
  have hneg : ∀ z : Int, 0 ≤ z → z < n → z ≠ x → dat (dstart n x).1 z = -1 := by
    intro z g0 g1 hne
    unfold dstart
    rw [dat_set_ne h0 g0 hne]
    unfold dat
    simp [List.getD, show z.toNat < n by omega]
  have h1x : ∀ (j : Nat) (z : Int), (dstart n x).2[j]? = some z → j = 0 ∧ z = x := by
    intro j z h
    have h : ([x] : List Int)[j]? = some z := h
    have := (List.getElem?_eq_some_iff.1 h).1
    simp at this
    subst this
    simp at h
    exact ⟨rfl, h.symm⟩
  refine ⟨Met.one h0 h1, by simp [dstart], ?_, ?_, ?_, ?_, ?_, ?_, ?_, hz⟩
  · intro z g0 g1
    show _ ↔ z ∈ [x]
    by_cases e : z = x
    · subst e; simp [hz]
    · rw [hneg z g0 g1 e]; simp [e]
  · intro z g0 g1 hm
    exact hneg z g0 g1 (fun e => hm (by subst e; show z ∈ [z]; simp))
  · intro j z h
    obtain ⟨rfl, rfl⟩ := h1x j z h
    omega
  · intro j k y z _ hy hz'
    obtain ⟨_, rfl⟩ := h1x j y hy
    obtain ⟨_, rfl⟩ := h1x k z hz'
    exact Int.le_refl _
  · intro y z hy hz'
    obtain ⟨_, rfl⟩ := h1x 0 y hy
    have hz' : z ∈ [y] := hz'
    simp at hz'
    subst hz'
    omega
  · intro j y p hj
    omega
  · intro z hz'
    have hz' : z ∈ [x] := hz'
    simp at hz'
    exact .inl hz'
theorem DMet.datn {list : List (List Int)} {n : Nat} {x : Int} {d out : List Int} {i : Nat} (h : DMet list n x d out i) {z : Int} (hz : z ∈ out) : 0 ≤ dat d z ∧ dat d z < n := by
  have hr := h.met.rng z hz
  obtain ⟨j, hj⟩ := List.mem_iff_getElem?.1 hz
  have := h.le j z hj
  have := (List.getElem?_eq_some_iff.1 hj).1
  have := h.met.len
  exact ⟨(h.pos z hr.1 hr.2).2 hz, by omega⟩
theorem DMet.datr {list : List (List Int)} {n : Nat} {x : Int} {d out : List Int} {i : Nat} (h : DMet list n x d out i) {z : Int} (g0 : 0 ≤ z) (g1 : z < n) : -1 ≤ dat d z ∧ dat d z < n := by
  by_cases hz : z ∈ out
  · have := h.datn hz; omega
  · have := h.neg z g0 g1 hz; omega
theorem DMet.add {list : List (List Int)} {n : Nat} {x y : Int} {p : List Int} {d out : List Int} {i : Nat} (hs : SysOf list n) (h : DMet list n x d out i) (hy : out[i]? = some y) (hp : p ∈ list) (hn : dat d (at' p y) < 0) :
    DMet list n x (d.set (at' p y).toNat (dat d y + 1)) (out ++ [at' p y]) i := by
  have hym := mem_of_get? hy
  have hyr := h.met.rng y hym
  obtain ⟨g0, g1⟩ := at'_rng (hs p hp).1 (hs p hp).2.2 hyr.1 hyr.2
  have hgo : at' p y ∉ out := fun hm => by have := (h.pos _ g0 g1).2 hm; omega
  have hmet := h.met.add hs hym hp hgo
  generalize hg : at' p y = g at *
  have hdy := h.datn hym
  have hil := (List.getElem?_eq_some_iff.1 hy).1
  have hgg : dat (d.set g.toNat (dat d y + 1)) g = dat d y + 1 := dat_set_eq h.dl g0 g1
  have hold : ∀ z ∈ out, dat (d.set g.toNat (dat d y + 1)) z = dat d z := fun z hz => dat_set_ne g0 (h.met.rng z hz).1 (fun e => hgo (e ▸ hz))
  have hne : ∀ z : Int, 0 ≤ z → z ≠ g → dat (d.set g.toNat (dat d y + 1)) z = dat d z := fun z hz e => dat_set_ne g0 hz e
  have hget : ∀ (j : Nat) z, (out ++ [g])[j]? = some z → (out[j]? = some z ∧ j < out.length) ∨ (j = out.length ∧ z = g) := by
    intro j z hj
    by_cases hlt : j < out.length
    · rw [List.getElem?_append_left hlt] at hj; exact .inl ⟨hj, hlt⟩
    · have := (List.getElem?_eq_some_iff.1 hj).1
      simp at this
      have e : j = out.length := by omega
      subst e
      simp at hj
      exact .inr ⟨rfl, hj.symm⟩
  refine ⟨hmet, by simp [h.dl], ?_, ?_, ?_, ?_, ?_, ?_, ?_, ?_⟩
  · intro z k0 k1
    by_cases e : z = g
    · subst e; rw [hgg]; simp; omega
    · rw [hne z k0 e, h.pos z k0 k1]; simp [e]
  · intro z k0 k1 hm
    rw [List.mem_append] at hm
    have e : z ≠ g := fun e => hm (.inr (by simp [e]))
    rw [hne z k0 e]
    exact h.neg z k0 k1 (fun hz => hm (.inl hz))
  · intro j z hj
    rcases hget j z hj with ⟨hj, _⟩ | ⟨rfl, rfl⟩
    · rw [hold z (mem_of_get? hj)]; exact h.le j z hj
    · rw [hgg]; have := h.le i y hy; omega
  · intro j k y' z hjk hj hk
    rcases hget j y' hj with ⟨hj2, hjl⟩ | ⟨rfl, rfl⟩
    · rw [hold y' (mem_of_get? hj2)]
      rcases hget k z hk with ⟨hk2, _⟩ | ⟨rfl, rfl⟩
      · rw [hold z (mem_of_get? hk2)]; exact h.mono j k y' z hjk hj2 hk2
      · rw [hgg]; exact h.top y y' hy (mem_of_get? hj2)
    · rcases hget k z hk with ⟨hk, _⟩ | ⟨rfl, rfl⟩
      · have := (List.getElem?_eq_some_iff.1 hk).1; omega
      · exact Int.le_refl _
  · intro y' z hy' hz
    rw [List.getElem?_append_left hil, hy] at hy'
    obtain rfl := Option.some.inj hy'
    rw [hold y hym]
    rcases List.mem_append.1 hz with hz | hz
    · rw [hold z hz]; exact h.top y z hy hz
    · simp at hz; subst hz; rw [hgg]; exact Int.le_refl _
  · intro j y' q hj hjy hq
    rw [List.getElem?_append_left (by omega)] at hjy
    obtain ⟨k1, k2⟩ := h.lip j y' q hj hjy hq
    rw [hold _ k1, hold _ (mem_of_get? hjy)]
    exact ⟨List.mem_append_left _ k1, k2⟩
  · intro z hz
    rcases List.mem_append.1 hz with hz | hz
    · rcases h.par z hz with e | ⟨y', q, h1, h2, h3, h4⟩
      · exact .inl e
      · exact .inr ⟨y', q, h1, List.mem_append_left _ h2, h3, by rw [hold z hz, hold y' h2]; exact h4⟩
    · simp at hz
      subst hz
      exact .inr ⟨y, p, hp, List.mem_append_left _ hym, hg.symm, by rw [hgg, hold y hym]⟩
  · rw [hold x h.met.start]; exact h.zero
/-- all moves of the i-th point are done -/
theorem DMet.next {list : List (List Int)} {n : Nat} {x y : Int} {d out : List Int} {i : Nat} (h : DMet list n x d out i) (hy : out[i]? = some y) (hall : ∀ p ∈ list, at' p y ∈ out) : DMet list n x d out (i + 1) := by
  refine ⟨h.met, h.dl, h.pos, h.neg, h.le, h.mono, ?_, ?_, h.par, h.zero⟩
  · intro y' z hy' hz
    have := h.top y z hy hz
    have := h.mono i (i + 1) y y' (by omega) hy hy'
    omega
  · intro j y' p hj hjy hp
    by_cases e : j = i
    · subst e
      rw [hy] at hjy
      obtain rfl := Option.some.inj hjy
      exact ⟨hall p hp, h.top y _ hy (hall p hp)⟩
    · exact h.lip j y' p (by omega) hjy hp
theorem dMove_spec {list : List (List Int)} {n : Nat} {x y : Int} {p : List Int} {s : List Int × List Int} {i : Nat} (hs : SysOf list n) (h : DMet list n x s.1 s.2 i) (hy : s.2[i]? = some y) (hp : p ∈ list) :
    DMet list n x (dMove y s p).1 (dMove y s p).2 i ∧ (dMove y s p).2[i]? = some y ∧ at' p y ∈ (dMove y s p).2 ∧ ∀ z ∈ s.2, z ∈ (dMove y s p).2 := by
  have hil := (List.getElem?_eq_some_iff.1 hy).1
  have hyr := h.met.rng y (mem_of_get? hy)
  obtain ⟨g0, g1⟩ := at'_rng (hs p hp).1 (hs p hp).2.2 hyr.1 hyr.2
  unfold dMove
  by_cases hn : dat s.1 (at' p y) < 0
  · rw [if_pos hn]
    exact ⟨h.add hs hy hp hn, by rw [List.getElem?_append_left hil]; exact hy, by simp, fun z hz => List.mem_append_left _ hz⟩
  · rw [if_neg hn]
    exact ⟨h, hy, (h.pos _ g0 g1).1 (by omega), fun z hz => hz⟩
theorem dStep_spec {list : List (List Int)} {n : Nat} {x y : Int} {i : Nat} (hs : SysOf list n) : ∀ (ps : List (List Int)) (s : List Int × List Int), (∀ p ∈ ps, p ∈ list) → DMet list n x s.1 s.2 i → s.2[i]? = some y →
    DMet list n x (dStep ps y s).1 (dStep ps y s).2 i ∧ (dStep ps y s).2[i]? = some y ∧ (∀ p ∈ ps, at' p y ∈ (dStep ps y s).2) ∧ ∀ z ∈ s.2, z ∈ (dStep ps y s).2 := by
  intro ps
  induction ps with
  | nil => intro s _ h hy; exact ⟨h, hy, by simp, fun z hz => hz⟩
  | cons p t ih =>
    intro s hps h hy
    obtain ⟨h1, h2, h3, h4⟩ := dMove_spec hs h hy (hps p (by simp))
    obtain ⟨k1, k2, k3, k4⟩ := ih (dMove y s p) (fun q hq => hps q (by simp [hq])) h1 h2
    refine ⟨k1, k2, fun q hq => ?_, fun z hz => k4 z (h4 z hz)⟩
    rcases List.mem_cons.1 hq with rfl | hq
    · exact k4 _ h3
    · exact k3 q hq
theorem dStep_next {list : List (List Int)} {n : Nat} {x y : Int} {i : Nat} {s : List Int × List Int} (hs : SysOf list n) (h : DMet list n x s.1 s.2 i) (hy : s.2[i]? = some y) : DMet list n x (dStep list y s).1 (dStep list y s).2 (i + 1) := by
  obtain ⟨h1, h2, h3, _⟩ := dStep_spec hs list s (fun _ h => h) h hy
  exact h1.next h2 h3
theorem dGo_spec {list : List (List Int)} {n : Nat} {x : Int} (hs : SysOf list n) : ∀ (f : Nat) (s : List Int × List Int) (i : Nat), DMet list n x s.1 s.2 i → n < f + i →
    ∃ i', (dGo list f s i).2.length ≤ i' ∧ DMet list n x (dGo list f s i).1 (dGo list f s i).2 i' := by
  intro f
  induction f with
  | zero =>
    intro s i h hf
    have := h.met.len
    exact ⟨i, by show s.2.length ≤ i; omega, h⟩
  | succ f ih =>
    intro s i h hf
    cases hx : s.2[i]? with
    | none =>
      have := List.getElem?_eq_none_iff.1 hx
      rw [dGo_stop this]
      exact ⟨i, this, h⟩
    | some y =>
      rw [dGo_step hx]
      exact ih _ _ (dStep_next hs h hx) (by omega)
/-- what holds of the distances of a connected system -/
structure DFin (list : List (List Int)) (n : Nat) (x : Int) (d : List Int) : Prop where
  dl : d.length = n
  rng : ∀ z : Int, 0 ≤ z → z < n → 0 ≤ dat d z ∧ dat d z < n
  lip : ∀ (z : Int) p, 0 ≤ z → z < n → p ∈ list → dat d (at' p z) ≤ dat d z + 1
  par : ∀ z : Int, 0 ≤ z → z < n → z ≠ x → ∃ (y : Int) (p : List Int), p ∈ list ∧ 0 ≤ y ∧ y < n ∧ z = at' p y ∧ dat d z = dat d y + 1
  zero : dat d x = 0
/-- all points are met from each point -/
def Conn (list : List (List Int)) (n : Nat) : Prop := ∀ x z : Int, 0 ≤ x → x < n → 0 ≤ z → z < n → Rch list x z
theorem dGo_closed {list : List (List Int)} {n : Nat} {x : Int} {d out : List Int} {i : Nat} (h : DMet list n x d out i) (hl : out.length ≤ i) {z : Int} (hz : Rch list x z) : z ∈ out := by
  induction hz with
  | refl => exact h.met.start
  | step _ hp ih =>
    obtain ⟨j, hj⟩ := List.mem_iff_getElem?.1 ih
    exact (h.lip j _ _ (by have := (List.getElem?_eq_some_iff.1 hj).1; omega) hj hp).1
theorem dist_fin {list : List (List Int)} {n : Nat} {x : Int} (hs : SysOf list n) (hc : Conn list n) (h0 : 0 ≤ x) (h1 : x < n) : DFin list n x (dist list n x) := by
  obtain ⟨i, hi, h⟩ := dGo_spec hs (n + 1) (dstart n x) 0 (DMet.start h0 h1) (by omega)
  unfold dist
  generalize dGo list (n + 1) (dstart n x) 0 = s at *
  have hall : ∀ z : Int, 0 ≤ z → z < n → z ∈ s.2 := fun z g0 g1 => dGo_closed h hi (hc x z h0 h1 g0 g1)
  refine ⟨h.dl, fun z g0 g1 => h.datn (hall z g0 g1), fun z p g0 g1 hp => ?_, fun z g0 g1 hne => ?_, h.zero⟩
  · obtain ⟨j, hj⟩ := List.mem_iff_getElem?.1 (hall z g0 g1)
    exact (h.lip j z p (by have := (List.getElem?_eq_some_iff.1 hj).1; omega) hj hp).2
  · rcases h.par z (hall z g0 g1) with e | ⟨y, p, h2, h3, h4, h5⟩
    · exact absurd e hne
    · have := h.met.rng y h3
      exact ⟨y, p, h2, this.1, this.2, h4, h5⟩
theorem dist_length {list : List (List Int)} {n : Nat} {x : Int} (hs : SysOf list n) (h0 : 0 ≤ x) (h1 : x < n) : (dist list n x).length = n := by
  obtain ⟨i, hi, h⟩ := dGo_spec hs (n + 1) (dstart n x) 0 (DMet.start h0 h1) (by omega)
  exact h.dl
theorem dist_rng {list : List (List Int)} {n : Nat} {x : Int} (hs : SysOf list n) (h0 : 0 ≤ x) (h1 : x < n) : ∀ u ∈ dist list n x, -1 ≤ u ∧ u < n := by
  obtain ⟨i, hi, h⟩ := dGo_spec hs (n + 1) (dstart n x) 0 (DMet.start h0 h1) (by omega)
  intro u hu
  obtain ⟨j, hj⟩ := List.mem_iff_getElem?.1 hu
  have hlt := (List.getElem?_eq_some_iff.1 hj).1
  have := h.dl
  have e : dat (dist list n x) (j : Int) = u := by unfold dat; rw [Int.toNat_natCast]; exact getD_some hj
  have := h.datr (z := (j : Int)) (by omega) (by unfold dist at hlt; omega)
  unfold dist at e
  rw [e] at this
  exact this
theorem ManP.conn {xss : List (List Int)} (h : ManP xss) : Conn xss (flg xss) := by
  have h1 := h.f2
  have hs := h.sys
  have hlen := (conn_iff hs (by omega)).1 h.con
  have hm := bfs_met hs (show (0 : Int) ≤ 0 by omega) (show (0 : Int) < flg xss by omega)
  have hz : ∀ z : Int, 0 ≤ z → z < flg xss → Rch xss 0 z := by
    intro z g0 g1
    have : z ∈ bfs xss (flg xss) 0 := mem_of_full hm.nd (fun a ha => mem_ints.2 (hm.rng a ha)) (by simp [hlen]) (mem_ints.2 ⟨g0, g1⟩)
    exact hm.rch z this
  intro x z x0 x1 z0 z1
  exact ((hz x x0 x1).symm hs (by omega) (by omega)).trans (hz z z0 z1)
end Go.Proofs.YtcjnhiglfkcmiaaGreatDoor
/- RenP -/
namespace Go.Proofs.YtcjnhiglfkcmiaaGreatDoor
set_option linter.unusedVariables false
set_option maxRecDepth 100000
/-- the move M when the flag i has become the flag p[i] -/
def renL (p M : List Int) : List Int := thenL (thenL (invL p) M) p
theorem renL_length (p M : List Int) : (renL p M).length = p.length := by simp [renL, thenL_length, invL_length]
theorem renL_get {p M : List Int} {z : Nat} (hz : z < p.length) : (renL p M)[z]? = some (at' p (at' M (p.idxOf (z : Int) : Int))) := by
  unfold renL
  rw [thenL_get (thenL_get (invL_get hz))]
  rfl
/-- the first f flags are laid -/
def RenI (p M : List Int) (n f : Nat) (mv : List Int) : Prop := mv.length = n ∧ ∀ z : Nat, z < n → mv[z]? = some (if p.idxOf (z : Int) < f then at' p (at' M (p.idxOf (z : Int) : Int)) else 0)
theorem RenI.zero (p M : List Int) (n : Nat) : RenI p M n 0 (List.replicate n 0) := ⟨by simp, fun z hz => by simp [hz]⟩
theorem RenI.step {p M mv : List Int} {n f g : Nat} (h : RenI p M n f mv) (hnd : p.Nodup) (hmem : ∀ z : Nat, z < n → (z : Int) ∈ p) (hg : p[f]? = some (g : Int)) (hgn : g < n) : RenI p M n (f + 1) (mv.set g (at' p (at' M (f : Int)))) := by
  have hix := idxOf_of_get? hnd hg
  refine ⟨by simp [h.1], fun z hz => ?_⟩
  by_cases e : z = g
  · subst e
    rw [hix, if_pos (by omega)]
    simp [h.1, hz]
  · rw [List.getElem?_set_ne (by omega), h.2 z hz]
    have hne : p.idxOf (z : Int) ≠ f := by
      intro e2
      have h1 := get?_idxOf (hmem z hz)
      rw [e2, hg] at h1
      have := Option.some.inj h1
      omega
    by_cases hlt : p.idxOf (z : Int) < f
    · rw [if_pos hlt, if_pos (by omega)]
    · rw [if_neg hlt, if_neg (by omega)]
theorem RenI.end_ {p M mv : List Int} {n : Nat} (h : RenI p M n n mv) (hl : p.length = n) (hmem : ∀ z : Nat, z < n → (z : Int) ∈ p) : mv = renL p M := by
  refine List.ext_getElem? fun z => ?_
  by_cases hz : z < n
  · rw [h.2 z hz, renL_get (by omega), if_pos]
    have := List.idxOf_lt_length_of_mem (hmem z hz)
    omega
  · rw [List.getElem?_eq_none (by have := h.1; omega), List.getElem?_eq_none (by rw [renL_length]; omega)]
/-- an order of all flags -/
theorem ren_ix {ord M : List Int} {n : Nat} (hp : isPermP ord) (hl : ord.length = n) (hM : M.length = n) (hr : ∀ x ∈ M, 0 ≤ x ∧ x < n) : renL (invL ord) M = ixF ord M := by
  have hip := invL_perm hp
  have hil : (invL ord).length = n := by rw [invL_length]; exact hl
  refine List.ext_getElem? fun z => ?_
  by_cases hz : z < n
  · have hoz := get?_getD (xs := ord) (k := z) 0 (by omega)
    have hor := hp.get (k := z) (by omega)
    generalize ord.getD z 0 = y at *
    obtain ⟨y, rfl⟩ : ∃ q : Nat, y = q := ⟨y.toNat, by omega⟩
    have hinv : (invL ord)[y]? = some (z : Int) := by rw [invL_get (by omega), idxOf_of_get? hp.nd hoz]
    have hix := idxOf_of_get? hip.nd hinv
    rw [renL_get (by omega), hix]
    unfold ixF
    rw [List.getElem?_map, hoz]
    show some _ = some (ord.idxOf (at' M (y : Int)) : Int)
    have hv := hr (at' M (y : Int)) (mem_of_get? (get?_getD 0 (by rw [Int.toNat_natCast]; omega)))
    generalize at' M (y : Int) = v at *
    obtain ⟨v, rfl⟩ : ∃ q : Nat, v = q := ⟨v.toNat, by omega⟩
    unfold at'
    rw [Int.toNat_natCast, getD_some (invL_get (p := ord) (j := v) (by omega))]
  · rw [List.getElem?_eq_none (by rw [renL_length]; omega), List.getElem?_eq_none (by rw [ixF_length]; omega)]
theorem ord_perm {list : List (List Int)} {n : Nat} {x : Int} (hs : SysOf list n) (hc : Conn list n) (hn : n ≤ 400) (h0 : 0 ≤ x) (h1 : x < n) : isPermP (bfs list n x) ∧ (bfs list n x).length = n := by
  have hm := bfs_met hs h0 h1
  have hle := hm.len
  have hge : n ≤ (bfs list n x).length := by
    have := nodup_sub_len ((List.range n).map Int.ofNat) (bfs list n x) (by
      rw [List.nodup_iff_pairwise_ne, List.pairwise_map]
      refine List.pairwise_lt_range.imp ?_
      intro a b h e
      have e : (a : Int) = b := e
      have : a < b := h
      omega) (fun a ha => by obtain ⟨g1, g2⟩ := mem_ints.1 ha; exact (bfs_mem hs h0 h1).2 (hc x a h0 h1 g1 g2))
    simpa using this
  have hl : (bfs list n x).length = n := by omega
  exact ⟨⟨by omega, fun y hy => by rw [hl]; exact hm.rng y hy, hm.nd⟩, hl⟩
theorem perm_nums {p : List Int} {n : Nat} (hp : isPermP p) (hl : p.length = n) : ∀ z : Nat, z < n → (z : Int) ∈ p :=
  fun z hz => perm_mem hl (by have := hp.rng; rwa [hl] at this) hp.nd (by omega) (by omega)
/-- the form is the renumbered maniplex -/
theorem form_ren {xss : List (List Int)} {n : Nat} {x : Int} (hs : SysOf xss n) (hc : Conn xss n) (hn : n ≤ 400) (h0 : 0 ≤ x) (h1 : x < n) : formL xss n x = xss.map (renL (invL (bfs xss n x))) := by
  obtain ⟨h2, h3⟩ := ord_perm hs hc hn h0 h1
  unfold formL
  refine List.map_congr_left fun p hp => ?_
  rw [ren_ix h2 h3 (hs p hp).2.2 (hs p hp).1]
end Go.Proofs.YtcjnhiglfkcmiaaGreatDoor
/- Form -/
namespace Go.Proofs.YtcjnhiglfkcmiaaGreatDoor
open Go.RowKit
set_option linter.unusedVariables false
set_option maxRecDepth 100000
end Go.Proofs.YtcjnhiglfkcmiaaGreatDoor
/- FormS -/
namespace Go.Proofs.YtcjnhiglfkcmiaaGreatDoor
open Go.RowKit
set_option linter.unusedVariables false
set_option maxRecDepth 100000
theorem results_cell_row2 {P : Program} {fn : Func} {p u : Tmp} {ty : TypeId} (h : fn.results = #[.cell p ty, .tmp u]) (tmps : Array Value) (w : World) (g : Nat) (t : TypeId) (cs : Array Value) (fr : Nat × Nat) (d : TypeDesc)
    (hp : tmps.getD p undef = .pointer (some ⟨g, 0, none⟩)) (hg : w.heap[g]? = some (.cells cs t fr))
    (hu : P.underlying ty = some d) (hd : (match d with | .struct _ | .array _ _ => true | _ => false) = true) (hi : (P.info? ty).map (·.size) = some cs.size) (v : Value) (hv : tmps.getD u undef = v) :
    (results fn tmps).run P w = .ok (.tuple #[.agg cs, v]) w := by
  rw [results_cell_tmp h, hp, hv]
  simp [asAddr, run_loadVar_row w g t ty cs fr d hg hu hd hi, Result.andThen]
set_option maxHeartbeats 8000000 in
theorem l02Renumber_any (A : Option Addr) (m c : Nat) (xss : List (List Int)) (A' : Option Addr) (n c' : Nat) (p : List Int) (w : World) {lo hi lo' hi' : Nat} (h : RS w lo hi A m xss) (hhi : hi ≤ w.heap.size) (h' : RI w lo' hi' A' n p) (hhi' : hi' ≤ w.heap.size) (hm5 : m ≤ 20) (hs : SysOf xss n) (hp : isPermP p) :
    Calls Tryz.prog 45 #[.agg #[.slice A m c], .slice A' n c'] w fun e w' => ∃ (A1 : Option Addr) (c1 : Nat), e = .returned (.agg #[.slice A1 m c1]) ∧ OwnS w' w.heap.size w'.heap.size 46 2 A1 m c1 (xss.map (renL p)) ∧ Below w.heap.size w w' := by
  obtain ⟨j0, hj0, hy0, hy1, hy2⟩ := info_parts infoI
  obtain ⟨s0, hs0, hu0, hu1, hu2⟩ := info_parts infoS
  have hl := h.len
  have hpl := h'.len
  have hnums := perm_nums hp hpl
  have hn4 := hp.le
  rw [hpl] at hn4
  replace hnums := Lib.hid hnums
  replace hp := Lib.hid hp
  replace hs := Lib.hid hs
  replace hpl := Lib.hid hpl
  go_enter Tryz.func45, Tryz.ntmps45
  go_wp2_with fail
  go_loopw [6] (fun kv wq => ∃ (k : Nat) (vs : List Value) (A2 : Option Addr) (c2 : Nat), k ≤ m ∧ vs.length = k ∧ kv = .int .i64 k ∧ wq.heap[w.heap.size]? = some (.cells #[.slice A m c] 26 (0, 0)) ∧ wq.heap[w.heap.size + 1]? = some (.cells #[.slice none 0 0] 26 (0, 0)) ∧ wq.heap[w.heap.size + 1 + 1]? = some (.cells #[.slice A2 k c2] 26 (0, 0)) ∧
      Own wq (w.heap.size + 3) wq.heap.size 46 A2 k c2 vs ∧ RowsOwn wq (w.heap.size + 3) wq.heap.size 2 vs ((xss.take k).map (renL p)) ∧ w.heap.size + 3 ≤ wq.heap.size ∧ Below w.heap.size w wq) (fun kv _ => m - (intOf kv).toNat)
  case atStart =>
    refine ⟨0, [], none, 0, by omega, rfl, rfl, ?_, ?_, ?_, Own.nil, by simpa using RowsOwn.nil, by simp, ?_⟩
    · exact ((Below.heap_alloc _ _ _ (by simp; omega)).trans (Below.heap_alloc _ _ _ (by simp))).trans (heap_new _ _ _ rfl)
    · exact (Below.heap_alloc _ _ _ (by simp)).trans (heap_new _ _ _ (by simp))
    · exact heap_new _ _ _ (by simp)
    · exact (((Below.refl _ _).alloc (Nat.le_refl _) _).alloc (by simp) _).alloc (by simp; omega) _
  case round =>
    obtain ⟨k, vs, A2, c2, hk, hvk, rfl, g0, g1, g9, ho9, hrows, hz9, hb9⟩ := hrel
    have C0 : wr.cell? ⟨w.heap.size, 0, none⟩ = some (.slice A m c) := by rw [cell_of_row _ _ _ _ _ _ g0]; rfl
    have C9 : wr.cell? ⟨w.heap.size + 1 + 1, 0, none⟩ = some (.slice A2 k c2) := by rw [cell_of_row _ _ _ _ _ _ g9]; rfl
    have F9 : wr.frozen? ⟨w.heap.size + 1 + 1, 0, none⟩ = false := frozen_of_row _ _ _ _ _ g9
    have hm1 := h.max
    have hn1 := h'.max
    by_cases hkm : k < m
    · obtain ⟨bb, oo, Ak, nk, ck, M, rfl, _, _, hM, hMc, hMr⟩ := (h.below hb9 hhi).at_ hkm
      have hMm := mem_of_get? hM
      obtain ⟨hM0, hMn, hMl⟩ := hs.out M hMm
      have hnk := hMr.len
      have hkk : nk = n := by omega
      subst hkk
      have htk := take_succ_of hM
      replace hM := Lib.hid hM
      replace htk := Lib.hid htk
      replace hM0 := Lib.hid hM0
      replace hMl := Lib.hid hMl
      replace g0 := Lib.hid g0
      replace g1 := Lib.hid g1
      replace g9 := Lib.hid g9
      obtain ⟨wo, rfl⟩ : ∃ wo : World, wo = wr := ⟨_, rfl⟩
      go_wp2_with (at_make; refine wpList_make_full _ rfl _ _ 46 rfl wo.heap.size 2 j0 (.int .i64 0) 1 Tryz.underlying46 hj0 hy0 hy1 _ _ _ _ nk rfl rfl rfl rfl ?c1 ?c2 (Nat.le_refl _) ?_)
      case c1 => rw [hy2]; omega
      case c2 => simp only [maxLen]; omega
      intro w2 hown hg
      have B2 : Below wo.heap.size wo w2 := (Below.refl _ _).grown hg (Nat.le_refl _) (by simp)
      have z2 : wo.heap.size < w2.heap.size := (hown.lt wo.heap.size (by simp [Value.ownBlock])).2
      have o6 : Own w2 wo.heap.size w2.heap.size 2 (some ⟨wo.heap.size, 0, none⟩) nk nk ((List.replicate nk 0).map (Value.int .i64)) := by
        have := Own.of_row hown
        simpa [toList_madeCells_one, Value.cells] using this
      clear hown hg
      go_wp2_with fail
      go_loopw [8] (fun kv wq => ∃ (f : Nat) (mv : List Int), f ≤ nk ∧ kv = .int .i64 f ∧ Hid (RenI p M nk f mv) ∧ Own wq wo.heap.size w2.heap.size 2 (some ⟨wo.heap.size, 0, none⟩) nk nk (mv.map (Value.int .i64)) ∧ w2.heap.size ≤ wq.heap.size ∧ Below wo.heap.size wo wq) (fun kv _ => nk - (intOf kv).toNat)
      case atStart => exact ⟨0, _, by omega, rfl, Lib.hid (RenI.zero p M nk), o6, Nat.le_refl _, B2⟩
      case round =>
        clear o6 B2
        obtain ⟨f, mv, hf, rfl, hmv, ho6, hz6, hb6⟩ := hrel
        have hbw := hb9.trans (hb6.mono (by omega))
        by_cases hlt : f < nk
        · have C0' := (hb6.cell (p := ⟨w.heap.size, 0, none⟩) (by simp; omega)).trans C0
          have hMc' := (hb6.cell (p := ⟨bb, oo + k, none⟩) (by simp; omega)).trans hMc
          obtain ⟨bp, oq, v, rfl, _, _, hv, hvc⟩ := (hMr.below hb6 (by omega)).at_ hlt
          have hva : at' M f = v := by unfold at'; rw [Int.toNat_natCast]; exact getD_some hv
          obtain ⟨hv0, hv1⟩ := hM0.out v (mem_of_get? hv)
          obtain ⟨v, rfl⟩ : ∃ q : Nat, v = q := ⟨v.toNat, by omega⟩
          have hvn : v < nk := by omega
          obtain ⟨b7, o7, g, rfl, _, _, hg, hgc⟩ := (h'.below hbw hhi').at_ hlt
          have hgr := hp.out.rng g (mem_of_get? hg)
          rw [hpl.out] at hgr
          obtain ⟨g, rfl⟩ : ∃ q : Nat, g = q := ⟨g.toNat, by omega⟩
          have hgn : g < nk := by omega
          obtain ⟨b8, o8, u, e8, _, _, hu, huc⟩ := (h'.below hbw hhi').at_ hvn
          injection e8 with e8
          injection e8 with e1 e2 _
          subst e1; subst e2
          have hua : at' p v = u := by unfold at'; rw [Int.toNat_natCast]; exact getD_some hu
          have hst := hmv.out.step hp.out.nd hnums.out hg hgn
          rw [hva, hua] at hst
          have hcm := ho6.cellI (hmv.out.2 g hgn)
          have hfm := ho6.frz g
          replace hst := Lib.hid hst
          replace hg := Lib.hid hg
          replace hv := Lib.hid hv
          replace hu := Lib.hid hu
          replace hva := Lib.hid hva
          replace hua := Lib.hid hua
          generalize (if p.idxOf (g : Int) < f then at' p (at' M (p.idxOf (g : Int) : Int)) else 0) = old at *
          go_wp2_with fail
          go_region
          go_wp2_with fail
          go_roundw
          case measure => simp [intOf]; omega
          case rel => exact ⟨f + 1, mv.set g u, by omega, by go_num, hst, (ho6.setI u).keep (fun _ _ _ => rfl), by simp; omega, below_drew (hb6.setCell (p := ⟨wo.heap.size, g, none⟩) (by simp) _)⟩
        · have hfn : f = nk := by omega
          subst hfn
          have hmf := hmv.out.end_ hpl.out hnums.out
          have g9' := (hb6.block (w.heap.size + 1 + 1) (by omega)).trans g9.out
          have C9' : wr.cell? ⟨w.heap.size + 1 + 1, 0, none⟩ = some (.slice A2 k c2) := by rw [cell_of_row _ _ _ _ _ _ g9']; rfl
          have F9' : wr.frozen? ⟨w.heap.size + 1 + 1, 0, none⟩ = false := frozen_of_row _ _ _ _ _ g9'
          have ho9' := ho9.below hb6 (Nat.le_refl _)
          have hrows' := hrows.keep (Same.of_below hb6 (Nat.le_refl _))
          replace g9' := Lib.hid g9'
          replace hmf := Lib.hid hmf
          go_wp2_with (at_builtin; refine wpList_append1 wr rfl (.tmp 44) (.tmp 46) 24 rfl (w.heap.size + 3) 46 s0 (.slice none 0 0) 24 Tryz.underlying24 hs0 hu0 hu1 hu2 rfl (by omega) A2 k c2 _ (.slice (some ⟨wo.heap.size, 0, none⟩) f f) rfl ho9'.1 _ rfl rfl rfl (by omega) (by omega) ?_)
          intro g4 c4 w5 ho5 hg5 hlo5 hlt5 hor5
          have g5 := (hg5.block (w.heap.size + 1 + 1) (by omega) (fun e => by have := (ho9'.1.lt _ e.symm).1; omega)).trans g9'.out
          have C5 : w5.cell? ⟨w.heap.size + 1 + 1, 0, none⟩ = some (.slice A2 k c2) := by rw [cell_of_row _ _ _ _ _ _ g5]; rfl
          have F5 : w5.frozen? ⟨w.heap.size + 1 + 1, 0, none⟩ = false := frozen_of_row _ _ _ _ _ g5
          have hrw5 := (hrows'.kept_ty ho9'.1 (by decide) hg5).snoc (ho6.kept_ty ho9'.1 (by decide) hg5) (by omega) (by omega)
          have hz5 := hg5.size
          have hb5 : Below w.heap.size w w5 := hbw.grown hg5 (by omega) (fun q hq => by have := (ho9'.1.lt q hq).1; omega)
          have g05 := (hg5.block w.heap.size (by omega) (fun e => by have := (ho9'.1.lt _ e.symm).1; omega)).trans ((hb6.block w.heap.size (by omega)).trans g0.out)
          have g15 := (hg5.block (w.heap.size + 1) (by omega) (fun e => by have := (ho9'.1.lt _ e.symm).1; omega)).trans ((hb6.block (w.heap.size + 1) (by omega)).trans g1.out)
          have ho5' := Own.of_row ho5
          replace g5 := Lib.hid g5
          replace g05 := Lib.hid g05
          replace g15 := Lib.hid g15
          clear C9 F9 C9' F9' ho9 ho9' hrows hrows' hg5 ho5
          go_wp2_with fail
          go_roundw
          case measure => simp [intOf]; omega
          case rel =>
            refine ⟨k + 1, vs ++ [.slice (some ⟨wo.heap.size, 0, none⟩) f f], _, c4, by omega, by simp; omega, by go_num, ?_, ?_, ?_, (ho5'.far (.inl (by simp)) _).more (Nat.le_refl _) (by simp), ?_, by simp; omega, hb5.setCell (by simp; omega) _⟩
            · exact (heap_setCell_other _ _ _ _ (by simp; omega)).trans g05.out
            · exact (heap_setCell_other _ _ _ _ (by simp)).trans g15.out
            · have := heap_setCell_same _ _ 0 _ _ (Value.slice (some ⟨g4, 0, none⟩) (k + 1) c4) g5.out
              simpa using this
            · rw [htk.out, List.map_append, List.map_singleton, ← hmf.out]
              exact (hrw5.keep (same_set _ _ _ _ _ (.inl (by simp)))).more (Nat.le_refl _) (by simp; omega)
    · have hkm' : k = m := by omega
      subst hkm'
      have C1 : wr.cell? ⟨w.heap.size + 1, 0, none⟩ = some (.slice none 0 0) := by rw [cell_of_row _ _ _ _ _ _ g1]; rfl
      have F1 : wr.frozen? ⟨w.heap.size + 1, 0, none⟩ = false := frozen_of_row _ _ _ _ _ g1
      replace g1 := Lib.hid g1
      replace g9 := Lib.hid g9
      replace g0 := Lib.hid g0
      go_wp2_with fail
      have g2 := heap_setCell_same _ _ 0 _ _ (Value.slice A2 k c2) g1.out
      (try simp only [Exit.inBlock, Exit.then])
      refine bodyPost_ret (v := .agg #[.slice A2 k c2]) ?_ rfl ?_
      · exact results_cell_row rfl _ _ (w.heap.size + 1) 26 #[.slice A2 k c2] (0, 0) _ rfl (by simpa using g2) Tryz.underlying26 rfl (by kernel_rfl)
      · have e : xss.take k = xss := List.take_of_length_le (by omega)
        rw [e] at hrows
        refine ⟨A2, c2, rfl, ⟨vs, ?_, ?_⟩, hb9.setCell (by simp) _⟩
        · exact (ho9.keep (same_set _ _ _ _ _ (.inl (by simp)))).more (by omega) (by simp)
        · exact (hrows.keep (same_set _ _ _ _ _ (.inl (by simp)))).more (by omega) (by simp)
end Go.Proofs.YtcjnhiglfkcmiaaGreatDoor
/- Ply -/
namespace Go.Proofs.YtcjnhiglfkcmiaaGreatDoor
open Go.RowKit
set_option linter.unusedVariables false
set_option maxRecDepth 100000
/-- a row that is being filled -/
def fillL (g : Nat → Int) (N k : Nat) : List Int := (List.range N).map fun f => if f < k then g f else 0
theorem fillL_length (g : Nat → Int) (N k : Nat) : (fillL g N k).length = N := by simp [fillL]
theorem fillL_zero (g : Nat → Int) (N : Nat) : fillL g N 0 = List.replicate N 0 := by
  apply List.ext_getElem
  · simp [fillL]
  · intro i h1 h2; simp [fillL]
theorem fillL_get (g : Nat → Int) {N k j : Nat} (h : j < N) : (fillL g N k)[j]? = some (if j < k then g j else 0) := by simp [fillL, h]
theorem fillL_set (g : Nat → Int) {N k : Nat} (h : k < N) : (fillL g N k).set k (g k) = fillL g N (k + 1) := by
  apply List.ext_getElem?
  intro i
  rw [List.getElem?_set]
  by_cases e : k = i
  · subst e
    rw [if_pos rfl, if_pos (by rw [fillL_length]; exact h), fillL_get g h, if_pos (by omega)]
  · rw [if_neg e]
    by_cases hi : i < N
    · rw [fillL_get g hi, fillL_get g hi]
      by_cases hk : i < k
      · rw [if_pos hk, if_pos (by omega)]
      · rw [if_neg hk, if_neg (by omega)]
    · rw [List.getElem?_eq_none (by rw [fillL_length]; omega), List.getElem?_eq_none (by rw [fillL_length]; omega)]
theorem fillL_full (g : Nat → Int) (N : Nat) : fillL g N N = (List.range N).map g := by
  unfold fillL
  apply List.map_congr_left
  intro j hj
  rw [if_pos (List.mem_range.1 hj)]
/-- the two rows of a polygon of N flags -/
def plyA (f : Nat) : Int := if f % 2 = 0 then (f : Int) + 1 else (f : Int) - 1
def plyB (N f : Nat) : Int := if f % 2 = 0 then (((f + N - 1) % N : Nat) : Int) else (((f + 1) % N : Nat) : Int)
theorem fun_perm {N : Nat} {g : Nat → Int} (hr : ∀ f, f < N → 0 ≤ g f ∧ g f < N) (hi : ∀ f h, f < N → h < N → g f = g h → f = h) : (∀ x ∈ (List.range N).map g, 0 ≤ x ∧ x < N) ∧ ((List.range N).map g).Nodup ∧ ((List.range N).map g).length = N := by
  refine ⟨?_, ?_, by simp⟩
  · intro x hx
    obtain ⟨f, hf, rfl⟩ := List.mem_map.1 hx
    exact hr f (List.mem_range.1 hf)
  · rw [List.nodup_iff_pairwise_ne, List.pairwise_map]
    refine List.Pairwise.imp_of_mem ?_ List.pairwise_lt_range
    intro a b ha hb hab e
    have := hi a b (List.mem_range.1 ha) (List.mem_range.1 hb) e
    omega
theorem mod_cases {a N : Nat} (hN : 0 < N) (h : a < 2 * N) : (a < N ∧ a % N = a) ∨ (N ≤ a ∧ a % N = a - N) := by
  rcases Nat.lt_or_ge a N with g | g
  · exact .inl ⟨g, Nat.mod_eq_of_lt g⟩
  · exact .inr ⟨g, by rw [Nat.mod_eq_sub_mod g, Nat.mod_eq_of_lt (by omega)]⟩
theorem ply_sys {k : Nat} (hk : 1 ≤ k) : SysOf [(List.range (2 * k)).map plyA, (List.range (2 * k)).map (plyB (2 * k))] (2 * k) := by
  intro p hp
  simp only [List.mem_cons, List.not_mem_nil, or_false] at hp
  rcases hp with rfl | rfl
  · refine fun_perm (fun f hf => ?_) (fun f h hf hh e => ?_)
    · unfold plyA
      by_cases g : f % 2 = 0
      · rw [if_pos g]; omega
      · rw [if_neg g]; omega
    · unfold plyA at e
      by_cases g : f % 2 = 0
      · rw [if_pos g] at e
        by_cases g2 : h % 2 = 0
        · rw [if_pos g2] at e; omega
        · rw [if_neg g2] at e; omega
      · rw [if_neg g] at e
        by_cases g2 : h % 2 = 0
        · rw [if_pos g2] at e; omega
        · rw [if_neg g2] at e; omega
  · refine fun_perm (fun f hf => ?_) (fun f h hf hh e => ?_)
    · unfold plyB
      have h1 := Nat.mod_lt (f + 2 * k - 1) (show 0 < 2 * k by omega)
      have h2 := Nat.mod_lt (f + 1) (show 0 < 2 * k by omega)
      by_cases g : f % 2 = 0
      · rw [if_pos g]; omega
      · rw [if_neg g]; omega
    · unfold plyB at e
      have a1 := mod_cases (a := f + 2 * k - 1) (N := 2 * k) (by omega) (by omega)
      have a2 := mod_cases (a := h + 2 * k - 1) (N := 2 * k) (by omega) (by omega)
      have a3 := mod_cases (a := f + 1) (N := 2 * k) (by omega) (by omega)
      have a4 := mod_cases (a := h + 1) (N := 2 * k) (by omega) (by omega)
      generalize (f + 2 * k - 1) % (2 * k) = u1 at *
      generalize (h + 2 * k - 1) % (2 * k) = u2 at *
      generalize (f + 1) % (2 * k) = u3 at *
      generalize (h + 1) % (2 * k) = u4 at *
      by_cases g : f % 2 = 0
      · rw [if_pos g] at e
        by_cases g2 : h % 2 = 0
        · rw [if_pos g2] at e; omega
        · rw [if_neg g2] at e; omega
      · rw [if_neg g] at e
        by_cases g2 : h % 2 = 0
        · rw [if_pos g2] at e; omega
        · rw [if_neg g2] at e; omega
theorem a2_0 (W : World) (a b : Obj) (N : Nat) (h : N = W.heap.size) : ((W.alloc a).alloc b).drew.heap[N]? = some a :=
  (Below.heap_alloc (W.alloc a) b N (by simp; omega)).trans (heap_new W a N h)
theorem a2_1 (W : World) (a b : Obj) (N : Nat) (h : N = W.heap.size) : ((W.alloc a).alloc b).drew.heap[N + 1]? = some b :=
  heap_new (W.alloc a) b (N + 1) (by simp; omega)
set_option maxHeartbeats 4000000 in
theorem l02Polygon_any (k : Nat) (hk : 1 ≤ k) (hk4 : 2 * k ≤ 400) (w : World) :
    Calls Tryz.prog 58 #[.int .i64 k] w fun e w' => ∃ (A1 : Option Addr) (c1 : Nat), e = .returned (.agg #[.slice A1 2 c1]) ∧ OwnS w' w.heap.size w'.heap.size 46 2 A1 2 c1 [(List.range (2 * k)).map plyA, (List.range (2 * k)).map (plyB (2 * k))] ∧ Below w.heap.size w w' := by
  obtain ⟨N, hN⟩ : ∃ N, 2 * k = N := ⟨_, rfl⟩
  rw [hN]
  have hk2 : (2 : Int) * (k : Int) = (N : Int) := by omega
  have mk1 := run_make_row' (P := Tryz.prog) 46 2 (.int .i64 0) 8 Tryz.underlying46 infoI rfl .i64 .i64 N (by omega) (by omega)
  go_enter Tryz.func58, Tryz.ntmps58
  go_wp2_with fail
  go_cut [4, 5] from 9 to 12 (fun s4 s5 wx => ∃ gA gB : Nat, s4 = .slice (some ⟨gA, 0, none⟩) N N ∧ s5 = .slice (some ⟨gB, 0, none⟩) N N ∧ gA ≠ gB ∧ w.heap.size + 1 ≤ gA ∧ w.heap.size + 1 ≤ gB ∧ Own wx gA (gA + 1) 2 (some ⟨gA, 0, none⟩) N N ((List.replicate N 0).map (Value.int .i64)) ∧ Own wx gB (gB + 1) 2 (some ⟨gB, 0, none⟩) N N ((List.replicate N 0).map (Value.int .i64)) ∧
    wx.heap[w.heap.size]? = some (.cells #[.slice none 0 0] 26 (0, 0)) ∧ Below w.heap.size w wx ∧ wx.heap.size = w.heap.size + 3)
  case first =>
    obtain ⟨W1, hW⟩ : ∃ W1 : World, w.alloc (.cells #[.slice none 0 0] 26) = W1 := ⟨_, rfl⟩
    have hz1 : W1.heap.size = w.heap.size + 1 := by rw [← hW]; simp
    have hB1 : Below w.heap.size w W1 := by rw [← hW]; exact (Below.refl _ _).alloc (Nat.le_refl _) _
    have p0 : W1.heap[w.heap.size]? = some (.cells #[.slice none 0 0] 26 (0, 0)) := by rw [← hW]; exact heap_new _ _ _ rfl
    rw [hW]
    clear hW
    go_region
    all_goals (go_wp2_with fail; go_meet)
    all_goals
      have hNN : w.heap.size + 1 = W1.heap.size := hz1.symm
      have hbb : ∀ a b : Obj, Below w.heap.size w ((W1.alloc a).alloc b).drew := fun a b => below_drew ((hB1.alloc (by omega) _).alloc (by simp; omega) _)
      have hpp : ∀ a b : Obj, ((W1.alloc a).alloc b).drew.heap[w.heap.size]? = some (.cells #[.slice none 0 0] 26 (0, 0)) := fun a b => ((Below.heap_alloc (W1.alloc a) b _ (by simp; omega)).trans (Below.heap_alloc W1 a _ (by omega))).trans p0
      have hml : N ≤ maxLen := by simp only [maxLen]; omega
      have q0 : ∀ b : Obj, Own ((W1.alloc (.cells (madeCells #[.int .i64 0] N) 2)).alloc b).drew (w.heap.size + 1) (w.heap.size + 1 + 1) 2 (some ⟨w.heap.size + 1, 0, none⟩) N N ((List.replicate N 0).map (Value.int .i64)) := fun b => ⟨by simpa using made_own rfl (a2_0 _ _ _ _ hNN) (Nat.le_refl _) hml, fun ad e => by injection e with e; subst e; simp⟩
      have q1 : ∀ a : Obj, Own ((W1.alloc a).alloc (.cells (madeCells #[.int .i64 0] N) 2)).drew (w.heap.size + 1 + 1) (w.heap.size + 1 + 1 + 1) 2 (some ⟨w.heap.size + 1 + 1, 0, none⟩) N N ((List.replicate N 0).map (Value.int .i64)) := fun b => ⟨by simpa using made_own rfl (a2_1 _ _ _ _ hNN) (Nat.le_refl _) hml, fun ad e => by injection e with e; subst e; simp⟩
      first
        | exact ⟨w.heap.size + 1, w.heap.size + 1 + 1, rfl, rfl, by omega, by omega, by omega, q0 _, q1 _, hpp _ _, hbb _ _, by simp; omega⟩
        | exact ⟨w.heap.size + 1 + 1, w.heap.size + 1, rfl, rfl, by omega, by omega, by omega, q1 _, q0 _, hpp _ _, hbb _ _, by simp; omega⟩
        | trace_state
  case rest =>
    obtain ⟨gA, gB, rfl, rfl, hAB, hA1, hB1, oA, oB, hO, hb, hsz⟩ := hcut
    clear mk1
    replace hO := Lib.hid hO
    go_wp2_with fail
    go_loopw [6] (fun fv wq => ∃ f : Nat, f ≤ N ∧ fv = .int .i64 f ∧ Hid (wq.heap[w.heap.size]? = some (.cells #[.slice none 0 0] 26 (0, 0))) ∧ Own wq gA (gA + 1) 2 (some ⟨gA, 0, none⟩) N N ((fillL plyA N f).map (Value.int .i64)) ∧ Own wq gB (gB + 1) 2 (some ⟨gB, 0, none⟩) N N ((fillL (plyB N) N f).map (Value.int .i64)) ∧ Below w.heap.size w wq ∧ wq.heap.size = w.heap.size + 3) (fun fv _ => N - (intOf fv).toNat)
    case atStart => exact ⟨0, by omega, rfl, hO, by rw [fillL_zero]; exact oA, by rw [fillL_zero]; exact oB, hb, hsz⟩
    case round =>
      clear oA oB hO hb hsz
      obtain ⟨f, hf, rfl, hO, oA, oB, hb, hsz⟩ := hrel
      by_cases hlt : f < N
      · have hcA := oA.cellI (fillL_get plyA hlt)
        have hcB := oB.cellI (fillL_get (plyB N) hlt)
        rw [if_neg (by omega)] at hcA hcB
        have hfA := oA.frz f
        have hfB := oB.frz f
        have hsA := fillL_set plyA hlt
        have hsB := fillL_set (plyB N) hlt
        have hpos : (0 : Int) < (N : Int) := by omega
        have hN0 : ¬ N = 0 := by omega
        have hcB2 : ∀ u, (wr.setCell ⟨gA, f, none⟩ u).cell? ⟨gB, f, none⟩ = some (.int .i64 0) := fun u => (cell_far_set _ _ _ _ (by simp; omega)).trans hcB
        by_cases he : f % 2 = 0
        · have hi0 : ¬ f % 2 = 1 := by omega
          have htm : Int.tmod (f : Int) 2 = ((f % 2 : Nat) : Int) := rfl
          rw [he] at htm
          have hpa : plyA f = (f : Int) + 1 := by unfold plyA; rw [if_pos he]
          obtain ⟨r, hrr, htb⟩ : ∃ r : Nat, plyB N f = (r : Int) ∧ Int.tmod ((f : Int) + (N : Int) - 1) (N : Int) = (r : Int) := ⟨(f + N - 1) % N, by unfold plyB; rw [if_pos he], by rw [show ((f : Int) + (N : Int) - 1 : Int) = (((f + N - 1) : Nat) : Int) by omega]; rfl⟩
          rw [hpa] at hsA
          rw [hrr] at hsB
          replace hsA := Lib.hid hsA
          replace hsB := Lib.hid hsB
          replace hpa := Lib.hid hpa
          replace hrr := Lib.hid hrr
          go_wp2_with fail
          go_roundw
          case measure => simp [intOf]; omega
          case rel =>
            refine ⟨f + 1, by omega, by go_num, Lib.hid ?_, ?_, ?_, (hb.setCell (by simp; omega) _).setCell (by simp; omega) _, by simp; omega⟩
            · exact ((Below.heap_setCell _ _ _ _ (by simp; omega)).trans (Below.heap_setCell _ _ _ _ (by simp; omega))).trans hO.out
            · rw [← hsA.out]
              exact (oA.setI _).far (by simp; omega) _
            · rw [← hsB.out]
              exact (oB.far (by simp; omega) _).setI _
        · have he1 : f % 2 = 1 := by omega
          have htm : Int.tmod (f : Int) 2 = ((f % 2 : Nat) : Int) := rfl
          rw [he1] at htm
          have hpa : plyA f = (f : Int) - 1 := by unfold plyA; rw [if_neg he]
          obtain ⟨r, hrr, htb⟩ : ∃ r : Nat, plyB N f = (r : Int) ∧ Int.tmod ((f : Int) + 1) (N : Int) = (r : Int) := ⟨(f + 1) % N, by unfold plyB; rw [if_neg he], by rw [show ((f : Int) + 1 : Int) = (((f + 1) : Nat) : Int) by omega]; rfl⟩
          rw [hpa] at hsA
          rw [hrr] at hsB
          replace hsA := Lib.hid hsA
          replace hsB := Lib.hid hsB
          replace hpa := Lib.hid hpa
          replace hrr := Lib.hid hrr
          go_wp2_with fail
          go_roundw
          case measure => simp [intOf]; omega
          case rel =>
            refine ⟨f + 1, by omega, by go_num, Lib.hid ?_, ?_, ?_, (hb.setCell (by simp; omega) _).setCell (by simp; omega) _, by simp; omega⟩
            · exact ((Below.heap_setCell _ _ _ _ (by simp; omega)).trans (Below.heap_setCell _ _ _ _ (by simp; omega))).trans hO.out
            · rw [← hsA.out]
              exact (oA.setI _).far (by simp; omega) _
            · rw [← hsB.out]
              exact (oB.far (by simp; omega) _).setI _
      · have hfN : f = N := by omega
        subst hfN
        rw [fillL_full] at oA oB
        have C1 : wr.cell? ⟨w.heap.size, 0, none⟩ = some (.slice none 0 0) := by rw [cell_of_row _ _ _ _ _ _ hO.out]; rfl
        have F1 : wr.frozen? ⟨w.heap.size, 0, none⟩ = false := frozen_of_row _ _ _ _ _ hO.out
        go_wp2_with fail
        have zw : (wr.setCell ⟨w.heap.size, 0, none⟩ (.slice (some ⟨w.heap.size + 3, 0, none⟩) 2 2)).heap.size = w.heap.size + 3 := by simp; omega
        have h0 := World.ownsRow_lit (e := 46) (base := w.heap.size) (size := 1) (wr.setCell ⟨w.heap.size, 0, none⟩ (.slice (some ⟨w.heap.size + 3, 0, none⟩) 2 2)) #[.slice (some ⟨gA, 0, none⟩) f f, .slice (some ⟨gB, 0, none⟩) f f] 2 (by rw [zw]; omega) (by simp only [maxLen]; omega) rfl
        rw [zw] at h0
        have oA2 := (oA.keep (same_set wr ⟨w.heap.size, 0, none⟩ (.slice (some ⟨w.heap.size + 3, 0, none⟩) 2 2) _ _ (.inl (by simp; omega)))).keep (same_alloc _ (.cells #[.slice (some ⟨gA, 0, none⟩) f f, .slice (some ⟨gB, 0, none⟩) f f] 46) _ _ (by rw [zw]; have := oA.1.lt gA (by simp [Value.ownBlock]); omega))
        have oB2 := (oB.keep (same_set wr ⟨w.heap.size, 0, none⟩ (.slice (some ⟨w.heap.size + 3, 0, none⟩) 2 2) _ _ (.inl (by simp; omega)))).keep (same_alloc _ (.cells #[.slice (some ⟨gA, 0, none⟩) f f, .slice (some ⟨gB, 0, none⟩) f f] 46) _ _ (by rw [zw]; have := oB.1.lt gB (by simp [Value.ownBlock]); omega))
        have lA := oA.1.lt gA (by simp [Value.ownBlock])
        have lB := oB.1.lt gB (by simp [Value.ownBlock])
        have g1 := heap_setCell_same _ _ 0 _ _ (Value.slice (some ⟨w.heap.size + 3, 0, none⟩) 2 2) hO.out
        have g2 := (Below.heap_alloc (wr.setCell ⟨w.heap.size, 0, none⟩ (.slice (some ⟨w.heap.size + 3, 0, none⟩) 2 2)) (.cells #[.slice (some ⟨gA, 0, none⟩) f f, .slice (some ⟨gB, 0, none⟩) f f] 46) w.heap.size (by rw [zw]; omega)).trans g1
        (try simp only [Exit.inBlock, Exit.then])
        refine bodyPost_ret (v := .agg #[.slice (some ⟨w.heap.size + 3, 0, none⟩) 2 2]) ?_ rfl ?_
        · exact results_cell_row rfl _ _ w.heap.size 26 #[.slice (some ⟨w.heap.size + 3, 0, none⟩) 2 2] (0, 0) _ rfl (by simpa using g2) Tryz.underlying26 rfl (by kernel_rfl)
        · refine ⟨_, 2, rfl, ⟨[.slice (some ⟨gA, 0, none⟩) f f, .slice (some ⟨gB, 0, none⟩) f f], ⟨h0, fun ad e => by injection e with e; subst e; simp; omega⟩, by simp, ?_, ?_⟩, (hb.setCell (by simp) _).alloc (by rw [zw]; omega) _⟩
          · simp only [List.pairwise_cons, List.mem_singleton, forall_eq, List.not_mem_nil, false_implies, implies_true, List.Pairwise.nil, and_true]
            intro g e1 e2
            simp [Value.ownBlock] at e1 e2
            omega
          · intro j v xs h1 h2
            match j, h1, h2 with
            | 0, h1, h2 =>
              simp at h1 h2
              subst h1; subst h2
              exact ⟨_, _, _, rfl, oA2.more (by omega) (by simp; omega)⟩
            | 1, h1, h2 =>
              simp at h1 h2
              subst h1; subst h2
              exact ⟨_, _, _, rfl, oB2.more (by omega) (by simp; omega)⟩
            | j + 2, h1, h2 => simp at h1
end Go.Proofs.YtcjnhiglfkcmiaaGreatDoor
/- Dic -/
namespace Go.Proofs.YtcjnhiglfkcmiaaGreatDoor
open Go.RowKit
set_option linter.unusedVariables false
set_option maxRecDepth 100000
end Go.Proofs.YtcjnhiglfkcmiaaGreatDoor
/- Prm -/
namespace Go.Proofs.YtcjnhiglfkcmiaaGreatDoor
open Go.RowKit
set_option linter.unusedVariables false
set_option maxRecDepth 100000
theorem below_drw {B : Nat} {a w : World} (h : Below B a w) : Below B a w.drew := ⟨h.os, h.tape, h.output, h.size, h.block⟩
theorem ins_perm {l : List Int} {i k : Nat} (h : l.Perm (idL i)) (hk : k ≤ i) : ((l.take k ++ [(i : Int)]) ++ l.drop k).Perm (idL (i + 1)) := by
  have e : idL (i + 1) = idL i ++ [(i : Int)] := by unfold idL; rw [List.range_succ, List.map_append]; rfl
  rw [e, List.append_assoc]
  have h1 : (l.take k ++ ([(i : Int)] ++ l.drop k)).Perm (l.take k ++ (l.drop k ++ [(i : Int)])) := List.Perm.append_left _ List.perm_append_comm
  refine h1.trans ?_
  rw [← List.append_assoc, List.take_append_drop]
  exact h.append_right _
theorem ri_part {w : World} {lo hi n b : Nat} {xs : List Int} (h : RI w lo hi (some ⟨b, 0, none⟩) n xs) {i j : Nat} (hij : i ≤ j) (hj : j ≤ n) {A' : Option Addr} (hA : i < j → A' = some ⟨b, i, none⟩) : RI w lo hi A' (j - i) ((xs.drop i).take (j - i)) := by
  refine ⟨by have := h.1; simp at this ⊢; omega, by have := h.2.1; omega, fun hn => ?_⟩
  obtain ⟨b', o', e, h1, h2, hc⟩ := h.2.2 (by omega)
  injection e with e
  injection e with e1 e2 _
  subst e1; subst e2
  refine ⟨b, i, hA (by omega), h1, h2, fun k v hv => ?_⟩
  have hk := (List.getElem?_eq_some_iff.1 hv).1
  simp at hk
  rw [List.getElem?_map, List.getElem?_take_of_lt (by omega), List.getElem?_drop] at hv
  have := hc (i + k) v (by rw [List.getElem?_map]; exact hv)
  simpa using this
theorem cell_one_of {w : World} {b : Nat} {u : Value} {T : TypeId} (h : w.heap[b]? = some (.cells #[u] T (0, 0))) : ∀ z v, [u][z]? = some v → w.cell? ((⟨b, 0, none⟩ : Addr).add z) = some v := by
  intro z v hv
  have hz : z = 0 := by have := (List.getElem?_eq_some_iff.1 hv).1; simp at this; omega
  subst hz
  simp at hv
  subst hv
  rw [Addr.add_lit, cell_of_row _ _ _ _ _ _ h]
  rfl
theorem lit_own {w : World} {lo z : Nat} {T : TypeId} (h : w.heap[z]? = some (.cells #[] T (0, 0))) (hz : lo ≤ z) : w.ownsRow lo T 1 (.slice (some ⟨z, 0, none⟩) 0 0) 0 [] := blk_own (vs := []) h rfl hz (by simp)
end Go.Proofs.YtcjnhiglfkcmiaaGreatDoor
/- Mat -/
namespace Go.Proofs.YtcjnhiglfkcmiaaGreatDoor
open Go.RowKit
set_option linter.unusedVariables false
set_option maxRecDepth 100000
def prt (t : Nat) : Nat := if t % 2 = 0 then t + 1 else t - 1
/-- the first 2 * j places of xs are matched in zs -/
def MatI (xs zs : List Int) (N j : Nat) : Prop := zs.length = N ∧ ∀ t, t < 2 * j → ∀ u : Nat, xs[t]? = some (u : Int) → zs[u]? = xs[prt t]?
theorem MatI.step {xs zs : List Int} {N j a b : Nat} (h : MatI xs zs N j) (hn : xs.Nodup) (ha : xs[2 * j]? = some (a : Int)) (hb : xs[2 * j + 1]? = some (b : Int)) (haN : a < N) (hbN : b < N) : MatI xs ((zs.set a (b : Int)).set b (a : Int)) N (j + 1) := by
  obtain ⟨hl, h⟩ := h
  have inj : ∀ (s t u : Nat), xs[s]? = some (u : Int) → xs[t]? = some (u : Int) → s = t := by
    intro s t u h1 h2
    exact (idxOf_of_get? hn h1).symm.trans (idxOf_of_get? hn h2)
  have hab : a ≠ b := fun e => by subst e; have := inj _ _ _ ha hb; omega
  refine ⟨by simp [hl], fun t ht u hu => ?_⟩
  by_cases e0 : t = 2 * j
  · subst e0
    have e1 : a = u := by rw [ha] at hu; have := Option.some.inj hu; omega
    subst e1
    have e2 : prt (2 * j) = 2 * j + 1 := by unfold prt; rw [if_pos (by omega)]
    rw [e2, hb, List.getElem?_set, if_neg (Ne.symm hab), List.getElem?_set, if_pos rfl, if_pos (by omega)]
  · by_cases e1 : t = 2 * j + 1
    · subst e1
      have e3 : b = u := by rw [hb] at hu; have := Option.some.inj hu; omega
      subst e3
      have e2 : prt (2 * j + 1) = 2 * j := by unfold prt; rw [if_neg (by omega)]; omega
      rw [e2, ha, List.getElem?_set, if_pos rfl, if_pos (by rw [List.length_set]; omega)]
    · have n1 : b ≠ u := fun e => by subst e; have := inj _ _ _ hb hu; omega
      have n2 : a ≠ u := fun e => by subst e; have := inj _ _ _ ha hu; omega
      rw [List.getElem?_set, if_neg n1, List.getElem?_set, if_neg n2]
      exact h t (by omega) u hu
theorem perm_id {xs : List Int} {N : Nat} (h : xs.Perm (idL N)) : xs.Nodup ∧ xs.length = N ∧ (∀ x ∈ xs, 0 ≤ x ∧ x < N) ∧ ∀ u : Nat, u < N → (u : Int) ∈ xs := by
  refine ⟨h.nodup_iff.2 ?_, by rw [h.length_eq, idL_length], fun x hx => mem_ints.1 (h.mem_iff.1 hx), fun u hu => h.mem_iff.2 (mem_ints.2 (by omega))⟩
  unfold idL
  rw [List.nodup_iff_pairwise_ne, List.pairwise_map]
  exact (List.nodup_iff_pairwise_ne.1 List.nodup_range).imp (by intro a b h e; exact h (Int.ofNat.inj e))
theorem MatI.end_ {xs zs : List Int} {k : Nat} (h : MatI xs zs (2 * k) k) (hp : xs.Perm (idL (2 * k))) : (∀ x ∈ zs, 0 ≤ x ∧ x < (2 * k : Nat)) ∧ zs.Nodup ∧ zs.length = 2 * k := by
  obtain ⟨hn, hl, hr, hall⟩ := perm_id hp
  obtain ⟨hzl, h⟩ := h
  have key : ∀ u, u < 2 * k → ∃ t, t < 2 * k ∧ xs[t]? = some (u : Int) ∧ zs[u]? = xs[prt t]? ∧ prt t < 2 * k := by
    intro u hu
    obtain ⟨t, ht⟩ := List.mem_iff_getElem?.1 (hall u hu)
    have htl := (List.getElem?_eq_some_iff.1 ht).1
    refine ⟨t, by omega, ht, h t (by omega) u ht, ?_⟩
    unfold prt
    by_cases e : t % 2 = 0
    · rw [if_pos e]; omega
    · rw [if_neg e]; omega
  refine ⟨fun x hx => ?_, ?_, hzl⟩
  · obtain ⟨u, hu⟩ := List.mem_iff_getElem?.1 hx
    obtain ⟨t, _, _, h3, _⟩ := key u (by have := (List.getElem?_eq_some_iff.1 hu).1; omega)
    rw [hu] at h3
    exact hr x (List.mem_of_getElem? h3.symm)
  · rw [List.nodup_iff_pairwise_ne, List.pairwise_iff_getElem]
    intro i j hi hj hij e
    obtain ⟨t, t1, t2, t3, t4⟩ := key i (by omega)
    obtain ⟨s, s1, s2, s3, s4⟩ := key j (by omega)
    rw [List.getElem?_eq_getElem hi] at t3
    rw [List.getElem?_eq_getElem hj, ← e] at s3
    have h3 : prt t = prt s := by
      have q1 := idxOf_of_get? hn t3.symm
      have q2 := idxOf_of_get? hn s3.symm
      exact q1.symm.trans q2
    have h4 : t = s := by
      unfold prt at h3
      by_cases e1 : t % 2 = 0
      · rw [if_pos e1] at h3
        by_cases e2 : s % 2 = 0
        · rw [if_pos e2] at h3; omega
        · rw [if_neg e2] at h3; omega
      · rw [if_neg e1] at h3
        by_cases e2 : s % 2 = 0
        · rw [if_pos e2] at h3; omega
        · rw [if_neg e2] at h3; omega
    subst h4
    rw [t2] at s2
    have := Option.some.inj s2
    omega
/-- a permutation of N points in a row of its own -/
def MatP (w w' : World) (lo g : Nat) (T T1 : TypeId) (A : Option Addr) (n c : Nat) (bs : List Int) (A1 : Option Addr) (N c1 : Nat) : Prop :=
  ∃ (i' h' : Nat) (zs : List Int), Own w' w.heap.size w'.heap.size T1 A1 N c1 (zs.map (Value.int .i64)) ∧ ((∀ x ∈ zs, 0 ≤ x ∧ x < N) ∧ zs.Nodup ∧ zs.length = N) ∧ Src w' lo g T A n c bs i' h' ∧ Chg g (g + 1) w w'
/-- the drawn permutation and the row to be filled -/
def MatC (w wx : World) (lo g : Nat) (T T1 : TypeId) (A : Option Addr) (n c : Nat) (bs : List Int) (A5 : Option Addr) (N c5 g6 : Nat) : Prop :=
  ∃ (lo5 hi5 i' h' : Nat) (xs : List Int), Own wx lo5 hi5 T1 A5 N c5 (xs.map (Value.int .i64)) ∧ (g6 < lo5 ∨ hi5 ≤ g6) ∧ w.heap.size ≤ lo5 ∧ w.heap.size ≤ g6 ∧ hi5 ≤ wx.heap.size ∧ Own wx g6 (g6 + 1) T1 (some ⟨g6, 0, none⟩) N N ((List.replicate N 0).map (Value.int .i64)) ∧ xs.Perm (idL N) ∧ Src wx lo g T A n c bs i' h' ∧ Chg g (g + 1) w wx
theorem matC1 {w v w5 : World} {lo g : Nat} {T T1 : TypeId} {A : Option Addr} {n c : Nat} {bs : List Int} {A5 : Option Addr} {N c5 i' h' : Nat} {xs : List Int} (hB : Below w.heap.size w v) (hz : v.heap.size = w.heap.size) (hg : g < w.heap.size) (hml : N ≤ maxLen)
    (o : Own w5 v.heap.size w5.heap.size T1 A5 N c5 (xs.map (Value.int .i64))) (hp : xs.Perm (idL N)) (s : Src w5 lo g T A n c bs i' h') (C : Chg g (g + 1) v w5) :
    MatC w (w5.alloc (.cells (madeCells #[.int .i64 0] N) T1)) lo g T T1 A n c bs A5 N c5 w5.heap.size := by
  have C1 : Chg g (g + 1) w w5 := (Chg.of_below g (g + 1) hB).trans C ⟨Nat.le_refl _, Nat.le_refl _⟩ ⟨Nat.le_refl _, Nat.le_refl _⟩
  have hs := C1.size
  have Bz : Below w5.heap.size w5 (w5.alloc (.cells (madeCells #[.int .i64 0] N) T1)) := (Below.refl _ _).alloc (Nat.le_refl _) _
  refine ⟨v.heap.size, w5.heap.size, i', h', xs, o.below Bz (Nat.le_refl _), .inr (Nat.le_refl _), by omega, hs, by simp, ⟨?_, fun ad e => by injection e with e; subst e; simp⟩, hp, s.below Bz s.lt, C1.trans_below Bz⟩
  simpa using made_own (z := .int .i64 0) rfl (heap_new w5 _ _ rfl) (Nat.le_refl _) hml
theorem matC2 {w v w5 : World} {lo g : Nat} {T T1 : TypeId} {A : Option Addr} {n c : Nat} {bs : List Int} {A5 : Option Addr} {N c5 i' h' : Nat} {xs : List Int} (hB : Below w.heap.size w v) (hz : v.heap.size = w.heap.size + 1) (hv : v.heap[w.heap.size]? = some (.cells (madeCells #[.int .i64 0] N) T1 (0, 0))) (hg : g < w.heap.size) (hml : N ≤ maxLen)
    (o : Own w5 v.heap.size w5.heap.size T1 A5 N c5 (xs.map (Value.int .i64))) (hp : xs.Perm (idL N)) (s : Src w5 lo g T A n c bs i' h') (C : Chg g (g + 1) v w5) :
    MatC w w5 lo g T T1 A n c bs A5 N c5 w.heap.size := by
  have C1 : Chg g (g + 1) w w5 := (Chg.of_below g (g + 1) hB).trans C ⟨Nat.le_refl _, Nat.le_refl _⟩ ⟨Nat.le_refl _, Nat.le_refl _⟩
  have hs := C.size
  refine ⟨v.heap.size, w5.heap.size, i', h', xs, o, .inl (by omega), by omega, Nat.le_refl _, Nat.le_refl _, ⟨?_, fun ad e => by injection e with e; subst e; simp⟩, hp, s, C1⟩
  simpa using made_own (z := .int .i64 0) rfl ((C.block w.heap.size (by omega) (by omega)).trans hv) (Nat.le_refl _) hml
theorem Src.drew1 {w : World} {lo g : Nat} {T : TypeId} {A : Option Addr} {n c : Nat} {bs : List Int} {i h : Nat} (s : Src w lo g T A n c bs i h) : Src w.drew lo g T A n c bs i h := ⟨s.blk, s.above, s.code, s.byte, s.le, s.st⟩
set_option maxHeartbeats 4000000 in
theorem matching_any (w : World) (lo g : Nat) (A : Option Addr) (n c : Nat) (bs : List Int) (i h : Nat) (s : Src w lo g 53 A n c bs i h) (k : Nat) (hk4 : 2 * k ≤ 400) :
    Calls Tryz.prog 27 #[.pointer (some ⟨g, 0, none⟩), .int .i64 ((2 * k : Nat) : Int)] w fun e w' => ∃ (A1 : Option Addr) (c1 : Nat), e = .returned (.slice A1 (2 * k) c1) ∧ MatP w w' lo g 53 2 A n c bs A1 (2 * k) c1 := by
  obtain ⟨N, hN⟩ : ∃ N, 2 * k = N := ⟨_, rfl⟩
  rw [hN]
  have hgl := s.lt
  have mk1 := run_make_row' (P := Tryz.prog) 46 2 (.int .i64 0) 8 Tryz.underlying46 infoI rfl .i64 .i64 N (by omega) (by omega)
  have hDr : ∀ wq, Below w.heap.size w wq → _ := fun wq hq => draw_any wq lo g A n c bs i h (s.below hq hgl) N (by omega)
  replace hDr := Lib.hid hDr
  go_enter Tryz.func27, Tryz.ntmps27
  go_wp2_with fail
  go_cut [5, 6] from 8 to 12 (fun s5 s6 wx => ∃ (A5 : Option Addr) (c5 g6 : Nat), s5 = .slice A5 N c5 ∧ s6 = .slice (some ⟨g6, 0, none⟩) N N ∧ MatC w wx lo g 53 2 A n c bs A5 N c5 g6)
  case first =>
    have hml : N ≤ maxLen := by simp only [maxLen]; omega
    go_region_law? (first | (refine step_call rfl 46 #[.pointer (some ⟨g, 0, none⟩), .int .i64 (N : Int)] (by go_simp) (hDr.out _ (by first | exact below_drw (Below.refl _ _) | exact below_drw ((Below.refl _ _).alloc (Nat.le_refl _) _) | exact (below_drw (Below.refl _ _)).alloc (Nat.le_refl _) _)) ?_; rintro e w5 ⟨A5, c5, rfl, i5, h5, xs, o5, hp5, s5, C5⟩; refine ⟨_, rfl, ?_⟩))
    all_goals (go_wp2_with fail; go_meet)
    all_goals
      first
        | exact ⟨_, _, _, rfl, rfl, matC1 (below_drw (Below.refl _ _)) (by simp) hgl hml o5 hp5 s5 C5⟩
        | exact ⟨_, _, _, rfl, rfl, matC2 (below_drw ((Below.refl _ _).alloc (Nat.le_refl _) _)) (by simp) (heap_new _ _ _ rfl) hgl hml o5 hp5 s5 C5⟩
        | trace_state
  case rest =>
    obtain ⟨A5, c5, g6, rfl, rfl, lo5, hi5, i', h', xs, o5, hg6, hlo, hlg, hhi, o6, hp, s5, C5⟩ := hcut
    clear mk1 hDr
    obtain ⟨hn5, hl5, hr5, _⟩ := perm_id hp
    replace hn5 := Lib.hid hn5
    replace hr5 := Lib.hid hr5
    replace hp := Lib.hid hp
    replace hl5 := Lib.hid hl5
    replace s5 := Lib.hid s5
    go_wp2_with fail
    go_loopw [7] (fun iv wq => ∃ (t j : Nat) (zs : List Int), t = 2 * j ∧ t ≤ N ∧ iv = .int .i64 t ∧ Hid (MatI xs zs N j) ∧ Own wq lo5 hi5 2 A5 N c5 (xs.map (Value.int .i64)) ∧ Own wq g6 (g6 + 1) 2 (some ⟨g6, 0, none⟩) N N (zs.map (Value.int .i64)) ∧ Hid (Src wq lo g 53 A n c bs i' h') ∧ Chg g (g + 1) w wq ∧ hi5 ≤ wq.heap.size) (fun iv _ => N + 2 - (intOf iv).toNat)
    case atStart => exact ⟨0, 0, List.replicate N 0, by omega, by omega, rfl, Lib.hid ⟨by simp, fun t ht => by omega⟩, o5, o6, s5, C5, hhi⟩
    case round =>
      clear o5 o6 s5 C5 hhi
      obtain ⟨t, j, zs, rfl, htN, rfl, hmt, o5, o6, s5, C5, hhi⟩ := hrel
      have hzl := Lib.hid o6.lenI
      by_cases hlt : 2 * j + 1 < N
      · obtain ⟨bx, av, rfl, hb1, hb2, hb3, hav, hca, _⟩ := o5.atI (show 2 * j < N by omega)
        obtain ⟨bv, hbv⟩ : ∃ v, xs[2 * j + 1]? = some v := ⟨_, List.getElem?_eq_getElem (by have := hl5.out; omega)⟩
        have hcb := o5.cellI hbv
        obtain ⟨ha0, haN⟩ := hr5.out av (List.mem_of_getElem? hav)
        obtain ⟨hb0, hbN⟩ := hr5.out bv (List.mem_of_getElem? hbv)
        obtain ⟨a, rfl⟩ := Int.eq_ofNat_of_zero_le ha0
        obtain ⟨b, rfl⟩ := Int.eq_ofNat_of_zero_le hb0
        have haN' : a < N := by omega
        have hbN' : b < N := by omega
        have hst := hmt.out.step hn5.out hav hbv haN' hbN'
        have hg6l := (o6.1.lt g6 (by simp [Value.ownBlock])).2
        have hne : bx ≠ g6 := by omega
        obtain ⟨za, hza⟩ : ∃ v, zs[a]? = some v := ⟨_, List.getElem?_eq_getElem (by have := hzl.out; omega)⟩
        obtain ⟨zb, hzb⟩ : ∃ v, (zs.set a (b : Int))[b]? = some v := ⟨_, List.getElem?_eq_getElem (by have := hzl.out; simp; omega)⟩
        have hcA := o6.cellI hza
        have hfA := o6.frz a
        have p5 : Own (wr.setCell ⟨g6, a, none⟩ (.int .i64 (b : Int))).drew lo5 hi5 2 (some ⟨bx, 0, none⟩) N c5 (xs.map (Value.int .i64)) := (o5.far (by simp; omega) _).keep (fun _ _ _ => rfl)
        have p6 : Own (wr.setCell ⟨g6, a, none⟩ (.int .i64 (b : Int))).drew g6 (g6 + 1) 2 (some ⟨g6, 0, none⟩) N N ((zs.set a (b : Int)).map (Value.int .i64)) := (o6.setI _).keep (fun _ _ _ => rfl)
        have hca2 := p5.cellI hav
        have hcb2 := p5.cellI hbv
        have hcA2 := p6.cellI hzb
        have hfA2 := p6.frz b
        have q5 : Own ((wr.setCell ⟨g6, a, none⟩ (.int .i64 (b : Int))).drew.setCell ⟨g6, b, none⟩ (.int .i64 (a : Int))).drew lo5 hi5 2 (some ⟨bx, 0, none⟩) N c5 (xs.map (Value.int .i64)) := (p5.far (by simp; omega) _).keep (fun _ _ _ => rfl)
        have q6 : Own ((wr.setCell ⟨g6, a, none⟩ (.int .i64 (b : Int))).drew.setCell ⟨g6, b, none⟩ (.int .i64 (a : Int))).drew g6 (g6 + 1) 2 (some ⟨g6, 0, none⟩) N N (((zs.set a (b : Int)).set b (a : Int)).map (Value.int .i64)) := (p6.setI _).keep (fun _ _ _ => rfl)
        have hgg := s5.out.above
        have q7 : Src ((wr.setCell ⟨g6, a, none⟩ (.int .i64 (b : Int))).drew.setCell ⟨g6, b, none⟩ (.int .i64 (a : Int))).drew lo g 53 A n c bs i' h' := ((s5.out.far (by simp; omega) (by simp; omega) _).drew1.far (by simp; omega) (by simp; omega) _).drew1
        have q8 : Chg g (g + 1) w ((wr.setCell ⟨g6, a, none⟩ (.int .i64 (b : Int))).drew.setCell ⟨g6, b, none⟩ (.int .i64 (a : Int))).drew := ((C5.setNew (by simp; omega) _).drew.setNew (by simp; omega) _).drew
        replace hst := Lib.hid hst
        replace hav := Lib.hid hav
        replace hbv := Lib.hid hbv
        replace hza := Lib.hid hza
        replace hzb := Lib.hid hzb
        replace q7 := Lib.hid q7
        clear p5 p6 o5 o6 hmt s5 C5 ha0 haN hb0 hbN hb1
        go_wp2_with fail
        go_region
        go_wp2_with fail
        go_region
        go_wp2_with fail
        go_roundw
        case rel => exact ⟨2 * j + 2, j + 1, (zs.set a (b : Int)).set b (a : Int), by omega, by omega, by go_num, hst, q5, q6, q7, q8, by simp; omega⟩
        case measure => simp [intOf]; omega
      · have hjk : j = k := by omega
        subst hjk
        subst hN
        have hE := hmt.out.end_ hp.out
        replace hE := Lib.hid hE
        clear hmt hzl
        go_wp2_with fail
        go_ret
        exact ⟨_, _, rfl, i', h', zs, o6.more hlg (by have := (o6.1.lt g6 (by simp [Value.ownBlock])).2; omega), hE.out, s5.out, C5⟩
end Go.Proofs.YtcjnhiglfkcmiaaGreatDoor
/- MapP -/
namespace Go.Proofs.YtcjnhiglfkcmiaaGreatDoor
set_option linter.unusedVariables false
/-- f xor 2 -/
def xor2 (f : Nat) : Int := if f / 2 % 2 = 0 then (f : Int) + 2 else (f : Int) - 2
theorem xor1_perm (n : Nat) : (∀ x ∈ (List.range (4 * n)).map plyA, 0 ≤ x ∧ x < (4 * n : Nat)) ∧ ((List.range (4 * n)).map plyA).Nodup ∧ ((List.range (4 * n)).map plyA).length = 4 * n := by
  refine fun_perm (fun f hf => ?_) (fun f h hf hh e => ?_)
  · unfold plyA
    by_cases g : f % 2 = 0
    · rw [if_pos g]; omega
    · rw [if_neg g]; omega
  · unfold plyA at e
    by_cases g : f % 2 = 0
    · rw [if_pos g] at e
      by_cases g2 : h % 2 = 0
      · rw [if_pos g2] at e; omega
      · rw [if_neg g2] at e; omega
    · rw [if_neg g] at e
      by_cases g2 : h % 2 = 0
      · rw [if_pos g2] at e; omega
      · rw [if_neg g2] at e; omega
theorem xor2_perm (n : Nat) : (∀ x ∈ (List.range (4 * n)).map xor2, 0 ≤ x ∧ x < (4 * n : Nat)) ∧ ((List.range (4 * n)).map xor2).Nodup ∧ ((List.range (4 * n)).map xor2).length = 4 * n := by
  refine fun_perm (fun f hf => ?_) (fun f h hf hh e => ?_)
  · unfold xor2
    by_cases g : f / 2 % 2 = 0
    · rw [if_pos g]; omega
    · rw [if_neg g]; omega
  · unfold xor2 at e
    by_cases g : f / 2 % 2 = 0
    · rw [if_pos g] at e
      by_cases g2 : h / 2 % 2 = 0
      · rw [if_pos g2] at e; omega
      · rw [if_neg g2] at e; omega
    · rw [if_neg g] at e
      by_cases g2 : h / 2 % 2 = 0
      · rw [if_pos g2] at e; omega
      · rw [if_neg g2] at e; omega
theorem xor1_free (N : Nat) (hN : 4 ∣ N) (z : Int) (z0 : 0 ≤ z) (z1 : z < N) : at' ((List.range N).map plyA) z ≠ z ∧ at' ((List.range N).map plyA) (at' ((List.range N).map plyA) z) = z := by
  obtain ⟨f, rfl⟩ := Int.eq_ofNat_of_zero_le z0
  have key : ∀ f : Nat, f < N → at' ((List.range N).map plyA) (f : Int) = plyA f := fun f hf => by
    unfold at'
    rw [Int.toNat_natCast]
    exact getD_some (by simp [hf])
  rw [key f (by omega)]
  obtain ⟨q, hq⟩ := hN
  unfold plyA
  by_cases g : f % 2 = 0
  · rw [if_pos g]
    have := key (f + 1) (by omega)
    rw [Int.natCast_add] at this
    refine ⟨by omega, this.trans ?_⟩
    unfold plyA
    rw [if_neg (by omega)]
    omega
  · rw [if_neg g]
    have := key (f - 1) (by omega)
    rw [Int.natCast_sub (by omega)] at this
    refine ⟨by omega, this.trans ?_⟩
    unfold plyA
    rw [if_pos (by omega)]
    omega
/-- a row cut down to the points of ls, numbered by their places in it -/
def subRow (ls row : List Int) : List Int := (List.range ls.length).map fun i => ((ls.idxOf (at' row (ls.getD i 0)) : Nat) : Int)
theorem sub_sys {xss : List (List Int)} {n : Nat} {ls : List Int} (hs : SysOf xss n) (hn : ls.Nodup) (hr : ∀ x ∈ ls, 0 ≤ x ∧ x < n) (hc : ∀ x ∈ ls, ∀ p ∈ xss, at' p x ∈ ls) : SysOf (xss.map (subRow ls)) ls.length := by
  intro r hrm
  obtain ⟨p, hp, rfl⟩ := List.mem_map.1 hrm
  obtain ⟨p1, p2, p3⟩ := hs p hp
  have key : ∀ i, i < ls.length → ls.getD i 0 ∈ ls := by
    intro i hi
    rw [List.getD_eq_getElem?_getD, List.getElem?_eq_getElem hi]
    exact List.getElem_mem hi
  unfold subRow
  refine fun_perm (fun i hi => ?_) (fun i j hi hj e => ?_)
  · have := List.idxOf_lt_length_iff.2 (hc _ (key i hi) p hp)
    omega
  · have h1 := hc _ (key i hi) p hp
    have h2 := hc _ (key j hj) p hp
    have e1 := Int.ofNat.inj e
    have l1 := List.idxOf_lt_length_iff.2 h1
    have l2 := List.idxOf_lt_length_iff.2 h2
    have g1 := List.getElem_idxOf l1
    have g2 := List.getElem_idxOf l2
    have e2 : at' p (ls.getD i 0) = at' p (ls.getD j 0) := by
      rw [← g1, ← g2]
      simp only [e1]
    have r1 := hr _ (key i hi)
    have r2 := hr _ (key j hj)
    have e3 := at'_inj p2 p3 r1.1 r1.2 r2.1 r2.2 e2
    rw [List.getD_eq_getElem?_getD, List.getD_eq_getElem?_getD, List.getElem?_eq_getElem hi, List.getElem?_eq_getElem hj] at e3
    have q1 := idxOf_of_get? hn (List.getElem?_eq_getElem hi)
    have q2 := idxOf_of_get? hn (List.getElem?_eq_getElem hj)
    have e4 : ls[i] = ls[j] := e3
    rw [e4] at q1
    exact q1.symm.trans q2
/-- the points that 0 leads to -/
theorem orbit_sys {xss : List (List Int)} {n : Nat} (hs : SysOf xss n) (hn : 1 ≤ n) : SysOf (xss.map (subRow (bfs xss n 0))) (bfs xss n 0).length ∧ 1 ≤ (bfs xss n 0).length ∧ (bfs xss n 0).length ≤ n := by
  have hm := bfs_met hs (x := 0) (by omega) (by omega)
  have h0 : (0 : Int) ∈ bfs xss n 0 := (bfs_mem hs (by omega) (by omega)).2 .refl
  refine ⟨sub_sys hs hm.nd (fun x hx => ((bfs_mem hs (by omega) (by omega)).1 hx).rng hs (by omega) (by omega)) (fun x hx p hp => ?_), ?_, hm.len⟩
  · exact (bfs_mem hs (by omega) (by omega)).2 (.step ((bfs_mem hs (by omega) (by omega)).1 hx) hp)
  · exact List.length_pos_of_mem h0
end Go.Proofs.YtcjnhiglfkcmiaaGreatDoor
/- Run -/
namespace Go.Proofs.YtcjnhiglfkcmiaaGreatDoor
open Go.RowKit
set_option linter.unusedVariables false
set_option maxRecDepth 100000
noncomputable def runF (xss : List (List Int)) (x : Int) (word : List Int) : Int × Int :=
  if isManB xss = true then (if (inR 0 ((flg xss : Nat) - 1 : Int) x && (decide (word.length ≤ 64) && allIn 0 ((xss.length : Int) - 1) word)) = true then (runW xss word x, 0) else (0, 2)) else (0, 1)
theorem runW_take {xss : List (List Int)} {word : List Int} {k : Nat} {g x : Int} (h : word[k]? = some g) : runW xss (word.take (k + 1)) x = (xss.getD g.toNat []).getD (runW xss (word.take k) x).toNat 0 := by
  rw [take_succ_of h, runW_snoc]
theorem l02Flags_any (A : Option Addr) (n c : Nat) (xss : List (List Int)) (w : World) {lo hi : Nat} (h : RS w lo hi A n xss) (hhi : hi ≤ w.heap.size) (hn : 0 < n) :
    Calls Tryz.prog 25 #[.agg #[.slice A n c]] w fun e w' => e = .returned (.int .i64 (flg xss : Nat)) ∧ Below w.heap.size w w' := by
  obtain ⟨b0, o0, A0, n0, c0, p0, rfl, _, _, hp0, hc0, hr0⟩ := (rs_alloc h hhi (.cells #[.slice A n c] 26)).at_ (k := 0) hn
  rw [Nat.add_zero] at hc0
  have hm := h.max
  have hm0 := hr0.max
  have hf : flg xss = n0 := by rw [flg_of hp0]; exact hr0.len
  replace hf := Lib.hid hf
  have hpn : ¬ n = 0 := by omega
  clear hp0
  go_enter Tryz.func25, Tryz.ntmps25
  go_wp2_with fail
  go_ret
  exact ⟨ret_int (by rw [hf.out]), (Below.refl _ _).alloc (Nat.le_refl _) _⟩
end Go.Proofs.YtcjnhiglfkcmiaaGreatDoor
/- Two -/
namespace Go.Proofs.YtcjnhiglfkcmiaaGreatDoor
open Go.RowKit
set_option linter.unusedVariables false
/-- two rows of one type that grow in turn: apart from each other and from the blocks of [l, h) -/
structure Two (wq : World) (base l h : Nat) (T : TypeId) (A6 : Option Addr) (n6 c6 : Nat) (us6 : List Value) (A7 : Option Addr) (n7 c7 : Nat) (us7 : List Value) : Prop where
  r6 : wq.ownsRow base T 1 (.slice A6 n6 c6) n6 us6
  r7 : wq.ownsRow base T 1 (.slice A7 n7 c7) n7 us7
  ap : ∀ q, (Value.slice A6 n6 c6).ownBlock = some q → (Value.slice A7 n7 c7).ownBlock ≠ some q
  f6 : ∀ q, (Value.slice A6 n6 c6).ownBlock = some q → q < l ∨ h ≤ q
  f7 : ∀ q, (Value.slice A7 n7 c7).ownBlock = some q → q < l ∨ h ≤ q
  hh : h ≤ wq.heap.size
theorem Two.swap {wq : World} {base l h : Nat} {T : TypeId} {A6 A7 : Option Addr} {n6 c6 n7 c7 : Nat} {us6 us7 : List Value} (t : Two wq base l h T A6 n6 c6 us6 A7 n7 c7 us7) : Two wq base l h T A7 n7 c7 us7 A6 n6 c6 us6 :=
  ⟨t.r7, t.r6, fun q h1 h2 => t.ap q h2 h1, t.f7, t.f6, t.hh⟩
/-- the first row has grown by one -/
theorem Two.grow {wq wz : World} {base l h : Nat} {T : TypeId} {A6 A7 : Option Addr} {n6 c6 n7 c7 g c' : Nat} {us6 us7 us : List Value} (t : Two wq base l h T A6 n6 c6 us6 A7 n7 c7 us7)
    (ho : wz.ownsRow base T 1 (.slice (some ⟨g, 0, none⟩) (n6 + 1) c') (n6 + 1) us) (hg : wq.grownBy wz (Value.slice A6 n6 c6).ownBlock) (hor : A6 = some ⟨g, 0, none⟩ ∨ wq.heap.size ≤ g) :
    Two wz base l h T (some ⟨g, 0, none⟩) (n6 + 1) c' us A7 n7 c7 us7 ∧ Same l h wq wz := by
  have hz := hg.size
  have hh := t.hh
  have e6 : ∀ q, (Value.slice (some ⟨g, 0, none⟩) (n6 + 1) c').ownBlock = some q → q = g := fun q hq => by
    simp [Value.ownBlock] at hq
    exact hq.symm
  have hold : A6 = some ⟨g, 0, none⟩ → (Value.slice A6 n6 c6).ownBlock = some g := fun e => by rw [e]; simp [Value.ownBlock]
  refine ⟨⟨ho, t.r7.kept hg ?_, fun q h1 h2 => ?_, fun q hq => ?_, t.f7, by omega⟩, same_grown hg hh t.f6⟩
  · cases hb : (Value.slice A7 n7 c7).ownBlock with
    | none => exact .inl rfl
    | some z => exact .inr (fun e => t.ap z e.symm hb)
  · have hq := e6 q h1
    subst hq
    rcases hor with e | e
    · exact t.ap q (hold e) h2
    · have := (t.r7.lt q h2).2; omega
  · have hq := e6 q hq
    subst hq
    rcases hor with e | e
    · exact t.f6 q (hold e)
    · omega
end Go.Proofs.YtcjnhiglfkcmiaaGreatDoor
/- BesP -/
namespace Go.Proofs.YtcjnhiglfkcmiaaGreatDoor
set_option linter.unusedVariables false
/-- a row of the first system, at pairs; f = x * b + y -/
def besA (p : List Int) (b f : Nat) : Int := p.getD (f / b) 0 * (b : Int) + ((f % b : Nat) : Int)
def besB (q : List Int) (b f : Nat) : Int := ((f / b * b : Nat) : Int) + q.getD (f % b) 0
/-- the rows of both -/
def besL (xss yss : List (List Int)) (a b : Nat) : List (List Int) := xss.map (fun p => (List.range (a * b)).map (besA p b)) ++ yss.map (fun q => (List.range (a * b)).map (besB q b))
theorem besL_length (xss yss : List (List Int)) (a b : Nat) : (besL xss yss a b).length = xss.length + yss.length := by simp [besL]
theorem pair_lt {a b x y : Nat} (hx : x < a) (hy : y < b) : x * b + y < a * b := by
  have h1 : (x + 1) * b ≤ a * b := Nat.mul_le_mul_right b (by omega)
  rw [Nat.succ_mul] at h1
  omega
theorem pair_inj {b x y x' y' : Nat} (hy : y < b) (hy' : y' < b) (h : x * b + y = x' * b + y') : x = x' ∧ y = y' := by
  have hb : 0 < b := by omega
  have e1 : (x * b + y) / b = x := by rw [Nat.mul_comm, Nat.mul_add_div hb, Nat.div_eq_of_lt hy]; rfl
  have e2 : (x' * b + y') / b = x' := by rw [Nat.mul_comm, Nat.mul_add_div hb, Nat.div_eq_of_lt hy']; rfl
  have : x = x' := by rw [← e1, h, e2]
  subst this
  exact ⟨rfl, by omega⟩
theorem row_at {p : List Int} {n : Nat} (hr : ∀ x ∈ p, 0 ≤ x ∧ x < n) (hl : p.length = n) {i : Nat} (hi : i < n) : ∃ u : Nat, p[i]? = some (u : Int) ∧ p.getD i 0 = (u : Int) ∧ u < n := by
  have h1 : i < p.length := by omega
  obtain ⟨h2, h3⟩ := hr p[i] (List.getElem_mem h1)
  obtain ⟨u, hu⟩ := Int.eq_ofNat_of_zero_le h2
  refine ⟨u, by rw [List.getElem?_eq_getElem h1, hu], by rw [List.getD_eq_getElem?_getD, List.getElem?_eq_getElem h1, hu]; rfl, by omega⟩
theorem row_inj {p : List Int} (hn : p.Nodup) {i j : Nat} {x : Int} (h1 : p[i]? = some x) (h2 : p[j]? = some x) : i = j := (idxOf_of_get? hn h1).symm.trans (idxOf_of_get? hn h2)
theorem bes_sys {xss yss : List (List Int)} {a b : Nat} (hx : SysOf xss a) (hy : SysOf yss b) : SysOf (besL xss yss a b) (a * b) := by
  intro r hr
  unfold besL at hr
  have hbp : ∀ f, f < a * b → 0 < b ∧ f / b < a ∧ f % b < b ∧ f / b * b + f % b = f := by
    intro f hf
    have hb : 0 < b := by rcases Nat.eq_zero_or_pos b with e | e; subst e; simp at hf; exact e
    exact ⟨hb, by rw [Nat.div_lt_iff_lt_mul hb]; exact hf, Nat.mod_lt _ hb, by rw [Nat.mul_comm]; exact Nat.div_add_mod f b⟩
  rcases List.mem_append.1 hr with h | h
  · obtain ⟨p, hp, rfl⟩ := List.mem_map.1 h
    obtain ⟨p1, p2, p3⟩ := hx p hp
    have key : ∀ f, f < a * b → ∃ u : Nat, p[f / b]? = some (u : Int) ∧ besA p b f = ((u * b + f % b : Nat) : Int) ∧ u < a := by
      intro f hf
      obtain ⟨hb, h1, h2, h3⟩ := hbp f hf
      obtain ⟨u, u1, u2, u3⟩ := row_at p1 p3 h1
      exact ⟨u, u1, by unfold besA; rw [u2, Int.natCast_add, Int.natCast_mul], u3⟩
    refine fun_perm (fun f hf => ?_) (fun f g hf hg e => ?_)
    · obtain ⟨u, _, u2, u3⟩ := key f hf
      obtain ⟨hb, h1, h2, h3⟩ := hbp f hf
      have := pair_lt u3 h2
      rw [u2]; omega
    · obtain ⟨u, u1, u2, u3⟩ := key f hf
      obtain ⟨v, v1, v2, v3⟩ := key g hg
      obtain ⟨hb, h1, h2, h3⟩ := hbp f hf
      obtain ⟨_, k1, k2, k3⟩ := hbp g hg
      rw [u2, v2] at e
      obtain ⟨e1, e2⟩ := pair_inj h2 k2 (Int.ofNat.inj e)
      subst e1
      have e3 := row_inj p2 u1 v1
      rw [← h3, ← k3, e3, e2]
  · obtain ⟨p, hp, rfl⟩ := List.mem_map.1 h
    obtain ⟨p1, p2, p3⟩ := hy p hp
    have key : ∀ f, f < a * b → ∃ u : Nat, p[f % b]? = some (u : Int) ∧ besB p b f = ((f / b * b + u : Nat) : Int) ∧ u < b := by
      intro f hf
      obtain ⟨hb, h1, h2, h3⟩ := hbp f hf
      obtain ⟨u, u1, u2, u3⟩ := row_at p1 p3 h2
      exact ⟨u, u1, by unfold besB; rw [u2, Int.natCast_add], u3⟩
    refine fun_perm (fun f hf => ?_) (fun f g hf hg e => ?_)
    · obtain ⟨u, _, u2, u3⟩ := key f hf
      obtain ⟨hb, h1, h2, h3⟩ := hbp f hf
      have := pair_lt h1 u3
      rw [u2]; omega
    · obtain ⟨u, u1, u2, u3⟩ := key f hf
      obtain ⟨v, v1, v2, v3⟩ := key g hg
      obtain ⟨hb, h1, h2, h3⟩ := hbp f hf
      obtain ⟨_, k1, k2, k3⟩ := hbp g hg
      rw [u2, v2] at e
      obtain ⟨e1, e2⟩ := pair_inj u3 v3 (Int.ofNat.inj e)
      subst e2
      have e3 := row_inj p2 u1 v1
      rw [← h3, ← k3, e1, e3]
end Go.Proofs.YtcjnhiglfkcmiaaGreatDoor
/- Sub -/
namespace Go.Proofs.YtcjnhiglfkcmiaaGreatDoor
open Go.RowKit
set_option linter.unusedVariables false
set_option maxRecDepth 100000
theorem rd_sub {w : World} {lo hi n b o : Nat} {vs : List Value} (h : Rd w lo hi (some ⟨b, o, none⟩) n vs) {i j : Nat} (hij : i ≤ j) (hj : j ≤ n) {A' : Option Addr} (hA : i < j → A' = some ⟨b, o + i, none⟩) : Rd w lo hi A' (j - i) ((vs.drop i).take (j - i)) := by
  refine ⟨by have := h.1; simp; omega, by have := h.2.1; omega, fun hn => ?_⟩
  obtain ⟨b', o', e, h1, h2, hc⟩ := h.2.2 (by omega)
  injection e with e
  injection e with e1 e2 _
  subst e1; subst e2
  refine ⟨b, o + i, hA (by omega), h1, h2, fun k v hv => ?_⟩
  have hk := (List.getElem?_eq_some_iff.1 hv).1
  simp at hk
  rw [List.getElem?_take_of_lt (by omega), List.getElem?_drop] at hv
  rw [Nat.add_assoc]
  exact hc (i + k) v hv
theorem rowsAt_sub {w : World} {lo hi : Nat} {vs : List Value} {xss : List (List Int)} (h : RowsAt w lo hi vs xss) (i m : Nat) : RowsAt w lo hi ((vs.drop i).take m) ((xss.drop i).take m) := by
  refine ⟨by simp [h.1], fun k v xs h1 h2 => ?_⟩
  have hk := (List.getElem?_eq_some_iff.1 h1).1
  simp at hk
  rw [List.getElem?_take_of_lt (by omega), List.getElem?_drop] at h1 h2
  exact h.2 (i + k) v xs h1 h2
theorem rs_sub {w : World} {lo hi n b o : Nat} {xss : List (List Int)} (h : RS w lo hi (some ⟨b, o, none⟩) n xss) {i j : Nat} (hij : i ≤ j) (hj : j ≤ n) {A' : Option Addr} (hA : i < j → A' = some ⟨b, o + i, none⟩) : RS w lo hi A' (j - i) ((xss.drop i).take (j - i)) := by
  obtain ⟨vs, h1, h2⟩ := h
  exact ⟨_, rd_sub h1 hij hj hA, rowsAt_sub h2 i _⟩
/-- some of the moves, from the i-th to the one ahead of the j-th -/
def subL (xss : List (List Int)) (i j : Nat) : List (List Int) := (xss.drop i).take (j - i)
theorem subL_length {xss : List (List Int)} {i j : Nat} (h : j ≤ xss.length) (hij : i ≤ j) : (subL xss i j).length = j - i := by simp [subL]; omega
theorem sysOf_sub {xss : List (List Int)} {n : Nat} (h : SysOf xss n) (i j : Nat) : SysOf (subL xss i j) n := fun p hp => h p (List.mem_of_mem_drop (List.mem_of_mem_take hp))
end Go.Proofs.YtcjnhiglfkcmiaaGreatDoor
/- IsoP -/
namespace Go.Proofs.YtcjnhiglfkcmiaaGreatDoor
set_option linter.unusedVariables false
set_option maxRecDepth 100000
/-- the points of ys (m of them) are carried to points of zs (n of them), row by row -/
structure Iso (ys zs : List (List Int)) (m n : Nat) (φ : Int → Int) : Prop where
  len : ys.length = zs.length
  le : m ≤ n
  rng : ∀ z : Int, 0 ≤ z → z < m → 0 ≤ φ z ∧ φ z < n
  inj : ∀ z u : Int, 0 ≤ z → z < m → 0 ≤ u → u < m → φ z = φ u → z = u
  com : ∀ (j : Nat) (q p : List Int), ys[j]? = some q → zs[j]? = some p → ∀ z : Int, 0 ≤ z → z < m → φ (at' q z) = at' p (φ z)
theorem Iso.sub {ys zs : List (List Int)} {m n : Nat} {φ : Int → Int} (h : Iso ys zs m n φ) (i j : Nat) : Iso (subL ys i j) (subL zs i j) m n φ := by
  refine ⟨by simp [subL, h.len], h.le, h.rng, h.inj, fun k q p hq hp => ?_⟩
  unfold subL at hq hp
  rw [List.getElem?_take] at hq hp
  by_cases e : k < j - i
  · rw [if_pos e, List.getElem?_drop] at hq hp
    exact h.com _ q p hq hp
  · rw [if_neg e] at hq
    exact absurd hq (by simp)
theorem map_mem_iff {φ : Int → Int} {m : Nat} (hi : ∀ z u : Int, 0 ≤ z → z < m → 0 ≤ u → u < m → φ z = φ u → z = u) {out : List Int} (hr : ∀ y ∈ out, 0 ≤ y ∧ y < m) {x : Int} (h0 : 0 ≤ x) (h1 : x < m) : φ x ∈ out.map φ ↔ x ∈ out := by
  refine ⟨fun h => ?_, fun h => List.mem_map_of_mem h⟩
  obtain ⟨y, hy, e⟩ := List.mem_map.1 h
  have := hi y x (hr y hy).1 (hr y hy).2 h0 h1 e
  rwa [← this]
theorem iso_step {m n : Nat} {φ : Int → Int} {y : Int} (h0 : 0 ≤ y) (h1 : y < m) : ∀ (ys zs : List (List Int)) (out : List Int), SysOf ys m → Iso ys zs m n φ → (∀ x ∈ out, 0 ≤ x ∧ x < m) →
    bfsStep zs (φ y) (out.map φ) = (bfsStep ys y out).map φ ∧ ∀ x ∈ bfsStep ys y out, 0 ≤ x ∧ x < m := by
  intro ys
  induction ys with
  | nil =>
    intro zs out _ hI hr
    obtain rfl : zs = [] := by have := hI.len; cases zs with | nil => rfl | cons _ _ => simp at this
    exact ⟨rfl, hr⟩
  | cons q t ih =>
    intro zs out hs hI hr
    cases zs with
    | nil => have := hI.len; simp at this
    | cons p s =>
      have hc := hI.com 0 q p rfl rfl y h0 h1
      have hq := at'_rng (hs q (by simp)).1 (hs q (by simp)).2.2 h0 h1
      have hI' : Iso t s m n φ := ⟨by have := hI.len; simpa using this, hI.le, hI.rng, hI.inj, fun j a b ha hb => hI.com (j + 1) a b (by simpa using ha) (by simpa using hb)⟩
      have hs' : SysOf t m := fun a ha => hs a (by simp [ha])
      have hmem := map_mem_iff hI.inj hr hq.1 hq.2
      have e : bfsStep (p :: s) (φ y) (out.map φ) = bfsStep s (φ y) (if at' p (φ y) ∈ out.map φ then out.map φ else out.map φ ++ [at' p (φ y)]) := rfl
      have e2 : bfsStep (q :: t) y out = bfsStep t y (if at' q y ∈ out then out else out ++ [at' q y]) := rfl
      rw [e, e2, ← hc]
      by_cases hm : at' q y ∈ out
      · rw [if_pos hm, if_pos (hmem.2 hm)]
        exact ih s out hs' hI' hr
      · rw [if_neg hm, if_neg (fun g => hm (hmem.1 g)), show out.map φ ++ [φ (at' q y)] = (out ++ [at' q y]).map φ by simp]
        refine ih s _ hs' hI' ?_
        intro x hx
        rcases List.mem_append.1 hx with g | g
        · exact hr x g
        · rw [List.mem_singleton.1 g]; exact hq
theorem iso_go {m n : Nat} {φ : Int → Int} {ys zs : List (List Int)} (hs : SysOf ys m) (hI : Iso ys zs m n φ) : ∀ (f : Nat) (out : List Int) (i : Nat), (∀ x ∈ out, 0 ≤ x ∧ x < m) → bfsGo zs f (out.map φ) i = (bfsGo ys f out i).map φ := by
  intro f
  induction f with
  | zero => intro out i _; rfl
  | succ f ih =>
    intro out i hr
    cases hx : out[i]? with
    | none =>
      have := List.getElem?_eq_none_iff.1 hx
      rw [bfsGo_stop this, bfsGo_stop (by simpa using this)]
    | some y =>
      have hy := hr y (mem_of_get? hx)
      obtain ⟨e1, e2⟩ := iso_step hy.1 hy.2 ys zs out hs hI hr
      rw [bfsGo_step hx, bfsGo_step (show (out.map φ)[i]? = some (φ y) by simp [hx]), e1]
      exact ih _ _ e2
theorem bfsGo_more {list : List (List Int)} {m : Nat} {x : Int} (hs : SysOf list m) (k : Nat) : ∀ (f : Nat) (out : List Int) (i : Nat), Met list m x out → m < f + i → bfsGo list (f + k) out i = bfsGo list f out i := by
  intro f
  induction f with
  | zero =>
    intro out i h hf
    have := h.len
    rw [bfsGo_stop (by omega), bfsGo_stop (by omega)]
  | succ f ih =>
    intro out i h hf
    cases hx : out[i]? with
    | none =>
      have := List.getElem?_eq_none_iff.1 hx
      rw [bfsGo_stop this, bfsGo_stop this]
    | some y =>
      rw [show f + 1 + k = (f + k) + 1 by omega, bfsGo_step hx, bfsGo_step hx]
      exact ih _ _ (bfsStep_spec hs list out (fun _ g => g) h (mem_of_get? hx)).1 (by omega)
theorem iso_bfs {m n : Nat} {φ : Int → Int} {ys zs : List (List Int)} {x : Int} (hs : SysOf ys m) (hI : Iso ys zs m n φ) (h0 : 0 ≤ x) (h1 : x < m) : bfs zs n (φ x) = (bfs ys m x).map φ := by
  have e := iso_go hs hI (n + 1) [x] 0 (by simpa using ⟨h0, h1⟩)
  unfold bfs
  rw [show ([φ x] : List Int) = [x].map φ from rfl, e]
  have hle := hI.le
  have := bfsGo_more hs (n - m) (m + 1) [x] 0 (Met.one h0 h1) (by omega)
  rw [show m + 1 + (n - m) = n + 1 by omega] at this
  rw [this]
theorem iso_len {m n : Nat} {φ : Int → Int} {ys zs : List (List Int)} {x : Int} (hs : SysOf ys m) (hI : Iso ys zs m n φ) (h0 : 0 ≤ x) (h1 : x < m) : (bfs zs n (φ x)).length = (bfs ys m x).length := by
  rw [iso_bfs hs hI h0 h1, List.length_map]
theorem idxOf_map {φ : Int → Int} {m : Nat} (hi : ∀ z u : Int, 0 ≤ z → z < m → 0 ≤ u → u < m → φ z = φ u → z = u) {x : Int} (h0 : 0 ≤ x) (h1 : x < m) : ∀ out : List Int, (∀ y ∈ out, 0 ≤ y ∧ y < m) → (out.map φ).idxOf (φ x) = out.idxOf x := by
  intro out
  induction out with
  | nil => intro _; rfl
  | cons a t ih =>
    intro hr
    rw [List.map_cons, List.idxOf_cons, List.idxOf_cons, ih (fun y hy => hr y (by simp [hy]))]
    by_cases e : a = x
    · subst e; simp
    · have : φ a ≠ φ x := fun g => e (hi a x (hr a (by simp)).1 (hr a (by simp)).2 h0 h1 g)
      rw [show (φ a == φ x) = false from beq_false_of_ne this, show (a == x) = false from beq_false_of_ne e]
/-- the form from a flag is that from the flag to which it is carried -/
theorem iso_form {m n : Nat} {φ : Int → Int} {ys zs : List (List Int)} {x : Int} (hs : SysOf ys m) (hI : Iso ys zs m n φ) (h0 : 0 ≤ x) (h1 : x < m) : formL zs n (φ x) = formL ys m x := by
  have hm := bfs_met hs h0 h1
  unfold formL
  rw [iso_bfs hs hI h0 h1]
  refine List.ext_getElem? fun j => ?_
  rw [List.getElem?_map, List.getElem?_map]
  by_cases hj : j < ys.length
  · have hj2 : j < zs.length := by have := hI.len; omega
    have e1 := List.getElem?_eq_getElem hj
    have e2 := List.getElem?_eq_getElem hj2
    rw [e1, e2]
    simp only [Option.map_some, Option.some.injEq]
    unfold ixF
    rw [List.map_map]
    refine List.map_congr_left fun f hf => ?_
    have hr := hm.rng f hf
    have hq := hs _ (mem_of_get? e1)
    have hb := at'_rng hq.1 hq.2.2 hr.1 hr.2
    have hc := hI.com j _ _ e1 e2 f hr.1 hr.2
    show ((List.map φ (bfs ys m x)).idxOf (at' zs[j] (φ f)) : Int) = _
    rw [← hc, idxOf_map hI.inj hb.1 hb.2 _ hm.rng]
  · have hj2 : ¬ j < zs.length := by have := hI.len; omega
    rw [List.getElem?_eq_none (by omega), List.getElem?_eq_none (by omega)]
    rfl
theorem iso_rch {m n : Nat} {φ : Int → Int} {ys zs : List (List Int)} (hs : SysOf ys m) (hI : Iso ys zs m n φ) {x y : Int} (h0 : 0 ≤ x) (h1 : x < m) (h : Rch ys x y) : Rch zs (φ x) (φ y) := by
  induction h with
  | refl => exact .refl
  | step hxy hp ih =>
    rename_i y p
    obtain ⟨j, hj⟩ := List.mem_iff_getElem?.1 hp
    have hj2 : j < zs.length := by have := (List.getElem?_eq_some_iff.1 hj).1; have := hI.len; omega
    have hr := hxy.rng hs h0 h1
    rw [hI.com j p _ hj (List.getElem?_eq_getElem hj2) y hr.1 hr.2]
    exact ih.step (List.getElem_mem hj2)
/-- what is reached from a point carried over is carried over -/
theorem iso_rch_back {m n : Nat} {φ : Int → Int} {ys zs : List (List Int)} (hs : SysOf ys m) (hI : Iso ys zs m n φ) {x u : Int} (h0 : 0 ≤ x) (h1 : x < m) (h : Rch zs (φ x) u) : ∃ y, u = φ y ∧ 0 ≤ y ∧ y < m ∧ Rch ys x y := by
  induction h with
  | refl => exact ⟨x, rfl, h0, h1, .refl⟩
  | step hxy hp ih =>
    rename_i u p
    obtain ⟨y, rfl, y0, y1, hy⟩ := ih
    obtain ⟨j, hj⟩ := List.mem_iff_getElem?.1 hp
    have hj2 : j < ys.length := by have := (List.getElem?_eq_some_iff.1 hj).1; have := hI.len; omega
    have e := List.getElem?_eq_getElem hj2
    have hq := hs _ (List.getElem_mem hj2)
    have hb := at'_rng hq.1 hq.2.2 y0 y1
    exact ⟨at' ys[j] y, (hI.com j _ p e hj y y0 y1).symm, hb.1, hb.2, hy.step (List.getElem_mem hj2)⟩
/-- the form from a flag is like what the flag leads to -/
theorem form_iso {xss : List (List Int)} {n : Nat} {x : Int} (hs : SysOf xss n) (h0 : 0 ≤ x) (h1 : x < n) : Iso (formL xss n x) xss (bfs xss n x).length n (fun j => (bfs xss n x).getD j.toNat 0) := by
  have hm := bfs_met hs h0 h1
  have key : ∀ j : Int, 0 ≤ j → j < (bfs xss n x).length → (bfs xss n x)[j.toNat]? = some ((bfs xss n x).getD j.toNat 0) := fun j j0 j1 => get?_getD 0 (by omega)
  refine ⟨formL_length _ _ _, hm.len, fun z z0 z1 => hm.rng _ (mem_of_get? (key z z0 z1)), fun z u z0 z1 u0 u1 e => ?_, fun j q p hq hp z z0 z1 => ?_⟩
  · have a := idxOf_of_get? hm.nd (key z z0 z1)
    have b := idxOf_of_get? hm.nd (key u u0 u1)
    have e : (bfs xss n x).getD z.toNat 0 = (bfs xss n x).getD u.toNat 0 := e
    rw [e, b] at a
    omega
  · unfold formL at hq
    rw [List.getElem?_map, hp] at hq
    simp only [Option.map_some, Option.some.injEq] at hq
    subst hq
    have hk := key z z0 z1
    have hmem := bfs_closed hs h0 h1 (mem_of_get? hk) (mem_of_get? hp)
    have e : at' (ixF (bfs xss n x) p) z = ((bfs xss n x).idxOf (at' p ((bfs xss n x).getD z.toNat 0)) : Int) := by
      unfold at' ixF
      rw [List.getD_eq_getElem?_getD, List.getElem?_map, hk]
      rfl
    show (bfs xss n x).getD (at' (ixF (bfs xss n x) p) z).toNat 0 = _
    rw [e, Int.toNat_natCast]
    exact getD_some (get?_idxOf hmem)
theorem form_sys {xss : List (List Int)} {n : Nat} {x : Int} (hs : SysOf xss n) (h0 : 0 ≤ x) (h1 : x < n) : SysOf (formL xss n x) (bfs xss n x).length := by
  have hm := bfs_met hs h0 h1
  intro q hq
  obtain ⟨p, hp, rfl⟩ := List.mem_map.1 hq
  obtain ⟨p1, p2, p3⟩ := hs p hp
  refine ⟨fun y hy => ?_, ?_, ixF_length _ _⟩
  · obtain ⟨f, hf, rfl⟩ := List.mem_map.1 hy
    have := List.idxOf_lt_length_iff.2 (bfs_closed hs h0 h1 hf hp)
    omega
  · unfold ixF
    rw [List.nodup_iff_pairwise_ne, List.pairwise_map]
    refine List.Pairwise.imp_of_mem ?_ (List.nodup_iff_pairwise_ne.1 hm.nd)
    intro a b ha hb hab e
    have ea := get?_idxOf (bfs_closed hs h0 h1 ha hp)
    have eb := get?_idxOf (bfs_closed hs h0 h1 hb hp)
    have e' : (bfs xss n x).idxOf (at' p a) = (bfs xss n x).idxOf (at' p b) := by omega
    rw [e', eb] at ea
    have := Option.some.inj ea
    exact hab (at'_inj p2 p3 (hm.rng a ha).1 (hm.rng a ha).2 (hm.rng b hb).1 (hm.rng b hb).2 this.symm)
end Go.Proofs.YtcjnhiglfkcmiaaGreatDoor
/- FsP -/
namespace Go.Proofs.YtcjnhiglfkcmiaaGreatDoor
set_option linter.unusedVariables false
set_option maxRecDepth 100000
open Classical
/-- each of hs commutes with each of ks -/
def CommL (hs ks : List (List Int)) (n : Nat) : Prop := ∀ p ∈ hs, ∀ q ∈ ks, ∀ z : Int, 0 ≤ z → z < n → at' q (at' p z) = at' p (at' q z)
theorem CommL.symm {hs ks : List (List Int)} {n : Nat} (h : CommL hs ks n) : CommL ks hs n := fun p hp q hq z z0 z1 => (h q hq p hp z z0 z1).symm
/-- a permutation that commutes with all of hs -/
theorem comm_iso {hs : List (List Int)} {q : List Int} {n : Nat} (hq : (∀ x ∈ q, 0 ≤ x ∧ x < n) ∧ q.Nodup ∧ q.length = n) (hc : ∀ p ∈ hs, ∀ z : Int, 0 ≤ z → z < n → at' q (at' p z) = at' p (at' q z)) : Iso hs hs n n (at' q) := by
  refine ⟨rfl, Nat.le_refl _, fun z z0 z1 => at'_rng hq.1 hq.2.2 z0 z1, fun z u z0 z1 u0 u1 e => at'_inj hq.2.1 hq.2.2 z0 z1 u0 u1 e, fun j a b ha hb z z0 z1 => ?_⟩
  rw [ha] at hb
  cases hb
  exact hc _ (mem_of_get? ha) z z0 z1
theorem bfs_same {hs : List (List Int)} {n : Nat} {x y : Int} (hS : SysOf hs n) (h0 : 0 ≤ x) (h1 : x < n) (h : Rch hs x y) : (bfs hs n y).length = (bfs hs n x).length := by
  have hr := h.rng hS h0 h1
  have a := bfs_met hS h0 h1
  have b := bfs_met hS hr.1 hr.2
  have hb := h.symm hS h0 h1
  exact Nat.le_antisymm (nodup_sub_len _ _ b.nd fun z hz => (bfs_mem hS h0 h1).2 (h.trans (b.rch z hz))) (nodup_sub_len _ _ a.nd fun z hz => (bfs_mem hS hr.1 hr.2).2 (hb.trans (a.rch z hz)))
/-- the orbits of hs have one size within an orbit of all -/
theorem orb_size {hs ks ls : List (List Int)} {n : Nat} {x y : Int} (hH : SysOf hs n) (hK : SysOf ks n) (hl : ∀ p ∈ ls, p ∈ hs ∨ p ∈ ks) (hc : CommL hs ks n) (h0 : 0 ≤ x) (h1 : x < n) (h : Rch ls x y) : 0 ≤ y ∧ y < n ∧ (bfs hs n y).length = (bfs hs n x).length := by
  induction h with
  | refl => exact ⟨h0, h1, rfl⟩
  | step hxy hp ih =>
    rename_i y p
    obtain ⟨y0, y1, e⟩ := ih
    rcases hl p hp with g | g
    · have hr := at'_rng (hH p g).1 (hH p g).2.2 y0 y1
      exact ⟨hr.1, hr.2, (bfs_same hH y0 y1 (Rch.refl.step g)).trans e⟩
    · have hr := at'_rng (hK p g).1 (hK p g).2.2 y0 y1
      exact ⟨hr.1, hr.2, (iso_len hH (comm_iso (hK p g) (fun a ha => hc a ha p g)) y0 y1).trans e⟩
/-- first the moves of ks, then those of hs -/
theorem rch_split {hs ks ls : List (List Int)} {n : Nat} {x y : Int} (hH : SysOf hs n) (hK : SysOf ks n) (hl : ∀ p ∈ ls, p ∈ hs ∨ p ∈ ks) (hc : CommL hs ks n) (h0 : 0 ≤ x) (h1 : x < n) (h : Rch ls x y) : ∃ z, Rch ks x z ∧ Rch hs z y := by
  induction h with
  | refl => exact ⟨x, .refl, .refl⟩
  | step hxy hp ih =>
    rename_i y p
    obtain ⟨z, hz1, hz2⟩ := ih
    rcases hl p hp with g | g
    · exact ⟨z, hz1, hz2.step g⟩
    · have hr := hz1.rng hK h0 h1
      exact ⟨at' p z, hz1.step g, iso_rch hH (comm_iso (hK p g) (fun a ha => hc a ha p g)) hr.1 hr.2 hz2⟩
theorem sum_const {l : List Int} {f : Int → List Int} {h : Nat} (hf : ∀ z ∈ l, (f z).length = h) : (l.flatMap f).length = l.length * h := by
  induction l with
  | nil => simp
  | cons a t ih =>
    rw [List.flatMap_cons, List.length_append, hf a (by simp), ih (fun z hz => hf z (by simp [hz])), List.length_cons, Nat.add_mul, Nat.one_mul, Nat.add_comm]
theorem filter_two (p : Int → Bool) (l : List Int) : l.length = (l.filter p).length + (l.filter fun y => !p y).length := by
  induction l with
  | nil => rfl
  | cons a t ih =>
    rw [List.filter_cons, List.filter_cons]
    cases h : p a <;> simp <;> omega
/-- a list that falls into classes of h each -/
theorem part_dvd (R : Int → Int → Prop) (h : Nat) : ∀ (m : Nat) (L : List Int), L.length ≤ m → (∀ x ∈ L, R x x) → (∀ x ∈ L, ∀ y ∈ L, R x y → R y x) → (∀ x ∈ L, ∀ y ∈ L, ∀ z ∈ L, R x y → R y z → R x z) → (∀ x ∈ L, (L.filter fun y => decide (R x y)).length = h) → h ∣ L.length := by
  intro m
  induction m with
  | zero => intro L hm _ _ _ _; rw [List.eq_nil_of_length_eq_zero (l := L) (by omega)]; exact ⟨0, rfl⟩
  | succ m ih =>
    intro L hm hr hs ht hc
    cases L with
    | nil => exact ⟨0, rfl⟩
    | cons a t =>
      have hsplit := filter_two (fun y => decide (R a y)) (a :: t)
      have hca := hc a (by simp)
      have hpos : 1 ≤ ((a :: t).filter fun y => decide (R a y)).length := by
        rw [List.filter_cons, if_pos (decide_eq_true (hr a (by simp)))]
        simp
      have hmem : ∀ {x : Int}, x ∈ ((a :: t).filter fun y => !decide (R a y)) → x ∈ a :: t ∧ ¬ R a x := by
        intro x hx
        rw [List.mem_filter] at hx
        exact ⟨hx.1, by simpa using hx.2⟩
      have := ih ((a :: t).filter fun y => !decide (R a y)) (by omega) (fun x hx => hr x (hmem hx).1) (fun x hx y hy => hs x (hmem hx).1 y (hmem hy).1)
        (fun x hx y hy z hz => ht x (hmem hx).1 y (hmem hy).1 z (hmem hz).1) (fun x hx => by
          rw [List.filter_filter]
          have e : ((a :: t).filter fun y => decide (R x y) && !decide (R a y)) = (a :: t).filter fun y => decide (R x y) := by
            refine List.filter_congr fun y hy => ?_
            by_cases g : R x y
            · have : ¬ R a y := fun g2 => (hmem hx).2 (ht a (by simp) y hy x (hmem hx).1 g2 (hs x (hmem hx).1 y hy g))
              simp [g, this]
            · simp [g]
          rw [e]
          exact hc x (hmem hx).1)
      obtain ⟨k, hk⟩ := this
      refine ⟨k + 1, ?_⟩
      rw [hsplit, hca, hk, Nat.mul_add, Nat.mul_one, Nat.add_comm]
/-- the flags of an orbit of all -/
theorem orb_dvd {hs ks ls : List (List Int)} {n : Nat} {x : Int} (hH : SysOf hs n) (hK : SysOf ks n) (hL : SysOf ls n) (hl : ∀ p ∈ ls, p ∈ hs ∨ p ∈ ks) (hhl : ∀ p ∈ hs, p ∈ ls) (hc : CommL hs ks n) (h0 : 0 ≤ x) (h1 : x < n) : (bfs hs n x).length ∣ (bfs ls n x).length := by
  have hm := bfs_met hL h0 h1
  have up : ∀ a b, Rch hs a b → Rch ls a b := by
    intro a b h
    induction h with
    | refl => exact .refl
    | step _ hp ih => exact ih.step (hhl _ hp)
  refine part_dvd (Rch hs) _ _ (bfs ls n x) (Nat.le_refl _) (fun a _ => .refl) (fun a ha b _ h => h.symm hH (hm.rng a ha).1 (hm.rng a ha).2) (fun a _ b _ c _ g1 g2 => g1.trans g2) (fun a ha => ?_)
  have hr := hm.rng a ha
  have e := (orb_size hH hK hl hc h0 h1 (hm.rch a ha)).2.2
  rw [← e]
  have hb := bfs_met hH hr.1 hr.2
  refine Nat.le_antisymm (nodup_sub_len _ _ (hm.nd.filter _) fun z hz => ?_) (nodup_sub_len _ _ hb.nd fun z hz => ?_)
  · rw [List.mem_filter] at hz
    exact (bfs_mem hH hr.1 hr.2).2 (by simpa using hz.2)
  · rw [List.mem_filter]
    exact ⟨(bfs_mem hL h0 h1).2 ((hm.rch a ha).trans (up _ _ (hb.rch z hz))), by simpa using hb.rch z hz⟩
theorem orb_mul {hs ks ls : List (List Int)} {n : Nat} {x : Int} (hH : SysOf hs n) (hK : SysOf ks n) (hL : SysOf ls n) (hl : ∀ p ∈ ls, p ∈ hs ∨ p ∈ ks) (hc : CommL hs ks n) (hkl : ∀ p ∈ ks, p ∈ ls) (h0 : 0 ≤ x) (h1 : x < n) : (bfs ls n x).length ≤ (bfs ks n x).length * (bfs hs n x).length := by
  have hm := bfs_met hL h0 h1
  have hk := bfs_met hK h0 h1
  have up : ∀ a b, Rch ks a b → Rch ls a b := by
    intro a b h
    induction h with
    | refl => exact .refl
    | step _ hp ih => exact ih.step (hkl _ hp)
  rw [← sum_const (l := bfs ks n x) (f := bfs hs n) (h := (bfs hs n x).length) (fun z hz => (orb_size hH hK hl hc h0 h1 (up _ _ (hk.rch z hz))).2.2)]
  refine nodup_sub_len _ _ hm.nd fun y hy => ?_
  obtain ⟨z, hz1, hz2⟩ := rch_split hH hK hl hc h0 h1 (hm.rch y hy)
  have hzr := hz1.rng hK h0 h1
  exact List.mem_flatMap.2 ⟨z, (bfs_mem hK h0 h1).2 hz1, (bfs_mem hH hzr.1 hzr.2).2 hz2⟩
def TwoR (p : List Int) (a b : Int) : Prop := b = a ∨ b = at' p a
/-- an orbit under a free involution has an even number of points -/
theorem orb_even {tr : List (List Int)} {p : List Int} {n : Nat} {x : Int} (hS : SysOf tr n) (hp : p ∈ tr) (hi : ∀ z : Int, 0 ≤ z → z < n → at' p z ≠ z ∧ at' p (at' p z) = z) (h0 : 0 ≤ x) (h1 : x < n) : 2 ∣ (bfs tr n x).length := by
  have hm := bfs_met hS h0 h1
  refine part_dvd (TwoR p) 2 _ (bfs tr n x) (Nat.le_refl _) (fun a _ => .inl rfl) (fun a ha b _ h => ?_) (fun a ha b _ c _ g1 g2 => ?_) (fun a ha => ?_)
  · have hr := hm.rng a ha
    rcases h with rfl | rfl
    · exact .inl rfl
    · exact .inr (hi a hr.1 hr.2).2.symm
  · have hr := hm.rng a ha
    rcases g1 with rfl | rfl
    · exact g2
    · rcases g2 with rfl | rfl
      · exact .inr rfl
      · exact .inl (hi a hr.1 hr.2).2
  · have hr := hm.rng a ha
    have hne := (hi a hr.1 hr.2).1
    have hb : at' p a ∈ bfs tr n x := (bfs_mem hS h0 h1).2 ((hm.rch a ha).step hp)
    have hnd : [a, at' p a].Nodup := by simp; exact fun e => hne e.symm
    refine Nat.le_antisymm (nodup_sub_len _ [a, at' p a] (hm.nd.filter _) fun z hz => ?_) (nodup_sub_len [a, at' p a] _ hnd fun z hz => ?_)
    · rw [List.mem_filter] at hz
      have : TwoR p a z := of_decide_eq_true hz.2
      unfold TwoR at this
      simpa using this
    · simp only [List.mem_cons, List.not_mem_nil, or_false] at hz
      rw [List.mem_filter]
      rcases hz with rfl | rfl
      · exact ⟨ha, decide_eq_true (show TwoR p z z from .inl rfl)⟩
      · exact ⟨hb, decide_eq_true (show TwoR p a (at' p a) from .inr rfl)⟩
theorem erase_two {xss : List (List Int)} {i : Nat} (p : List Int) : p ∈ xss.eraseIdx i ↔ p ∈ subL xss 0 i ∨ p ∈ subL xss (i + 1) xss.length := by
  rw [List.eraseIdx_eq_take_drop_succ, List.mem_append]
  unfold subL
  rw [List.drop_zero, Nat.sub_zero, List.take_of_length_le (l := xss.drop (i + 1)) (by rw [List.length_drop]; omega)]
end Go.Proofs.YtcjnhiglfkcmiaaGreatDoor
/- Map -/
namespace Go.Proofs.YtcjnhiglfkcmiaaGreatDoor
open Go.RowKit
set_option linter.unusedVariables false
set_option maxRecDepth 100000
theorem bits_xor1 : ∀ f : Nat, f < 400 → bits BinOp.xor IntKind.i64 (f : Int) 1 = plyA f := by decide +kernel
theorem bits_xor2 : ∀ f : Nat, f < 400 → bits BinOp.xor IntKind.i64 (f : Int) 2 = xor2 f := by decide +kernel
/-- the row's number at i -/
def subF (ls row : List Int) (i : Nat) : Int := ((ls.idxOf (at' row (ls.getD i 0)) : Nat) : Int)
theorem subRow_eq {ls : List Int} {n : Nat} (h : ls.length = n) (row : List Int) : subRow ls row = (List.range n).map (subF ls row) := by subst h; rfl
theorem subF_val {ls pr : List Int} {i y u t : Nat} (hn : ls.Nodup) (h1 : ls[i]? = some (y : Int)) (h2 : pr[y]? = some (u : Int)) (h3 : ls[t]? = some (u : Int)) : subF ls pr i = (t : Int) := by
  unfold subF
  rw [List.getD_eq_getElem?_getD, h1]
  have e : at' pr (y : Int) = (u : Int) := by unfold at'; simp [List.getD_eq_getElem?_getD, h2]
  simp only [Option.getD_some]
  rw [e, idxOf_of_get? hn h3]
set_option maxHeartbeats 8000000 in
theorem l02Map_any (w : World) (lo g : Nat) (A : Option Addr) (n c : Nat) (bs : List Int) (i h : Nat) (s : Src w lo g 53 A n c bs i h) (k : Nat) (hk : 1 ≤ k) (hk4 : 4 * k ≤ 400) :
    Calls Tryz.prog 60 #[.pointer (some ⟨g, 0, none⟩), .int .i64 (k : Int)] w fun e w' => ∃ (A1 : Option Addr) (c1 : Nat) (zss : List (List Int)) (F i' h' : Nat), e = .returned (.agg #[.slice A1 3 c1]) ∧ OwnS w' w.heap.size w'.heap.size 46 2 A1 3 c1 zss ∧ SysOf zss F ∧ 1 ≤ F ∧ F ≤ 4 * k ∧ 2 ∣ F ∧ Src w' lo g 53 A n c bs i' h' ∧ Chg g (g + 1) w w' := by
  obtain ⟨j0, hj0, hy0, hy1, hy2⟩ := info_parts infoI
  obtain ⟨s0, hs0, hu0, hu1, hu2⟩ := info_parts infoS
  obtain ⟨N, hN⟩ : ∃ N, 4 * k = N := ⟨_, rfl⟩
  have hkn : (4 : Int) * (k : Int) = (N : Int) := by omega
  have hgl := s.lt
  have B0 : Below w.heap.size w (((w.alloc (.cells #[.slice none 0 0] 26)).alloc (.cells #[] 2)).alloc (.cells #[] 2)) := (((Below.refl _ _).alloc (Nat.le_refl _) _).alloc (by simp) _).alloc (by simp; omega) _
  have hM := matching_any _ lo g A n c bs i h (s.below B0 hgl) (2 * k) (by omega)
  rw [show 2 * (2 * k) = N by omega] at hM
  go_enter Tryz.func60, Tryz.ntmps60
  go_wp2_with fail
  ((with_reducible refine hM.mono ?_); rintro e w2 ⟨A8, c8, rfl, i2, h2, ms, o8, hms, s2, C2⟩)
  clear hM
  go_wp2_with fail
  have hz0 : ((w.alloc (.cells #[.slice none 0 0] 26)).alloc (.cells #[] 2)).heap.size = w.heap.size + 1 + 1 := by simp
  have hz00 : (w.alloc (.cells #[.slice none 0 0] 26)).heap.size = w.heap.size + 1 := by simp
  have zC := C2.size
  have zC3 : w.heap.size + 3 ≤ w2.heap.size := by simp at zC; omega
  have E6 := World.ownsRow_lit (e := 2) (base := w.heap.size + 1) (size := 1) (w.alloc (.cells #[.slice none 0 0] 26)) #[] 0 (by simp) (by omega) rfl
  have E7 := World.ownsRow_lit (e := 2) (base := w.heap.size + 1) (size := 1) ((w.alloc (.cells #[.slice none 0 0] 26)).alloc (.cells #[] 2)) #[] 0 (by simp) (by omega) rfl
  rw [hz00] at E6
  rw [hz0] at E7
  have o6 := ((Own.of_row E6).keep (same_alloc _ (.cells #[] 2) _ _ (Nat.le_refl _))).keep (Same.of_chg C2 (by simp) (.inr (by omega)))
  have o7 := (Own.of_row E7).keep (Same.of_chg C2 (Nat.le_refl _) (.inr (by omega)))
  have hTwo : Two w2 (w.heap.size + 1) (w.heap.size + 3) w2.heap.size 2 (some ⟨w.heap.size + 1, 0, none⟩) 0 0 (((List.range 0).map plyA).map (Value.int .i64)) (some ⟨w.heap.size + 1 + 1, 0, none⟩) 0 0 (((List.range 0).map xor2).map (Value.int .i64)) :=
    ⟨by simpa using o6.1, by simpa using o7.1, fun q h1 h2 => by simp [Value.ownBlock] at h1 h2; omega, fun q h1 => by simp [Value.ownBlock] at h1; omega, fun q h1 => by simp [Value.ownBlock] at h1; omega, Nat.le_refl _⟩
  have o8s : Own w2 (w.heap.size + 3) w2.heap.size 2 A8 N c8 (ms.map (Value.int .i64)) := o8.more (by simp) (Nat.le_refl _)
  have hms' := Lib.hid hms
  have g0 : w2.heap[w.heap.size]? = some (.cells #[.slice none 0 0] 26 (0, 0)) := (C2.block w.heap.size (by simp; omega) (.inr (by omega))).trans (((Below.heap_alloc _ _ _ (by simp; omega)).trans (Below.heap_alloc _ _ _ (by simp))).trans (heap_new _ _ _ rfl))
  have C2' : Chg g (g + 1) w w2 := (Chg.of_below g (g + 1) B0).trans C2 ⟨Nat.le_refl _, Nat.le_refl _⟩ ⟨Nat.le_refl _, Nat.le_refl _⟩
  replace g0 := Lib.hid g0
  replace s2 := Lib.hid s2
  clear E6 E7 o6 o7 o8 B0 hms C2 s hz0 hz00 zC
  go_loopw [6, 7, 9] (fun v6 v7 fv wq => ∃ (f : Nat) (A6 : Option Addr) (c6 : Nat) (A7 : Option Addr) (c7 : Nat), f ≤ N ∧ v6 = .slice A6 f c6 ∧ v7 = .slice A7 f c7 ∧ fv = .int .i64 f ∧ Hid (Two wq (w.heap.size + 1) (w.heap.size + 3) w2.heap.size 2 A6 f c6 (((List.range f).map plyA).map (Value.int .i64)) A7 f c7 (((List.range f).map xor2).map (Value.int .i64))) ∧ w2.heap.size ≤ wq.heap.size ∧ Below (w.heap.size + 1) w2 wq ∧ Hid (Same (w.heap.size + 3) w2.heap.size w2 wq)) (fun _ _ fv _ => N - (intOf fv).toNat)
  case atStart => exact ⟨0, _, _, _, _, by omega, rfl, rfl, rfl, Lib.hid hTwo, Nat.le_refl _, Below.refl _ _, Lib.hid (Same.refl _ _ _)⟩
  case round =>
    obtain ⟨f, A6, c6, A7, c7, hf, rfl, rfl, rfl, hT, hz, hb, hsm⟩ := hrel
    by_cases hlt : f < N
    · have hx1 := bits_xor1 f (by omega)
      have hx2 := bits_xor2 f (by omega)
      have T := hT.out
      go_wp2_with (at_builtin; refine wpList_append1 wr rfl (.tmp 30) (.tmp 33) 46 rfl (w.heap.size + 1) 2 j0 (.int .i64 0) 8 Tryz.underlying46 hj0 hy0 hy1 hy2 rfl (by omega) A6 f c6 _ (.int .i64 (plyA f)) rfl T.r6 _ rfl rfl rfl (by omega) (by omega) ?_)
      intro g4 c4 w4 ho4 hg4 hlo4 hlt4 hor4
      obtain ⟨T4, S4⟩ := T.grow ho4 hg4 hor4
      have z4 := hg4.size
      have hb4 : Below (w.heap.size + 1) w2 w4 := hb.grown hg4 (by omega) (fun q hq => (T.r6.lt q hq).1)
      have hs4 : Hid (Same (w.heap.size + 3) w2.heap.size w2 w4) := Lib.hid (hsm.out.trans S4)
      clear T hT ho4 hg4 hor4 hb hsm S4
      go_wp2_with (at_builtin; refine wpList_append1 w4 rfl (.tmp 35) (.tmp 38) 46 rfl (w.heap.size + 1) 2 j0 (.int .i64 0) 8 Tryz.underlying46 hj0 hy0 hy1 hy2 rfl (by omega) A7 f c7 _ (.int .i64 (xor2 f)) rfl T4.r7 _ rfl rfl rfl (by omega) (by omega) ?_)
      intro g5 c5 w5 ho5 hg5 hlo5 hlt5 hor5
      obtain ⟨T5, S5⟩ := T4.swap.grow ho5 hg5 hor5
      have z5 := hg5.size
      have hb5 : Below (w.heap.size + 1) w2 w5 := hb4.grown hg5 (by omega) (fun q hq => (T4.r7.lt q hq).1)
      have hs5 : Hid (Same (w.heap.size + 3) w2.heap.size w2 w5) := Lib.hid (hs4.out.trans S5)
      have e1 : ∀ h : Nat → Int, ((List.range (f + 1)).map h).map (Value.int .i64) = (List.range f).map (Value.int .i64 ∘ h) ++ [.int .i64 (h f)] := fun h => by rw [List.range_succ, List.map_append, List.map_append, List.map_map]; rfl
      have T6 := T5.swap
      rw [← e1, ← e1] at T6
      replace T6 := Lib.hid T6
      clear T4 T5 ho5 hg5 hor5 hb4 hs4 S5 hx1 hx2 e1
      go_wp2_with fail
      go_roundw
      case measure => simp [intOf]; omega
      case rel => exact ⟨f + 1, _, _, _, _, by omega, rfl, rfl, by go_num, T6, by omega, hb5, hs5⟩
    · obtain rfl : N = f := by omega
      obtain ⟨wl, rfl⟩ : ∃ wl : World, wl = wr := ⟨_, rfl⟩
      have T := hT.out
      have q6 := (Own.of_row T.r6).ri
      have q7 := (Own.of_row T.r7).ri
      have q8 := (o8s.keep hsm.out).ri
      have Bh : Below wl.heap.size wl (wl.alloc (.cells #[.slice A6 N c6, .slice A8 N c8, .slice A7 N c7] 46)) := (Below.refl _ _).alloc (Nat.le_refl _) _
      have L := lit_rd wl #[.slice A6 N c6, .slice A8 N c8, .slice A7 N c7] 46 (by simp)
      have hRS : RS (wl.alloc (.cells #[.slice A6 N c6, .slice A8 N c8, .slice A7 N c7] 46)) (w.heap.size + 1) (wl.heap.size + 1) (some ⟨wl.heap.size, 0, none⟩) 3 [(List.range N).map plyA, ms, (List.range N).map xor2] := by
        refine ⟨[.slice A6 N c6, .slice A8 N c8, .slice A7 N c7], L.more (by omega) (Nat.le_refl _), rfl, ?_⟩
        intro j v xs h1 h2
        match j, h1, h2 with
        | 0, h1, h2 => simp at h1 h2; subst h1; subst h2; exact ⟨_, _, _, rfl, (q6.below Bh (Nat.le_refl _)).more (Nat.le_refl _) (by omega)⟩
        | 1, h1, h2 => simp at h1 h2; subst h1; subst h2; exact ⟨_, _, _, rfl, (q8.below Bh (by omega)).more (by omega) (by omega)⟩
        | 2, h1, h2 => simp at h1 h2; subst h1; subst h2; exact ⟨_, _, _, rfl, (q7.below Bh (Nat.le_refl _)).more (Nat.le_refl _) (by omega)⟩
        | j + 3, h1, h2 => simp at h1
      have hSys : SysOf [(List.range N).map plyA, ms, (List.range N).map xor2] N := by
        intro p hp
        simp only [List.mem_cons, List.not_mem_nil, or_false] at hp
        rcases hp with rfl | rfl | rfl
        · have := xor1_perm k; rwa [hN] at this
        · exact hms'.out
        · have := xor2_perm k; rwa [hN] at this
      obtain ⟨tr, htr⟩ : ∃ tr, [(List.range N).map plyA, ms, (List.range N).map xor2] = tr := ⟨_, rfl⟩
      rw [htr] at hRS hSys
      have htl : tr.length = 3 := by rw [← htr]; rfl
      have hOrb := orbit_sys hSys (by omega)
      have hMet := bfs_met hSys (x := 0) (by omega) (by omega)
      have hcl : ∀ x ∈ bfs tr N 0, ∀ p ∈ tr, at' p x ∈ bfs tr N 0 := fun x hx p hp => (bfs_mem hSys (by omega) (by omega)).2 (.step ((bfs_mem hSys (by omega) (by omega)).1 hx) hp)
      have hO := l01Orbit_any N _ _ 3 _ 0 _ hRS (by simp) (by omega) hSys (by omega) (by omega)
      have hEv : 2 ∣ (bfs tr N 0).length := orb_even (p := (List.range N).map plyA) hSys (by rw [← htr]; simp) (xor1_free N ⟨k, hN.symm⟩) (by omega) (by omega)
      obtain ⟨ls, hls⟩ : ∃ ls, bfs tr N 0 = ls := ⟨_, rfl⟩
      rw [hls] at hOrb hMet hcl hO hEv
      replace hEv := Lib.hid hEv
      have hrng := hMet.rng
      have hnd := hMet.nd
      replace hcl := Lib.hid hcl
      replace hrng := Lib.hid hrng
      replace hnd := Lib.hid hnd
      replace htl := Lib.hid htl
      replace hOrb := Lib.hid hOrb
      replace hSys := Lib.hid hSys
      have B2l : Below (w.heap.size + 1) w2 (wl.alloc (.cells #[.slice A6 N c6, .slice A8 N c8, .slice A7 N c7] 46)) := hb.trans (Bh.mono (by omega))
      clear q6 q7 q8 L Bh T hMet htr hls hT hsm hTwo o8s hb
      go_wp2_with fail
      ((with_reducible refine hO.mono ?_); rintro e w3 ⟨A9, n9, c9, rfl, o9, f9⟩)
      clear hO
      have hn9 : Hid (ls.length = n9) := Lib.hid o9.lenI
      have hn9N : n9 ≤ N := by have := hOrb.out.2.2; have := hn9.out; omega
      have z3 := f9.size
      have hR3 := hRS.below f9 (by simp)
      have B23 : Below (w.heap.size + 1) w2 w3 := B2l.trans (f9.mono (by simp; omega))
      have hz3 : wl.heap.size + 1 ≤ w3.heap.size := by simp at z3; omega
      clear hRS B2l f9 z3
      go_wp2_with (at_make; refine wpList_make_full _ rfl _ _ 46 rfl w3.heap.size 2 j0 (.int .i64 0) 1 Tryz.underlying46 hj0 hy0 hy1 _ _ _ _ N rfl rfl rfl rfl ?c1 ?c2 (Nat.le_refl _) ?_)
      case c1 => rw [hy2]; omega
      case c2 => simp only [maxLen]; omega
      intro w4 hown hg
      have B4 : Below w3.heap.size w3 w4 := (Below.refl _ _).grown hg (Nat.le_refl _) (by simp)
      have o12 : Own w4 w3.heap.size w4.heap.size 2 (some ⟨w3.heap.size, 0, none⟩) N N ((List.replicate N 0).map (Value.int .i64)) := by
        have := Own.of_row hown
        simpa [toList_madeCells_one, Value.cells] using this
      clear hown hg
      go_wp2_with fail
      go_loopw [13] (fun iv wq => ∃ (j : Nat) (at_ : List Int), j ≤ n9 ∧ iv = .int .i64 j ∧ Hid (at_.length = N ∧ ∀ t, t < j → ∀ u : Nat, ls[t]? = some (u : Int) → at_[u]? = some (t : Int)) ∧ Own wq w3.heap.size w4.heap.size 2 (some ⟨w3.heap.size, 0, none⟩) N N (at_.map (Value.int .i64)) ∧ w4.heap.size ≤ wq.heap.size ∧ Below w3.heap.size w3 wq) (fun iv _ => n9 - (intOf iv).toNat)
      case atStart => exact ⟨0, List.replicate N 0, by omega, rfl, Lib.hid ⟨by simp, fun t ht => by omega⟩, o12, Nat.le_refl _, B4⟩
      case round =>
        clear o12 B4
        obtain ⟨j, at_, hj, rfl, hat, oa, hz4, hb4⟩ := hrel
        by_cases hj9 : j < n9
        · obtain ⟨bx, yv, rfl, _, _, _, hyv, hcy, _⟩ := (o9.below hb4 (Nat.le_refl _)).atI hj9
          obtain ⟨hy0', hyN⟩ := hrng.out yv (List.mem_of_getElem? hyv)
          obtain ⟨y, rfl⟩ := Int.eq_ofNat_of_zero_le hy0'
          obtain ⟨za, hza⟩ : ∃ v, at_[y]? = some v := ⟨_, List.getElem?_eq_getElem (by have := hat.out.1; omega)⟩
          have hcA := oa.cellI hza
          have hfA := oa.frz y
          have hyN' : y < N := by omega
          have hst : Hid ((at_.set y (j : Int)).length = N ∧ ∀ t, t < j + 1 → ∀ u : Nat, ls[t]? = some (u : Int) → (at_.set y (j : Int))[u]? = some (t : Int)) := Lib.hid ⟨by rw [List.length_set]; exact hat.out.1, fun t ht u hu => by
            rw [List.getElem?_set]
            by_cases e : t = j
            · subst e
              rw [hyv] at hu
              have e2 : y = u := by have := Option.some.inj hu; omega
              subst e2
              rw [if_pos rfl, if_pos (by have := hat.out.1; omega)]
            · have hne : y ≠ u := fun e2 => by subst e2; exact e (row_inj hnd.out hu hyv)
              rw [if_neg hne]
              exact hat.out.2 t (by omega) u hu⟩
          replace hyv := Lib.hid hyv
          replace hza := Lib.hid hza
          clear hat
          go_wp2_with fail
          go_roundw
          case measure => simp [intOf]; omega
          case rel => exact ⟨j + 1, at_.set y (j : Int), by omega, by go_num, hst, oa.setI _, by simp; omega, hb4.setCell (by simp) _⟩
        · obtain rfl : n9 = j := by omega
          have hz4' := hb4.size
          obtain ⟨w5, rfl⟩ : ∃ w5 : World, w5 = wr := ⟨_, rfl⟩
          have o9' := o9.below hb4 (Nat.le_refl _)
          have hR5 := hR3.below hb4 (by omega)
          have B25 : Below (w.heap.size + 1) w2 w5 := B23.trans (hb4.mono (by omega))
          clear o9 hR3 B23 hb4
          go_wp2_with fail
          go_loopw [15] (fun kv wq => ∃ (q : Nat) (vs : List Value) (A2 : Option Addr) (c2 : Nat), q ≤ 3 ∧ Hid (vs.length = q) ∧ kv = .int .i64 q ∧ Hid (wq.heap[w5.heap.size]? = some (.cells #[.slice A2 q c2] 26 (0, 0))) ∧
            Own wq (w5.heap.size + 1) wq.heap.size 46 A2 q c2 vs ∧ RowsOwn wq (w5.heap.size + 1) wq.heap.size 2 vs ((tr.map (subRow ls)).take q) ∧ w5.heap.size + 1 ≤ wq.heap.size ∧ Below w5.heap.size w5 wq) (fun kv _ => 3 - (intOf kv).toNat)
          case atStart => exact ⟨0, [], none, 0, by omega, Lib.hid rfl, rfl, Lib.hid (heap_new _ _ _ rfl), Own.nil, by simpa using RowsOwn.nil, by simp, (Below.refl _ _).alloc (Nat.le_refl _) _⟩
          case round =>
            obtain ⟨q, vs, A2, c2, hq, hvq, rfl, g6, ho6, hrows, hz6, hb6⟩ := hrel
            obtain ⟨wo, rfl⟩ : ∃ wo : World, wo = wr := ⟨_, rfl⟩
            by_cases hq3 : q < 3
            · obtain ⟨bA, oA, Ak, nk, ck, pr, hA, _, hbA, hpr, hcp, hrp⟩ := hR5.at_ hq3
              have hA' := Option.some.inj hA
              injection hA' with hA1 hA2
              subst hA1; subst hA2
              rw [Nat.zero_add] at hcp
              have hprm := List.mem_of_getElem? hpr
              obtain ⟨r1, r2, r3⟩ := hSys.out pr hprm
              obtain rfl : N = nk := by have := hrp.len; omega
              have b0 := own_lit0 wo 2 (Nat.le_refl wo.heap.size)
              have hrow : Hid ((tr.map (subRow ls))[q]? = some ((List.range n9).map (subF ls pr))) := Lib.hid (by rw [List.getElem?_map, hpr, ← subRow_eq hn9.out]; rfl)
              replace r1 := Lib.hid r1
              replace r3 := Lib.hid r3
              replace hpr := Lib.hid hpr
              replace hprm := Lib.hid hprm
              clear r2 hA
              go_wp2_with fail
              go_loopw [16, 17] (fun rv fv wq => ∃ (f : Nat) (A3 : Option Addr) (c3 : Nat), f ≤ n9 ∧ rv = .slice A3 f c3 ∧ fv = .int .i64 f ∧ wq.ownsRow wo.heap.size 2 1 (.slice A3 f c3) f (((List.range f).map (subF ls pr)).map (Value.int .i64)) ∧ wo.heap.size ≤ wq.heap.size ∧ Below wo.heap.size wo wq) (fun _ fv _ => n9 - (intOf fv).toNat)
              case atStart => exact ⟨0, _, 0, by omega, rfl, rfl, by simpa using b0.1, by simp, (Below.refl _ _).alloc (Nat.le_refl _) _⟩
              case round =>
                obtain ⟨f, A3, c3, hf, rfl, rfl, ho, hzi, hbi⟩ := hrel
                have hbw := hb6.trans (hbi.mono (by omega))
                by_cases hlt : f < n9
                · obtain ⟨bx, yv, rfl, _, _, _, hyv, hcy, _⟩ := (o9'.below hbw (by omega)).atI hlt
                  obtain ⟨hy0', hyN⟩ := hrng.out yv (List.mem_of_getElem? hyv)
                  obtain ⟨y, rfl⟩ := Int.eq_ofNat_of_zero_le hy0'
                  have hcp2 := (hbw.cell (p := ⟨wl.heap.size, q, none⟩) (by simp; omega)).trans hcp
                  obtain ⟨bp, op, uv, rfl, _, hbp, huv, hcu⟩ := (hrp.below hbw (by omega)).at_ (show y < N by omega)
                  obtain ⟨hu0, huN⟩ := r1.out uv (List.mem_of_getElem? huv)
                  obtain ⟨u, rfl⟩ := Int.eq_ofNat_of_zero_le hu0
                  have hul : (u : Int) ∈ ls := by
                    have e : at' pr (y : Int) = (u : Int) := by unfold at'; simp [List.getD_eq_getElem?_getD, huv]
                    have := hcl.out y (List.mem_of_getElem? hyv) pr hprm.out
                    rwa [e] at this
                  obtain ⟨t, ht⟩ := List.mem_iff_getElem?.1 hul
                  have htl9 : t < n9 := by have := (List.getElem?_eq_some_iff.1 ht).1; have := hn9.out; omega
                  have hta : at_[u]? = some (t : Int) := hat.out.2 t htl9 u ht
                  have hcA := (oa.below hbw (by omega)).cellI hta
                  have hval : subF ls pr f = (t : Int) := subF_val hnd.out hyv huv ht
                  have i0 : (0 : Int) ≤ (y : Int) := by omega
                  have i1 : (y : Int) < (N : Int) := by omega
                  have hrs : ((List.range (f + 1)).map (subF ls pr)).map (Value.int .i64) = (((List.range f).map (subF ls pr)).map (Value.int .i64)) ++ [.int .i64 (t : Int)] := by rw [List.range_succ, List.map_append, List.map_append, List.map_singleton, hval]; rfl
                  have hown' : Hid ((wr.alloc (.cells #[.int .i64 (t : Int)] 2)).drew.ownsRow wo.heap.size 2 1 (.slice A3 f c3) f (((List.range f).map (subF ls pr)).map (Value.int .i64))) := Lib.hid (ho.alloc _)
                  have hnew' : Hid (∀ q v, [Value.int .i64 (t : Int)][q]? = some v → (wr.alloc (.cells #[.int .i64 (t : Int)] 2)).drew.cell? ((⟨wr.heap.size, 0, none⟩ : Addr).add q) = some v) := Lib.hid (cell_one_of (heap_new _ _ _ rfl))
                  have hml : Hid (f + 1 ≤ maxLen) := Lib.hid (by simp only [maxLen]; omega)
                  have hbs : Hid (wo.heap.size ≤ (wr.alloc (.cells #[.int .i64 (t : Int)] 2)).drew.heap.size) := Lib.hid (by simp; omega)
                  have hBa : Hid (Below wo.heap.size wo (wr.alloc (.cells #[.int .i64 (t : Int)] 2)).drew) := Lib.hid (below_drw (hbi.alloc hzi _))
                  have hlo6 : Hid (∀ q, (Value.slice A3 f c3).ownBlock = some q → wo.heap.size ≤ q) := Lib.hid (fun q hq => (ho.lt q hq).1)
                  replace hrs := Lib.hid hrs
                  replace huv := Lib.hid huv
                  replace hyv := Lib.hid hyv
                  replace ht := Lib.hid ht
                  replace hta := Lib.hid hta
                  replace hul := Lib.hid hul
                  replace hval := Lib.hid hval
                  clear ho
                  go_wp2_with fail
                  go_region_law? (refine step_append_lies _ (by rfl) (.tmp 73) (.tmp 87) 46 (by rfl) wo.heap.size 2 j0 (.int .i64 0) 1 8 Tryz.underlying46 hj0 hy0 hy1 hy2 rfl (by decide) (.slice A3 f c3) f (((List.range f).map (subF ls pr)).map (Value.int .i64)) (by rfl) hown'.out ⟨wr.heap.size, 0, none⟩ 1 1 [.int .i64 (t : Int)] (by rfl) rfl hnew'.out (by simp [Value.oneCell']) (by decide) hml.out (by omega) hbs.out (wr.heap.size + 1) (by simp) ?_; intro g4 c4 w7 ho7 hg7 hor7 hlt7; have f7 : Below wo.heap.size wo w7 := hBa.out.grown hg7 hbs.out hlo6.out; rw [← hrs.out] at ho7)
                  all_goals
                    have z7 := f7.size
                    clear hown' hnew' hbs hBa hlo6 hg7 hor7
                    go_wp2_with fail
                    go_roundw
                    case measure => simp [intOf]; omega
                    case rel => exact ⟨f + 1, _, c4, by omega, rfl, by go_num, ho7, z7, f7⟩
                · obtain rfl : n9 = f := by omega
                  have g6w := (hbi.block w5.heap.size (by omega)).trans g6.out
                  have C9 : wr.cell? ⟨w5.heap.size, 0, none⟩ = some (.slice A2 q c2) := by rw [cell_of_row _ _ _ _ _ _ g6w]; rfl
                  have F9 : wr.frozen? ⟨w5.heap.size, 0, none⟩ = false := frozen_of_row _ _ _ _ _ g6w
                  have o6 := ho6.below hbi (Nat.le_refl _)
                  have r6 := hrows.keep (Same.of_below hbi (Nat.le_refl _))
                  have orow := Own.of_row ho
                  have htk := take_succ_of hrow.out
                  replace htk := Lib.hid htk
                  have hz3' := hb6.size
                  replace g6w := Lib.hid g6w
                  clear ho b0 hrows ho6 g6
                  go_wp2_with (at_builtin; refine wpList_append1 wr rfl (.tmp 90) (.tmp 92) 24 rfl (w5.heap.size + 1) 46 s0 (.slice none 0 0) 24 Tryz.underlying24 hs0 hu0 hu1 hu2 rfl (by omega) A2 q c2 _ (.slice A3 n9 c3) rfl o6.1 _ rfl rfl rfl (by omega) (by omega) ?_)
                  intro g4 c4 w8 ho5 hg5 hlo5 hlt5 hor5
                  have g5 := (hg5.block w5.heap.size (by omega) (fun e => by have := (o6.1.lt _ e.symm).1; omega)).trans g6w.out
                  have C5 : w8.cell? ⟨w5.heap.size, 0, none⟩ = some (.slice A2 q c2) := by rw [cell_of_row _ _ _ _ _ _ g5]; rfl
                  have F5 : w8.frozen? ⟨w5.heap.size, 0, none⟩ = false := frozen_of_row _ _ _ _ _ g5
                  have hrw5 := (r6.kept_ty o6.1 (by decide) hg5).snoc (orow.kept_ty o6.1 (by decide) hg5) (by omega) (by omega)
                  have hz5 := hg5.size
                  have hb5 : Below w5.heap.size w5 w8 := hbw.grown hg5 (by omega) (fun q hq => by have := (o6.1.lt q hq).1; omega)
                  have ho5p := Own.of_row ho5
                  replace g5 := Lib.hid g5
                  clear C9 F9 o6 r6 orow hg5 ho5
                  go_wp2_with fail
                  go_roundw
                  case measure => simp [intOf]; omega
                  case rel =>
                    refine ⟨q + 1, vs ++ [.slice A3 n9 c3], _, c4, by omega, Lib.hid (by simp [hvq.out]), by go_num, Lib.hid ?_, (ho5p.far (.inl (by simp)) _).more (Nat.le_refl _) (by simp), ?_, by simp; omega, hb5.setCell (by simp) _⟩
                    · have := heap_setCell_same _ _ 0 _ _ (Value.slice (some ⟨g4, 0, none⟩) (q + 1) c4) g5.out
                      simpa using this
                    · rw [htk.out]
                      exact (hrw5.keep (same_set _ _ _ _ _ (.inl (by simp)))).more (Nat.le_refl _) (by simp; omega)
            · obtain rfl : q = 3 := by omega
              have hz7 := hb6.size
              have B2w : Below (w.heap.size + 1) w2 wo := B25.trans (hb6.mono (by omega))
              have g1 := (B2w.block w.heap.size (by omega)).trans g0.out
              have C2 : wo.cell? ⟨w.heap.size, 0, none⟩ = some (.slice none 0 0) := by rw [cell_of_row _ _ _ _ _ _ g1]; rfl
              have F2 : wo.frozen? ⟨w.heap.size, 0, none⟩ = false := frozen_of_row _ _ _ _ _ g1
              have C9 : wo.cell? ⟨w5.heap.size, 0, none⟩ = some (.slice A2 3 c2) := by rw [cell_of_row _ _ _ _ _ _ g6.out]; rfl
              replace g1 := Lib.hid g1
              go_wp2_with fail
              have g2 := heap_setCell_same _ _ 0 _ _ (Value.slice A2 3 c2) g1.out
              (try simp only [Exit.inBlock, Exit.then])
              refine bodyPost_ret (v := .agg #[.slice A2 3 c2]) ?_ rfl ?_
              · exact results_cell_row rfl _ _ w.heap.size 26 #[.slice A2 3 c2] (0, 0) _ rfl (by simpa using g2) Tryz.underlying26 rfl (by kernel_rfl)
              · have e : (tr.map (subRow ls)).take 3 = tr.map (subRow ls) := List.take_of_length_le (by have := htl.out; simp; omega)
                rw [e] at hrows
                have hO1 := hOrb.out
                rw [hn9.out] at hO1
                have s3 := s2.out.below B2w (by omega)
                have C2w : Chg g (g + 1) w wo := ⟨B2w.os.trans C2'.os, B2w.tape.trans C2'.tape, B2w.output.trans C2'.output, by have := B2w.size; have := C2'.size; omega, fun k hk e => (B2w.block k (by omega)).trans (C2'.block k hk e)⟩
                refine ⟨A2, c2, _, n9, i2, h2, rfl, ⟨vs, ?_, ?_⟩, hO1.1, hO1.2.1, by have := hO1.2.2; omega, by have := hEv.out; rwa [hn9.out] at this, s3.far (by simp; omega) (by have := s3.above; simp; omega) _, C2w.setNew (by simp) _⟩
                · exact (ho6.keep (same_set _ _ _ _ _ (.inl (by simp; omega)))).more (by omega) (by simp)
                · exact (hrows.keep (same_set _ _ _ _ _ (.inl (by simp; omega)))).more (by omega) (by simp)
end Go.Proofs.YtcjnhiglfkcmiaaGreatDoor
/- Bes -/
namespace Go.Proofs.YtcjnhiglfkcmiaaGreatDoor
open Go.RowKit
set_option linter.unusedVariables false
set_option maxRecDepth 100000
set_option maxHeartbeats 8000000 in
theorem l02Beside_any (A : Option Addr) (m c : Nat) (xss : List (List Int)) (A' : Option Addr) (m' c' : Nat) (yss : List (List Int)) (w : World) {lo hi lo' hi' : Nat} (h : RS w lo hi A m xss) (hhi : hi ≤ w.heap.size) (h' : RS w lo' hi' A' m' yss) (hhi' : hi' ≤ w.heap.size)
    (hm : 0 < m) (hm' : 0 < m') (hm5 : m + m' ≤ 20) (a b : Nat) (hx : SysOf xss a) (hy : SysOf yss b) (ha : 1 ≤ a) (hb : 1 ≤ b) (hab : a * b ≤ 400) :
    Calls Tryz.prog 59 #[.agg #[.slice A m c], .agg #[.slice A' m' c']] w fun e w' => ∃ (A1 : Option Addr) (c1 : Nat), e = .returned (.agg #[.slice A1 (m + m') c1]) ∧ OwnS w' w.heap.size w'.heap.size 46 2 A1 (m + m') c1 (besL xss yss a b) ∧ Below w.heap.size w w' := by
  obtain ⟨j0, hj0, hy0, hy1, hy2⟩ := info_parts infoI
  obtain ⟨s0, hs0, hu0, hu1, hu2⟩ := info_parts infoS
  have hl := h.len
  have hl' := h'.len
  have hfa : flg xss = a := by obtain ⟨p, hp⟩ : ∃ p, xss[0]? = some p := ⟨_, List.getElem?_eq_getElem (by omega)⟩; rw [flg_of hp]; exact (hx p (List.mem_of_getElem? hp)).2.2
  have hfb : flg yss = b := by obtain ⟨p, hp⟩ : ∃ p, yss[0]? = some p := ⟨_, List.getElem?_eq_getElem (by omega)⟩; rw [flg_of hp]; exact (hy p (List.mem_of_getElem? hp)).2.2
  replace hx := Lib.hid hx
  replace hy := Lib.hid hy
  replace hfa := Lib.hid hfa
  replace hfb := Lib.hid hfb
  have hR := rs_alloc (rs_alloc (rs_alloc h hhi (.cells #[.slice A m c] 26)) (by simp; omega) (.cells #[.slice A' m' c'] 26)) (by simp; omega) (.cells #[.slice none 0 0] 26)
  have hR' := rs_alloc (rs_alloc (rs_alloc h' hhi' (.cells #[.slice A m c] 26)) (by simp; omega) (.cells #[.slice A' m' c'] 26)) (by simp; omega) (.cells #[.slice none 0 0] 26)
  have hB : Below w.heap.size w (((w.alloc (.cells #[.slice A m c] 26)).alloc (.cells #[.slice A' m' c'] 26)).alloc (.cells #[.slice none 0 0] 26)) := (((Below.refl _ _).alloc (Nat.le_refl _) _).alloc (by simp) _).alloc (by simp; omega) _
  have p0 : (((w.alloc (.cells #[.slice A m c] 26)).alloc (.cells #[.slice A' m' c'] 26)).alloc (.cells #[.slice none 0 0] 26)).heap[w.heap.size]? = some (.cells #[.slice A m c] 26 (0, 0)) := ((Below.heap_alloc _ _ _ (by simp; omega)).trans (Below.heap_alloc _ _ _ (by simp))).trans (heap_new _ _ _ rfl)
  have p1 : (((w.alloc (.cells #[.slice A m c] 26)).alloc (.cells #[.slice A' m' c'] 26)).alloc (.cells #[.slice none 0 0] 26)).heap[w.heap.size + 1]? = some (.cells #[.slice A' m' c'] 26 (0, 0)) := (Below.heap_alloc _ _ _ (by simp)).trans (heap_new _ _ _ (by simp))
  have p2 : (((w.alloc (.cells #[.slice A m c] 26)).alloc (.cells #[.slice A' m' c'] 26)).alloc (.cells #[.slice none 0 0] 26)).heap[w.heap.size + 1 + 1]? = some (.cells #[.slice none 0 0] 26 (0, 0)) := heap_new _ _ _ (by simp)
  go_enter Tryz.func59, Tryz.ntmps59
  go_wp2_with fail
  obtain ⟨W1, hW⟩ : ∃ W1 : World, (((w.alloc (.cells #[.slice A m c] 26)).alloc (.cells #[.slice A' m' c'] 26)).alloc (.cells #[.slice none 0 0] 26)) = W1 := ⟨_, rfl⟩
  have hz1 : W1.heap.size = w.heap.size + 3 := by rw [← hW]; simp
  rw [hW] at hR hR' hB p0 p1 p2 ⊢
  clear hW h h'
  haveI := Since.ne W1
  have hh1 : hi ≤ W1.heap.size := by omega
  have hh2 : hi' ≤ W1.heap.size := by omega
  have u1 : ∀ u : Since W1, u.val.cell? ⟨w.heap.size, 0, none⟩ = some (.slice A m c) := fun u => (u.ok.cell (p := ⟨w.heap.size, 0, none⟩) (by simp; omega)).trans (by rw [cell_of_row _ _ _ _ _ _ p0]; rfl)
  have u2 : ∀ u : Since W1, u.val.cell? ⟨w.heap.size + 1, 0, none⟩ = some (.slice A' m' c') := fun u => (u.ok.cell (p := ⟨w.heap.size + 1, 0, none⟩) (by simp; omega)).trans (by rw [cell_of_row _ _ _ _ _ _ p1]; rfl)
  refine wp_region_since_lit (by kernel_rfl) (by kernel_rfl) ?_
  repeat (go_big_quiet_step ((go_at_call 25; first | (refine since_call (hfa.out ▸ l02Flags_any A m c xss _ (hR.below (Since.ok _) hh1) ?_ hm); exact Nat.le_trans hh1 (Since.ok _).size) | (refine since_call (hfb.out ▸ l02Flags_any A' m' c' yss _ (hR'.below (Since.ok _) hh2) ?_ hm'); exact Nat.le_trans hh2 (Since.ok _).size))))
  refine wpQuiet_nil ?_
  intro w2 hw2
  have hb2 : Below W1.heap.size W1 w2 := by obtain ⟨u, hu⟩ := hw2; rw [hu]; exact u.ok
  clear hw2 u1 u2
  have hz2 := hb2.size
  have hR2 := hR.below hb2 hh1
  have hR2' := hR'.below hb2 hh2
  have q0 := (hb2.block w.heap.size (by omega)).trans p0
  have q1 := (hb2.block (w.heap.size + 1) (by omega)).trans p1
  have q2 := (hb2.block (w.heap.size + 1 + 1) (by omega)).trans p2
  have C0 : w2.cell? ⟨w.heap.size, 0, none⟩ = some (.slice A m c) := by rw [cell_of_row _ _ _ _ _ _ q0]; rfl
  have C1 : w2.cell? ⟨w.heap.size + 1, 0, none⟩ = some (.slice A' m' c') := by rw [cell_of_row _ _ _ _ _ _ q1]; rfl
  have hBw : Below w.heap.size w w2 := hB.trans (hb2.mono (by omega))
  obtain ⟨N, hN⟩ : ∃ N, a * b = N := ⟨_, rfl⟩
  rw [hN] at hab
  have haN : a ≤ N := by rw [← hN]; exact Nat.le_mul_of_pos_right a (by omega)
  have hbN : b ≤ N := by rw [← hN]; exact Nat.le_mul_of_pos_left b (by omega)
  have hmul : (a : Int) * (b : Int) = (N : Int) := by rw [← hN, Int.natCast_mul]
  have hbl := besL_length xss yss a b
  rw [hl, hl'] at hbl
  replace hN := Lib.hid hN
  replace hbl := Lib.hid hbl
  replace q0 := Lib.hid q0
  replace q1 := Lib.hid q1
  replace q2 := Lib.hid q2
  replace hR2 := Lib.hid hR2
  replace hR2' := Lib.hid hR2'
  clear hR hR' p0 p1 p2 hB hb2
  have hh1 : hi ≤ w2.heap.size := by omega
  have hh2 : hi' ≤ w2.heap.size := by omega
  have hzw : w.heap.size + 3 ≤ w2.heap.size := by omega
  have hpos : (0 : Int) < (b : Int) := by omega
  have hb0 : ¬ b = 0 := by omega
  clear hz1
  go_wp2_with fail
  go_loopw [8] (fun kv wq => ∃ (k : Nat) (vs : List Value) (A2 : Option Addr) (c2 : Nat), k ≤ m + m' ∧ Hid (vs.length = k) ∧ kv = .int .i64 k ∧ Hid (wq.heap[w2.heap.size]? = some (.cells #[.slice A2 k c2] 26 (0, 0))) ∧
      Own wq (w2.heap.size + 1) wq.heap.size 46 A2 k c2 vs ∧ RowsOwn wq (w2.heap.size + 1) wq.heap.size 2 vs ((besL xss yss a b).take k) ∧ w2.heap.size + 1 ≤ wq.heap.size ∧ Below w2.heap.size w2 wq) (fun kv _ => m + m' - (intOf kv).toNat)
  case atStart => exact ⟨0, [], none, 0, by omega, Lib.hid rfl, rfl, Lib.hid (heap_new _ _ _ rfl), Own.nil, by simpa using RowsOwn.nil, by simp, (Below.refl _ _).alloc (Nat.le_refl _) _⟩
  case round =>
    obtain ⟨k, vs, A2, c2, hk, hvk, rfl, g9, ho9, hrows, hz9, hb9⟩ := hrel
    have D0 := (hb9.cell (p := ⟨w.heap.size, 0, none⟩) (by simp; omega)).trans C0
    have D1 := (hb9.cell (p := ⟨w.heap.size + 1, 0, none⟩) (by simp; omega)).trans C1
    have hw1 : IntKind.i64.wrap ((m : Int) + (m' : Int)) = (m : Int) + (m' : Int) := by rw [IntKind.wrap_i64]; omega
    by_cases hkm : k < m + m'
    · have d0 : decide ((k : Int) < (m : Int) + (m' : Int)) = true := by simp; omega
      have hm1 := hR2.out.max
      have hm2 := hR2'.out.max
      obtain ⟨wo, rfl⟩ : ∃ wo : World, wo = wr := ⟨_, rfl⟩
      have b0 := own_lit0 wo 2 (Nat.le_refl wo.heap.size)

      by_cases hka : k < m
      · skip
        obtain ⟨bA, oA, Ak, nk, ck, pr, rfl, _, hbA, hpr, hcp, hrp⟩ := hR2.out.at_ hka
        have hprm := List.mem_of_getElem? hpr
        obtain ⟨r1, r2, r3⟩ := hx.out pr hprm
        have hnk : nk = a := by have := hrp.len; omega
        subst hnk
        have hrow : Hid ((besL xss yss nk b)[k]? = some ((List.range N).map (besA pr b))) := Lib.hid (by unfold besL; rw [List.getElem?_append_left (by simp; omega), List.getElem?_map, hpr, hN.out]; rfl)
        replace r1 := Lib.hid r1
        replace r3 := Lib.hid r3
        replace hpr := Lib.hid hpr
        replace hprm := Lib.hid hprm
        clear r2
        go_wp2_with fail
        go_loopw [9, 10] (fun rv fv wq => ∃ (f : Nat) (A3 : Option Addr) (c3 : Nat), f ≤ N ∧ rv = .slice A3 f c3 ∧ fv = .int .i64 f ∧ wq.ownsRow wo.heap.size 2 1 (.slice A3 f c3) f (((List.range f).map (besA pr b)).map (Value.int .i64)) ∧ wo.heap.size ≤ wq.heap.size ∧ Below wo.heap.size wo wq) (fun _ fv _ => N - (intOf fv).toNat)
        case atStart => exact ⟨0, _, 0, by omega, rfl, rfl, by simpa using b0.1, by simp, (Below.refl _ _).alloc (Nat.le_refl _) _⟩
        case round =>
          obtain ⟨f, A3, c3, hf, rfl, rfl, ho, hzi, hbi⟩ := hrel
          have hbw := hb9.trans (hbi.mono (by omega))
          have E0 := (hbw.cell (p := ⟨w.heap.size, 0, none⟩) (by simp; omega)).trans C0
          have E1 := (hbw.cell (p := ⟨w.heap.size + 1, 0, none⟩) (by simp; omega)).trans C1
          by_cases hlt : f < N
          · have hlt2 : f < nk * b := by have := hN.out; omega
            obtain ⟨x, htd, hxe⟩ : ∃ x : Nat, Int.tdiv (f : Int) (b : Int) = (x : Int) ∧ x = f / b := ⟨f / b, rfl, rfl⟩
            obtain ⟨y, htm, hye⟩ : ∃ y : Nat, Int.tmod (f : Int) (b : Int) = (y : Int) ∧ y = f % b := ⟨f % b, rfl, rfl⟩
            have hxa : x < nk := by rw [hxe, Nat.div_lt_iff_lt_mul (by omega)]; exact hlt2
            have hyb : y < b := by rw [hye]; exact Nat.mod_lt _ (by omega)
            have hcp2 := (hbw.cell (p := ⟨bA, oA + k, none⟩) (by simp; omega)).trans hcp
            obtain ⟨bp, op, uv, rfl, _, hbp, huv, hcu⟩ := (hrp.below hbw (by omega)).at_ (show x < nk by omega)
            obtain ⟨hu0, huN⟩ := r1.out uv (List.mem_of_getElem? huv)
            obtain ⟨u, rfl⟩ := Int.eq_ofNat_of_zero_le hu0
            have i0 : (0 : Int) ≤ (x : Int) := by omega
            have i1 : (x : Int) < (nk : Int) := by omega
            obtain ⟨z, hz, hzz⟩ : ∃ z : Nat, (u : Int) * (b : Int) = (z : Int) ∧ z = u * b := ⟨u * b, by rw [Int.natCast_mul], rfl⟩
            have hval : besA pr b f = (z : Int) + (y : Int) := by unfold besA; rw [← hxe, ← hye, List.getD_eq_getElem?_getD, huv]; simp [hzz]
            have hzN : z + y < N := by have := pair_lt (a := nk) (b := b) (x := u) (y := y) (by omega) hyb; rw [← hzz, hN.out] at this; exact this
            obtain ⟨v, hv, hvv⟩ : ∃ v : Nat, (z : Int) + (y : Int) = (v : Int) ∧ v < N := ⟨z + y, by omega, hzN⟩
            rw [hv] at hval
            have hrs : ((List.range (f + 1)).map (besA pr b)).map (Value.int .i64) = (((List.range f).map (besA pr b)).map (Value.int .i64)) ++ [.int .i64 ((z : Int) + (y : Int))] := by rw [hv, List.range_succ, List.map_append, List.map_append, List.map_singleton, hval]; rfl
            have hown' : Hid ((wr.alloc (.cells #[.int .i64 ((z : Int) + (y : Int))] 2)).drew.ownsRow wo.heap.size 2 1 (.slice A3 f c3) f (((List.range f).map (besA pr b)).map (Value.int .i64))) := Lib.hid (ho.alloc _)
            have hnew' : Hid (∀ q v, [Value.int .i64 ((z : Int) + (y : Int))][q]? = some v → (wr.alloc (.cells #[.int .i64 ((z : Int) + (y : Int))] 2)).drew.cell? ((⟨wr.heap.size, 0, none⟩ : Addr).add q) = some v) := Lib.hid (cell_one_of (heap_new _ _ _ rfl))
            have hml : Hid (f + 1 ≤ maxLen) := Lib.hid (by simp only [maxLen]; omega)
            have hbs : Hid (wo.heap.size ≤ (wr.alloc (.cells #[.int .i64 ((z : Int) + (y : Int))] 2)).drew.heap.size) := Lib.hid (by simp; omega)
            have hBa : Hid (Below wo.heap.size wo (wr.alloc (.cells #[.int .i64 ((z : Int) + (y : Int))] 2)).drew) := Lib.hid (below_drw (hbi.alloc hzi _))
            have hlo6 : Hid (∀ q, (Value.slice A3 f c3).ownBlock = some q → wo.heap.size ≤ q) := Lib.hid (fun q hq => (ho.lt q hq).1)
            replace hrs := Lib.hid hrs
            replace hxe := Lib.hid hxe
            replace hye := Lib.hid hye
            replace huv := Lib.hid huv
            replace hzz := Lib.hid hzz
            replace hval := Lib.hid hval
            have hwx : IntKind.i64.wrap (x : Int) = (x : Int) := by rw [IntKind.wrap_i64]; omega
            have hwy : IntKind.i64.wrap (y : Int) = (y : Int) := by rw [IntKind.wrap_i64]; omega
            have hwz : IntKind.i64.wrap (z : Int) = (z : Int) := by rw [IntKind.wrap_i64]; omega
            have hwv : IntKind.i64.wrap ((z : Int) + (y : Int)) = (z : Int) + (y : Int) := by rw [IntKind.wrap_i64]; omega
            clear ho hv hlt2 hzN
            have dka : decide ((k : Int) < (m : Int)) = true := by simp; omega
            go_wp2_with fail
            go_region_law? (refine step_append_lies _ (by rfl) (.tmp 40) (.tmp 57) 46 (by rfl) wo.heap.size 2 j0 (.int .i64 0) 1 8 Tryz.underlying46 hj0 hy0 hy1 hy2 rfl (by decide) (.slice A3 f c3) f (((List.range f).map (besA pr b)).map (Value.int .i64)) (by rfl) hown'.out ⟨wr.heap.size, 0, none⟩ 1 1 [.int .i64 ((z : Int) + (y : Int))] (by rfl) rfl hnew'.out (by simp [Value.oneCell']) (by decide) hml.out (by omega) hbs.out (wr.heap.size + 1) (by simp) ?_; intro g4 c4 w7 ho7 hg7 hor7 hlt7; have f7 : Below wo.heap.size wo w7 := hBa.out.grown hg7 hbs.out hlo6.out; rw [← hrs.out] at ho7)
            all_goals
              have z7 := f7.size
              clear hown' hnew' hbs hBa hlo6 hg7 hor7
              go_wp2_with fail
              go_roundw
              case measure => simp [intOf]; omega
              case rel => exact ⟨f + 1, _, c4, by omega, rfl, by go_num, ho7, z7, f7⟩
          · obtain rfl : N = f := by omega
            have g9w := (hbi.block w2.heap.size (by omega)).trans g9.out
            have C9 : wr.cell? ⟨w2.heap.size, 0, none⟩ = some (.slice A2 k c2) := by rw [cell_of_row _ _ _ _ _ _ g9w]; rfl
            have F9 : wr.frozen? ⟨w2.heap.size, 0, none⟩ = false := frozen_of_row _ _ _ _ _ g9w
            have o9 := ho9.below hbi (Nat.le_refl _)
            have r9 := hrows.keep (Same.of_below hbi (Nat.le_refl _))
            have orow := Own.of_row ho
            have htk := take_succ_of hrow.out
            replace htk := Lib.hid htk
            have hz3 := hb9.size
            replace g9w := Lib.hid g9w
            clear ho b0 hrows ho9 g9
            go_wp2_with (at_builtin; refine wpList_append1 wr rfl (.tmp 83) (.tmp 85) 24 rfl (w2.heap.size + 1) 46 s0 (.slice none 0 0) 24 Tryz.underlying24 hs0 hu0 hu1 hu2 rfl (by omega) A2 k c2 _ (.slice A3 N c3) rfl o9.1 _ rfl rfl rfl (by omega) (by omega) ?_)
            intro g4 c4 w5 ho5 hg5 hlo5 hlt5 hor5
            have g5 := (hg5.block w2.heap.size (by omega) (fun e => by have := (o9.1.lt _ e.symm).1; omega)).trans g9w.out
            have C5 : w5.cell? ⟨w2.heap.size, 0, none⟩ = some (.slice A2 k c2) := by rw [cell_of_row _ _ _ _ _ _ g5]; rfl
            have F5 : w5.frozen? ⟨w2.heap.size, 0, none⟩ = false := frozen_of_row _ _ _ _ _ g5
            have hrw5 := (r9.kept_ty o9.1 (by decide) hg5).snoc (orow.kept_ty o9.1 (by decide) hg5) (by omega) (by omega)
            have hz5 := hg5.size
            have hb5 : Below w2.heap.size w2 w5 := hbw.grown hg5 (by omega) (fun q hq => by have := (o9.1.lt q hq).1; omega)
            have ho5p := Own.of_row ho5
            replace g5 := Lib.hid g5
            clear C9 F9 o9 r9 orow hg5 ho5 E0 E1 D0 D1
            go_wp2_with fail
            go_roundw
            case measure => simp [intOf]; omega
            case rel =>
              refine ⟨k + 1, vs ++ [.slice A3 N c3], _, c4, by omega, Lib.hid (by simp [hvk.out]), by go_num, Lib.hid ?_, (ho5p.far (.inl (by simp)) _).more (Nat.le_refl _) (by simp), ?_, by simp; omega, hb5.setCell (by simp) _⟩
              · have := heap_setCell_same _ _ 0 _ _ (Value.slice (some ⟨g4, 0, none⟩) (k + 1) c4) g5.out
                simpa using this
              · rw [htk.out]
                exact (hrw5.keep (same_set _ _ _ _ _ (.inl (by simp)))).more (Nat.le_refl _) (by simp; omega)
      · skip
        obtain ⟨k2, hk2⟩ : ∃ k2, k2 + m = k := ⟨k - m, by omega⟩
        have hk2m : k2 < m' := by omega
        have hw2 : IntKind.i64.wrap ((k : Int) - (m : Int)) = (k2 : Int) := by rw [IntKind.wrap_i64]; omega
        obtain ⟨bA, oA, Ak, nk, ck, pr, rfl, _, hbA, hpr, hcp, hrp⟩ := hR2'.out.at_ (show k2 < m' by omega)
        have hprm := List.mem_of_getElem? hpr
        obtain ⟨r1, r2, r3⟩ := hy.out pr hprm
        have hnk : nk = b := by have := hrp.len; omega
        subst hnk
        have hrow : Hid ((besL xss yss a nk)[k]? = some ((List.range N).map (besB pr nk))) := Lib.hid (by unfold besL; rw [List.getElem?_append_right (by simp; omega), List.getElem?_map, List.length_map, hl, show k - m = k2 by omega, hpr, hN.out]; rfl)
        replace r1 := Lib.hid r1
        replace r3 := Lib.hid r3
        replace hpr := Lib.hid hpr
        replace hprm := Lib.hid hprm
        clear r2
        go_wp2_with fail
        go_loopw [9, 10] (fun rv fv wq => ∃ (f : Nat) (A3 : Option Addr) (c3 : Nat), f ≤ N ∧ rv = .slice A3 f c3 ∧ fv = .int .i64 f ∧ wq.ownsRow wo.heap.size 2 1 (.slice A3 f c3) f (((List.range f).map (besB pr nk)).map (Value.int .i64)) ∧ wo.heap.size ≤ wq.heap.size ∧ Below wo.heap.size wo wq) (fun _ fv _ => N - (intOf fv).toNat)
        case atStart => exact ⟨0, _, 0, by omega, rfl, rfl, by simpa using b0.1, by simp, (Below.refl _ _).alloc (Nat.le_refl _) _⟩
        case round =>
          obtain ⟨f, A3, c3, hf, rfl, rfl, ho, hzi, hbi⟩ := hrel
          have hbw := hb9.trans (hbi.mono (by omega))
          have E0 := (hbw.cell (p := ⟨w.heap.size, 0, none⟩) (by simp; omega)).trans C0
          have E1 := (hbw.cell (p := ⟨w.heap.size + 1, 0, none⟩) (by simp; omega)).trans C1
          by_cases hlt : f < N
          · have hlt2 : f < a * nk := by have := hN.out; omega
            obtain ⟨x, htd, hxe⟩ : ∃ x : Nat, Int.tdiv (f : Int) (nk : Int) = (x : Int) ∧ x = f / nk := ⟨f / nk, rfl, rfl⟩
            obtain ⟨y, htm, hye⟩ : ∃ y : Nat, Int.tmod (f : Int) (nk : Int) = (y : Int) ∧ y = f % nk := ⟨f % nk, rfl, rfl⟩
            have hxa : x < a := by rw [hxe, Nat.div_lt_iff_lt_mul (by omega)]; exact hlt2
            have hyb : y < nk := by rw [hye]; exact Nat.mod_lt _ (by omega)
            have hcp2 := (hbw.cell (p := ⟨bA, oA + k2, none⟩) (by simp; omega)).trans hcp
            obtain ⟨bp, op, uv, rfl, _, hbp, huv, hcu⟩ := (hrp.below hbw (by omega)).at_ (show y < nk by omega)
            obtain ⟨hu0, huN⟩ := r1.out uv (List.mem_of_getElem? huv)
            obtain ⟨u, rfl⟩ := Int.eq_ofNat_of_zero_le hu0
            have i0 : (0 : Int) ≤ (y : Int) := by omega
            have i1 : (y : Int) < (nk : Int) := by omega
            obtain ⟨z, hz, hzz⟩ : ∃ z : Nat, (x : Int) * (nk : Int) = (z : Int) ∧ z = x * nk := ⟨x * nk, by rw [Int.natCast_mul], rfl⟩
            have hval : besB pr nk f = (z : Int) + (u : Int) := by unfold besB; rw [← hxe, ← hye, List.getD_eq_getElem?_getD, huv]; simp [hzz]
            have hzN : z + u < N := by have := pair_lt (a := a) (b := nk) (x := x) (y := u) hxa (by omega); rw [← hzz, hN.out] at this; exact this
            obtain ⟨v, hv, hvv⟩ : ∃ v : Nat, (z : Int) + (u : Int) = (v : Int) ∧ v < N := ⟨z + u, by omega, hzN⟩
            rw [hv] at hval
            have hrs : ((List.range (f + 1)).map (besB pr nk)).map (Value.int .i64) = (((List.range f).map (besB pr nk)).map (Value.int .i64)) ++ [.int .i64 ((z : Int) + (u : Int))] := by rw [hv, List.range_succ, List.map_append, List.map_append, List.map_singleton, hval]; rfl
            have hown' : Hid ((wr.alloc (.cells #[.int .i64 ((z : Int) + (u : Int))] 2)).drew.ownsRow wo.heap.size 2 1 (.slice A3 f c3) f (((List.range f).map (besB pr nk)).map (Value.int .i64))) := Lib.hid (ho.alloc _)
            have hnew' : Hid (∀ q v, [Value.int .i64 ((z : Int) + (u : Int))][q]? = some v → (wr.alloc (.cells #[.int .i64 ((z : Int) + (u : Int))] 2)).drew.cell? ((⟨wr.heap.size, 0, none⟩ : Addr).add q) = some v) := Lib.hid (cell_one_of (heap_new _ _ _ rfl))
            have hml : Hid (f + 1 ≤ maxLen) := Lib.hid (by simp only [maxLen]; omega)
            have hbs : Hid (wo.heap.size ≤ (wr.alloc (.cells #[.int .i64 ((z : Int) + (u : Int))] 2)).drew.heap.size) := Lib.hid (by simp; omega)
            have hBa : Hid (Below wo.heap.size wo (wr.alloc (.cells #[.int .i64 ((z : Int) + (u : Int))] 2)).drew) := Lib.hid (below_drw (hbi.alloc hzi _))
            have hlo6 : Hid (∀ q, (Value.slice A3 f c3).ownBlock = some q → wo.heap.size ≤ q) := Lib.hid (fun q hq => (ho.lt q hq).1)
            replace hrs := Lib.hid hrs
            replace hxe := Lib.hid hxe
            replace hye := Lib.hid hye
            replace huv := Lib.hid huv
            replace hzz := Lib.hid hzz
            replace hval := Lib.hid hval
            have hwx : IntKind.i64.wrap (x : Int) = (x : Int) := by rw [IntKind.wrap_i64]; omega
            have hwy : IntKind.i64.wrap (y : Int) = (y : Int) := by rw [IntKind.wrap_i64]; omega
            have hwz : IntKind.i64.wrap (z : Int) = (z : Int) := by rw [IntKind.wrap_i64]; omega
            have hwv : IntKind.i64.wrap ((z : Int) + (u : Int)) = (z : Int) + (u : Int) := by rw [IntKind.wrap_i64]; omega
            clear ho hv hlt2 hzN
            have dka : decide ((k : Int) < (m : Int)) = false := by simp; omega
            go_wp2_with fail
            go_region_law? (refine step_append_lies _ (by rfl) (.tmp 59) (.tmp 80) 46 (by rfl) wo.heap.size 2 j0 (.int .i64 0) 1 8 Tryz.underlying46 hj0 hy0 hy1 hy2 rfl (by decide) (.slice A3 f c3) f (((List.range f).map (besB pr nk)).map (Value.int .i64)) (by rfl) hown'.out ⟨wr.heap.size, 0, none⟩ 1 1 [.int .i64 ((z : Int) + (u : Int))] (by rfl) rfl hnew'.out (by simp [Value.oneCell']) (by decide) hml.out (by omega) hbs.out (wr.heap.size + 1) (by simp) ?_; intro g4 c4 w7 ho7 hg7 hor7 hlt7; have f7 : Below wo.heap.size wo w7 := hBa.out.grown hg7 hbs.out hlo6.out; rw [← hrs.out] at ho7)
            all_goals
              have z7 := f7.size
              clear hown' hnew' hbs hBa hlo6 hg7 hor7
              go_wp2_with fail
              go_roundw
              case measure => simp [intOf]; omega
              case rel => exact ⟨f + 1, _, c4, by omega, rfl, by go_num, ho7, z7, f7⟩
          · obtain rfl : N = f := by omega
            have g9w := (hbi.block w2.heap.size (by omega)).trans g9.out
            have C9 : wr.cell? ⟨w2.heap.size, 0, none⟩ = some (.slice A2 k c2) := by rw [cell_of_row _ _ _ _ _ _ g9w]; rfl
            have F9 : wr.frozen? ⟨w2.heap.size, 0, none⟩ = false := frozen_of_row _ _ _ _ _ g9w
            have o9 := ho9.below hbi (Nat.le_refl _)
            have r9 := hrows.keep (Same.of_below hbi (Nat.le_refl _))
            have orow := Own.of_row ho
            have htk := take_succ_of hrow.out
            replace htk := Lib.hid htk
            have hz3 := hb9.size
            replace g9w := Lib.hid g9w
            clear ho b0 hrows ho9 g9
            go_wp2_with (at_builtin; refine wpList_append1 wr rfl (.tmp 83) (.tmp 85) 24 rfl (w2.heap.size + 1) 46 s0 (.slice none 0 0) 24 Tryz.underlying24 hs0 hu0 hu1 hu2 rfl (by omega) A2 k c2 _ (.slice A3 N c3) rfl o9.1 _ rfl rfl rfl (by omega) (by omega) ?_)
            intro g4 c4 w5 ho5 hg5 hlo5 hlt5 hor5
            have g5 := (hg5.block w2.heap.size (by omega) (fun e => by have := (o9.1.lt _ e.symm).1; omega)).trans g9w.out
            have C5 : w5.cell? ⟨w2.heap.size, 0, none⟩ = some (.slice A2 k c2) := by rw [cell_of_row _ _ _ _ _ _ g5]; rfl
            have F5 : w5.frozen? ⟨w2.heap.size, 0, none⟩ = false := frozen_of_row _ _ _ _ _ g5
            have hrw5 := (r9.kept_ty o9.1 (by decide) hg5).snoc (orow.kept_ty o9.1 (by decide) hg5) (by omega) (by omega)
            have hz5 := hg5.size
            have hb5 : Below w2.heap.size w2 w5 := hbw.grown hg5 (by omega) (fun q hq => by have := (o9.1.lt q hq).1; omega)
            have ho5p := Own.of_row ho5
            replace g5 := Lib.hid g5
            clear C9 F9 o9 r9 orow hg5 ho5 E0 E1 D0 D1
            go_wp2_with fail
            go_roundw
            case measure => simp [intOf]; omega
            case rel =>
              refine ⟨k + 1, vs ++ [.slice A3 N c3], _, c4, by omega, Lib.hid (by simp [hvk.out]), by go_num, Lib.hid ?_, (ho5p.far (.inl (by simp)) _).more (Nat.le_refl _) (by simp), ?_, by simp; omega, hb5.setCell (by simp) _⟩
              · have := heap_setCell_same _ _ 0 _ _ (Value.slice (some ⟨g4, 0, none⟩) (k + 1) c4) g5.out
                simpa using this
              · rw [htk.out]
                exact (hrw5.keep (same_set _ _ _ _ _ (.inl (by simp)))).more (Nat.le_refl _) (by simp; omega)
    · have d0 : decide ((k : Int) < (m : Int) + (m' : Int)) = false := by simp; omega
      have hkm' : k = m + m' := by omega
      have hm1 := hR2.out.max
      have hm2 := hR2'.out.max
      have hz3 := hb9.size
      have g1 := (hb9.block (w.heap.size + 1 + 1) (by omega)).trans q2.out
      have C2 : wr.cell? ⟨w.heap.size + 1 + 1, 0, none⟩ = some (.slice none 0 0) := by rw [cell_of_row _ _ _ _ _ _ g1]; rfl
      have F2 : wr.frozen? ⟨w.heap.size + 1 + 1, 0, none⟩ = false := frozen_of_row _ _ _ _ _ g1
      have C9 : wr.cell? ⟨w2.heap.size, 0, none⟩ = some (.slice A2 k c2) := by rw [cell_of_row _ _ _ _ _ _ g9.out]; rfl
      replace g1 := Lib.hid g1
      replace hkm' := Lib.hid hkm'
      go_wp2_with fail
      have g2 := heap_setCell_same _ _ 0 _ _ (Value.slice A2 k c2) g1.out
      (try simp only [Exit.inBlock, Exit.then])
      refine bodyPost_ret (v := .agg #[.slice A2 k c2]) ?_ rfl ?_
      · exact results_cell_row rfl _ _ (w.heap.size + 1 + 1) 26 #[.slice A2 k c2] (0, 0) _ rfl (by simpa using g2) Tryz.underlying26 rfl (by kernel_rfl)
      · have e : (besL xss yss a b).take k = besL xss yss a b := List.take_of_length_le (by have := hbl.out; have := hkm'.out; omega)
        rw [e] at hrows
        rw [← hkm'.out]
        refine ⟨A2, c2, rfl, ⟨vs, ?_, ?_⟩, (hBw.trans (hb9.mono (by omega))).setCell (by simp; omega) _⟩
        · exact (ho9.keep (same_set _ _ _ _ _ (.inl (by simp; omega)))).more (by omega) (by simp)
        · exact (hrows.keep (same_set _ _ _ _ _ (.inl (by simp; omega)))).more (by omega) (by simp)
end Go.Proofs.YtcjnhiglfkcmiaaGreatDoor
