/- Merged texts: what the statement wants besides (FwP Que Dist Fw FwX DistX Dia PthP). No condition but those that each lemma names. -/
import Derived.ArgAppend
import Derived.Test.YtdaljeghdiknpaaGd2
/- FwP -/
namespace Go.Proofs.Ytdaljeghdiknpaa
set_option linter.unusedVariables false
set_option maxRecDepth 100000
theorem all_take_succ' {α : Type} {xs : List α} {k : Nat} {x : α} {f : α → Bool} (h : xs[k]? = some x) : (xs.take (k + 1)).all f = ((xs.take k).all f && f x) := by
  rw [take_succ_of h, List.all_append]; simp
/-- the first move that leads nearer -/
def nearB (D : List Int) (f : Int) (p : List Int) : Bool := decide (dat D (at' p f) < dat D f)
def stepK (xss : List (List Int)) (D : List Int) (f : Int) : Nat := xss.findIdx (nearB D f)
def fwL (xss : List (List Int)) (D : List Int) : Nat → Int → List Int
  | 0, _ => []
  | d + 1, f => (stepK xss D f : Int) :: fwL xss D d (at' (xss.getD (stepK xss D f) []) f)
theorem fwL_length (xss : List (List Int)) (D : List Int) : ∀ (d : Nat) (f : Int), (fwL xss D d f).length = d := by
  intro d
  induction d with
  | zero => intro f; rfl
  | succ d ih => intro f; unfold fwL; rw [List.length_cons, ih]
/-- each move is its own inverse -/
def Invo (xss : List (List Int)) (n : Nat) : Prop := ∀ p ∈ xss, ∀ z : Int, 0 ≤ z → z < n → at' p (at' p z) = z
theorem near_iff {xss : List (List Int)} {n : Nat} {x f : Int} {D p : List Int} (hs : SysOf xss n) (hi : Invo xss n) (h : DFin xss n x D) (h0 : 0 ≤ f) (h1 : f < n) (hp : p ∈ xss) : dat D (at' p f) < dat D f ↔ dat D (at' p f) = dat D f - 1 := by
  have hr := at'_rng (hs p hp).1 (hs p hp).2.2 h0 h1
  have h2 := h.lip (at' p f) p hr.1 hr.2 hp
  rw [hi p hp f h0 h1] at h2
  constructor
  · intro h3; omega
  · intro h3; omega
theorem near_ex {xss : List (List Int)} {n : Nat} {x f : Int} {D : List Int} (hs : SysOf xss n) (hi : Invo xss n) (h : DFin xss n x D) (h0 : 0 ≤ f) (h1 : f < n) (hne : f ≠ x) : ∃ p ∈ xss, nearB D f p = true := by
  obtain ⟨y, p, hp, y0, y1, e, hd⟩ := h.par f h0 h1 hne
  refine ⟨p, hp, ?_⟩
  unfold nearB
  rw [e, hi p hp y y0 y1, ← e]
  exact decide_eq_true (by omega)
theorem dist_zero {xss : List (List Int)} {n : Nat} {x f : Int} {D : List Int} (h : DFin xss n x D) (h0 : 0 ≤ f) (h1 : f < n) : f = x ↔ dat D f = 0 := by
  constructor
  · rintro rfl; exact h.zero
  · intro hd
    by_cases e : f = x
    · exact e
    · obtain ⟨y, p, _, y0, y1, _, hd2⟩ := h.par f h0 h1 e
      have := h.rng y y0 y1
      omega
theorem stepK_eq {xss : List (List Int)} {D p : List Int} {f : Int} {k : Nat} (hp : xss[k]? = some p) (hn : nearB D f p = true) (hall : (xss.take k).all (fun q => !(nearB D f q)) = true) : stepK xss D f = k := by
  have hk := (List.getElem?_eq_some_iff.1 hp).1
  have hpe := (List.getElem?_eq_some_iff.1 hp).2
  unfold stepK
  rw [List.findIdx_eq hk]
  refine ⟨by rw [hpe]; exact hn, fun j hj => ?_⟩
  have := List.all_eq_true.1 hall (xss[j]) (by rw [List.mem_take_iff_getElem]; exact ⟨j, by omega, rfl⟩)
  simpa using this
theorem fwL_step {xss : List (List Int)} {D p : List Int} {f : Int} {k d : Nat} (hp : xss[k]? = some p) (hk : stepK xss D f = k) : fwL xss D (d + 1) f = (k : Int) :: fwL xss D d (at' p f) := by
  show (stepK xss D f : Int) :: fwL xss D d (at' (xss.getD (stepK xss D f) []) f) = _
  rw [hk, getD_some hp]
theorem ManP.invo {xss : List (List Int)} (h : ManP xss) : Invo xss (flg xss) := by
  intro p hp z z0 z1
  obtain ⟨_, hf, hl⟩ := mvB_iff.1 (h.mv p hp)
  unfold freeB at hf
  have h1 := (of_decide_eq_true hf z.toNat (by omega)).2
  rw [Int.toNat_of_nonneg z0] at h1
  exact h1
end Go.Proofs.Ytdaljeghdiknpaa
/- Que -/
namespace Go.Proofs.Ytdaljeghdiknpaa
open Go.RowKit
set_option linter.unusedVariables false
set_option maxRecDepth 100000
/-- '.slice A n c' holds vs; it lies in a block from lo on; what lies behind it, up to c, may be written -/
def Que (w : World) (lo : Nat) (A : Option Addr) (n c : Nat) (vs : List Value) : Prop :=
  vs.length = n ∧ n ≤ c ∧ c ≤ maxLen ∧ ∃ g o, A = some ⟨g, o, none⟩ ∧ lo ≤ g ∧ g < w.heap.size ∧ (∀ k v, vs[k]? = some v → w.cell? ⟨g, o + k, none⟩ = some v) ∧ (∀ k, k < c → (w.cell? ⟨g, o + k, none⟩).isSome = true) ∧ ∀ k, w.frozen? ⟨g, k, none⟩ = false
section
variable {w w' : World} {lo hi n c : Nat} {T : TypeId} {A : Option Addr} {vs : List Value}
theorem Que.keep (h : Que w lo A n c vs) (hs : ∀ k, lo ≤ k → k < w.heap.size → w'.heap[k]? = w.heap[k]?) (hz : w.heap.size ≤ w'.heap.size) : Que w' lo A n c vs := by
  obtain ⟨h1, h2, h3, g, o, e, h4, h5, h6, h7, h8⟩ := h
  refine ⟨h1, h2, h3, g, o, e, h4, by omega, fun k v hv => ?_, fun k hk => ?_, fun k => ?_⟩
  · exact (World.cell?_of_block (w := w) (a := ⟨g, o + k, none⟩) (hs g h4 h5)).trans (h6 k v hv)
  · rw [World.cell?_of_block (w := w) (a := ⟨g, o + k, none⟩) (hs g h4 h5)]; exact h7 k hk
  · rw [World.frozen?_of_block (w := w) (a := ⟨g, k, none⟩) (hs g h4 h5)]; exact h8 k
theorem Que.far (h : Que w lo A n c vs) {p : Addr} (hp : p.block < lo) (u : Value) : Que (w.setCell p u) lo A n c vs :=
  h.keep (fun k h1 h2 => Below.heap_setCell _ _ _ _ (by omega)) (by simp)
theorem Que.drewN (h : Que w lo A n c vs) (k : Nat) : Que (w.drewN k) lo A n c vs := h
theorem Que.len (h : Que w lo A n c vs) : vs.length = n := h.1
theorem Que.cap (h : Que w lo A n c vs) : n ≤ c := h.2.1
theorem Que.max (h : Que w lo A n c vs) : c ≤ 9223372036854775807 := by have := h.2.2.1; simp only [maxLen] at this; omega
theorem Que.more {lo' : Nat} (h : Que w lo A n c vs) (h' : lo' ≤ lo) : Que w lo' A n c vs := by
  obtain ⟨h1, h2, h3, g, o, e, h4, h5, h6, h7, h8⟩ := h
  exact ⟨h1, h2, h3, g, o, e, by omega, h5, h6, h7, h8⟩
theorem Que.addr (h : Que w lo A n c vs) : ∃ g o, A = some ⟨g, o, none⟩ ∧ lo ≤ g ∧ g < w.heap.size := by
  obtain ⟨_, _, _, g, o, e, h4, h5, _⟩ := h
  exact ⟨g, o, e, h4, h5⟩
theorem Que.cell {g o k : Nat} {v : Value} (h : Que w lo (some ⟨g, o, none⟩) n c vs) (hv : vs[k]? = some v) : w.cell? ⟨g, o + k, none⟩ = some v := by
  obtain ⟨_, _, _, g', o', e, _, _, h6, _⟩ := h
  injection e with e; injection e with e1 e2 _; subst e1; subst e2
  exact h6 k v hv
/-- the first element is cut away -/
theorem Que.pop {g o : Nat} {v : Value} {vs : List Value} {A' : Option Addr} (h : Que w lo (some ⟨g, o, none⟩) (n + 1) c (v :: vs)) (hA : A' = some ⟨g, o + 1, none⟩ ∨ (c = 1 ∧ A' = some ⟨g, o, none⟩)) : Que w lo A' n (c - 1) vs := by
  obtain ⟨h1, h2, h3, g', o', e, h4, h5, h6, h7, h8⟩ := h
  injection e with e; injection e with e1 e2 _; subst e1; subst e2
  simp at h1
  refine ⟨h1, by omega, by omega, ?_⟩
  rcases hA with rfl | ⟨rfl, rfl⟩
  · refine ⟨g, o + 1, rfl, h4, h5, fun k u hu => ?_, fun k hk => ?_, h8⟩
    · rw [show o + 1 + k = o + (k + 1) by omega]; exact h6 (k + 1) u (by simpa using hu)
    · rw [show o + 1 + k = o + (k + 1) by omega]; exact h7 (k + 1) (by omega)
  · have : vs = [] := List.eq_nil_of_length_eq_zero (by omega)
    subst this
    exact ⟨g, o, rfl, h4, h5, fun k u hu => by simp at hu, fun k hk => by omega, h8⟩
theorem Que.of_row {g : Nat} (h : w.ownsRow lo T 1 (.slice (some ⟨g, 0, none⟩) n c) n vs) : Que w lo (some ⟨g, 0, none⟩) n c vs := by
  have hl := h.1
  rcases h.2 with ⟨hv, _⟩ | ⟨g', cap, cur, hv, hb, hg, hnc, hcm, hcs, htake⟩
  · cases hv
  · injection hv with e1 _ e3
    injection e1 with e1
    injection e1 with e1 _ _
    subst e1; subst e3
    refine ⟨by omega, hnc, hcm, g, 0, rfl, hb, (Array.getElem?_eq_some_iff.1 hg).1, fun k v hv => ?_, fun k hk => ?_, fun k => frozen_of_row w g k cur T hg⟩
    · rw [Nat.zero_add, cell_of_row w g k cur T _ hg]
      have hk := (List.getElem?_eq_some_iff.1 hv).1
      rw [← htake, List.getElem?_take_of_lt (by omega)] at hv
      simpa using hv
    · rw [Nat.zero_add, cell_of_row w g k cur T _ hg]
      simp; omega
theorem Que.of_own {g : Nat} (h : Own w lo hi T (some ⟨g, 0, none⟩) n c vs) : Que w lo (some ⟨g, 0, none⟩) n c vs := Que.of_row h.1
end
section
variable {P : Program}
/-- 'append(s, x)' at a queue -/
theorem wpList_appendQ (w : World) {ops : Array Oper} {rest : List Oper} {o : Oper} {a : Act} {Q : Exit → Act → World → Prop} (hgd : o.guard = none) (s x : Operand) (t : TypeId)
    (ho : o.op = .call { callee := .builtin .append, args := #[s, x], argTypes := #[t, t] })
    (lo : Nat) (e : TypeId) (i : TypeInfo) (z : Value) (bytes : Nat) (ht : P.underlying t = some (.slice e)) (hi : P.info? e = some i) (hz : i.zero = some z)
    (hsize : i.size = 1) (hby : i.bytes = bytes) (hzs : z.cells.size = 1) (hbs : bytes ≤ 64)
    (A : Option Addr) (n c : Nat) (vs : List Value) (u : Value) (hs : a.eval s = .slice A n c) (hq : Que w lo A n c vs)
    (N : Nat) (hx : a.eval x = .slice (some ⟨N, 0, none⟩) 1 1) (hN : N = w.heap.size) (h1 : u.oneCell' = true) (h63 : n < 1099511627776) (hlo : lo ≤ w.heap.size)
    (h : ∀ A' c' w', Que w' lo A' (n + 1) c' (vs ++ [u]) → Below lo w w' → wpList P ops Q rest (a.put o.dst (.slice A' (n + 1) c')) w') :
    wpList P ops Q (o :: rest) a (w.alloc (.cells #[u] e)) := by
  subst hN
  refine wpList_plain hgd fun K hK => ?_
  have hnews : ∀ j v, [u][j]? = some v → (w.alloc (.cells #[u] e)).cell? ((⟨w.heap.size, 0, none⟩ : Addr).add j) = some v := by
    intro j v hv
    have : j = 0 := by have := (List.getElem?_eq_some_iff.1 hv).1; simp at this; omega
    subst this
    simp at hv
    subst hv
    simp [Addr.add_lit]
  have hq' : Que (w.alloc (.cells #[u] e)) lo A n c vs := hq.keep (fun k _ hk => Below.heap_alloc _ _ _ hk) (by simp)
  have hb' : Below lo w (w.alloc (.cells #[u] e)) := (Below.refl _ _).alloc hlo _
  obtain ⟨q1, q2, q3, g, off, rfl, q4, q5, q6, q7, q8⟩ := hq'
  by_cases hr : n + 1 ≤ c
  · have hrun := run_append_room_cells (P := P) (w.alloc (.cells #[u] e)) t o.type e i ht hi g off n c ⟨w.heap.size, 0, none⟩ 1 1 [u] (by simp [hsize]) hnews (by simpa using h1) hr
      (fun j hj => by simp at hj; subst hj; rw [hsize]; exact q7 _ (by omega)) (fun j hj => q8 _)
    rw [hsize, Nat.mul_one] at hrun
    unfold Oper.wp execOp
    simp only [ho, resolve, invoke, builtin, Sem.run_bind, Sem.run_pure, Result.andThen_ok, List.map_toArray, List.map_cons, List.map_nil, hs, hx, hrun]
    have hset : (w.alloc (.cells #[u] e)).setCells g (off + n) [u] = (w.alloc (.cells #[u] e)).setCell ⟨g, off + n, none⟩ u := by simp [World.setCells]
    rw [hset]
    have hsome : ((w.alloc (.cells #[u] e)).cell? ⟨g, off + n, none⟩).isSome = true := q7 n (by omega)
    refine hK _ _ (h _ c _ ⟨by simp [q1], hr, q3, g, off, rfl, q4, by simpa using q5, fun k v hv => ?_, fun k hk => ?_, fun k => ?_⟩ (hb'.setCell q4 _))
    · by_cases hk : k < n
      · rw [List.getElem?_append_left (by omega)] at hv
        exact (World.cell?_setCell_other _ _ _ _ (by intro e; injection e with _ e _; omega)).trans (q6 k v hv)
      · have hk2 := (List.getElem?_eq_some_iff.1 hv).1
        simp at hk2
        have e : k = n := by omega
        subst e
        rw [List.getElem?_append_right (by omega)] at hv
        simp [q1] at hv
        subst hv
        exact World.cell?_setCell_same _ _ _ (Option.isSome_iff_exists.1 hsome).choose_spec
    · by_cases e : k = n
      · subst e; rw [World.cell?_setCell_same _ _ _ (Option.isSome_iff_exists.1 hsome).choose_spec]; rfl
      · exact (congrArg Option.isSome (World.cell?_setCell_other _ _ _ _ (by intro e'; injection e' with _ e' _; omega))).trans (q7 k (by omega))
    · rw [World.frozen?_setCell]; exact q8 k
  · obtain ⟨v', w', hrun, r1, r2⟩ := run_append_arg_grows (P := P) (w.alloc (.cells #[u] e)) t o.type e i z 1 bytes ht hi hz hsize hby hzs (by omega) ⟨g, off, none⟩ n c vs (by omega) (fun j v hv => by rw [Addr.add_lit]; exact q6 j v hv)
      ⟨w.heap.size, 0, none⟩ 1 1 [u] rfl hnews (by omega) (by simp only [maxLen]; omega) (by have := Nat.mul_le_mul (show n + 1 ≤ 1099511627776 by omega) hbs; omega)
    obtain ⟨g', c', rfl, hg1, hg2⟩ := slice_of_own r1 (by omega)
    unfold Oper.wp execOp
    simp only [ho, resolve, invoke, builtin, Sem.run_bind, Sem.run_pure, Result.andThen_ok, List.map_toArray, List.map_cons, List.map_nil, hs, hx, hrun]
    refine hK _ _ (h _ c' w' ((Que.of_row r1).more (by simp; omega)) (hb'.grown r2 (by simp; omega) (fun q hq => by cases hq)))
end
end Go.Proofs.Ytdaljeghdiknpaa
/- Dist -/
namespace Go.Proofs.Ytdaljeghdiknpaa
open Go.RowKit
set_option linter.unusedVariables false
set_option maxRecDepth 100000
theorem dat_get {d : List Int} {z : Nat} {n : Nat} (hl : d.length = n) (hz : z < n) : d[z]? = some (dat d (z : Int)) := by
  unfold dat; rw [Int.toNat_natCast]; exact get?_getD 0 (by omega)
set_option maxHeartbeats 4000000 in
theorem distances_any (b : Nat) (A : Option Addr) (n c : Nat) (xss : List (List Int)) (x : Int) (w : World) (hc : w.cell? ⟨b, 0, none⟩ = some (.slice A n c)) (hbs : b < w.heap.size) {lo hi : Nat} (h : RS w lo hi A n xss) (hhi : hi ≤ w.heap.size) (hn : 0 < n) (N : Nat) (hN : flg xss = N) (h4 : N ≤ 400) (hs : SysOf xss N) (hx0 : 0 ≤ x) (hx1 : x < N) :
    Calls Try.prog 80 #[.pointer (some ⟨b, 0, none⟩), .int .i64 x] w fun e w' => ∃ A1, e = .returned (.slice A1 N N) ∧ Own w' w.heap.size w'.heap.size 2 A1 N N ((dist xss N x).map (Value.int .i64)) ∧ Below w.heap.size w w' := by
  obtain ⟨j0, hj0, hy0, hy1, hy2⟩ := info_parts infoI
  have hm := h.max
  have hl := Lib.hid h.len
  obtain ⟨x, rfl⟩ : ∃ q : Nat, x = q := ⟨x.toNat, by omega⟩
  have hst := DMet.start (list := xss) hx0 hx1
  replace hst := Lib.hid hst
  replace hs := Lib.hid hs
  have hR := rs_alloc h hhi (.cells #[.int .i64 (-1)] 2)
  have hC : (w.alloc (.cells #[.int .i64 (-1)] 2)).cell? ⟨b, 0, none⟩ = some (.slice A n c) := (al_old _ _ _ _ hbs).trans hc
  go_enter Try.func80, Try.ntmps80
  go_wp2_with fail
  ((with_reducible refine (flags_any _ A n c xss _ hC hR hn).mono ?_); rintro e w' ⟨rfl, rfl⟩)
  rw [hN]
  go_wp2_with fail
  ((with_reducible refine (repeat_any _ _ N (-1) _ (ri_lit1 w _ _) (by simp) (by omega)).mono ?_); rintro e w1 ⟨A1, rfl, ho1, hb1⟩)
  have hB1 : Below w.heap.size w w1 := ((Below.refl _ _).alloc (Nat.le_refl _) _).trans (hb1.mono (by simp))
  replace ho1 := ho1.more (lo' := w.heap.size) (hi' := w1.heap.size) (by simp) (Nat.le_refl _)
  have hz1 := hB1.size
  clear hb1 hR hC
  obtain ⟨b1, x1, rfl, hb1, hb2, hb3, hxx, hcx, hfx⟩ := ho1.atI (k := x) (by omega)
  clear hxx
  have hC1 := (hB1.cell (p := ⟨b, 0, none⟩) (by simp; omega)).trans hc
  have hxN : x < N := by omega
  go_wp2_with fail
  have hset := (ho1.setI (b := b1) (k := x) 0).keep (same_alloc _ (.cells #[.int .i64 (x : Int)] 2) _ _ (by simp))
  have hopen := Que.of_own (own_lit1 (w1.setCell ⟨b1, x, none⟩ (.int .i64 0)) 2 (x : Int) (lo := w1.heap.size) (by simp))
  rw [World.size_setCell] at hopen
  have hbA : Below w.heap.size w ((w1.setCell ⟨b1, x, none⟩ (.int .i64 0)).alloc (.cells #[.int .i64 (x : Int)] 2)) := (hB1.setCell (by simp; omega) _).alloc (by simp; omega) _
  clear ho1 hB1 hcx hfx
  go_loopg [6] (N + 2) (fun f ov wq => ∃ (i : Nat) (d pre q : List Int) (A2 : Option Addr) (c2 : Nat), ov = .slice A2 q.length c2 ∧ f + i = N + 2 ∧ pre.length = i ∧ q.length ≤ 400 ∧ Hid (dGo xss (N + 1 - i) (d, pre ++ q) i = dGo xss (N + 1) (dstart N x) 0) ∧ Hid (DMet xss N x d (pre ++ q) i) ∧
      Own wq w.heap.size w1.heap.size 2 (some ⟨b1, 0, none⟩) N N (d.map (Value.int .i64)) ∧ Que wq w1.heap.size A2 q.length c2 (q.map (Value.int .i64)) ∧ w1.heap.size ≤ wq.heap.size ∧ Below w.heap.size w wq)
  case atStart =>
    exact ⟨0, (dstart N x).1, [], [(x : Int)], _, 1, rfl, by omega, rfl, by simp, Lib.hid rfl, Lib.hid hst.out, by simpa [dstart] using hset, hopen, by simp, hbA⟩
  case round =>
    clear hset hopen hbA hst
    obtain ⟨i, d, pre, q, A2, c2, rfl, hfn, hpl, hql, heq, hd, ho, hop, hz, hb⟩ := hrel
    have hlen := hd.out.met.len
    rw [List.length_append] at hlen
    obtain ⟨f, rfl⟩ : ∃ f, gk = f + 1 := ⟨gk - 1, by omega⟩
    rcases q with _ | ⟨y, q⟩
    · have hcq := hop.max
      go_wp2_with fail
      go_ret
      refine ⟨_, rfl, ?_, hb⟩
      have h1 := heq.out
      rw [dGo_stop (by simp; omega)] at h1
      unfold dist
      rw [← h1]
      exact ho.more (Nat.le_refl _) hz
    · have hiN : (pre ++ y :: q)[i]? = some y := by rw [List.getElem?_append_right (by omega), show i - pre.length = 0 by omega]; rfl
      have hyr := hd.out.met.rng y (mem_of_get? hiN)
      have hyd := hd.out.datn (mem_of_get? hiN)
      obtain ⟨y, rfl⟩ : ∃ q : Nat, y = q := ⟨y.toNat, by omega⟩
      obtain ⟨g2, o2, rfl, hg2, hg3⟩ := hop.addr
      have hgc := hop.cell (k := 0) (v := .int .i64 (y : Int)) rfl
      rw [Nat.add_zero] at hgc
      rw [List.length_cons] at hop hql ⊢
      have hcap := hop.cap
      have hcm := hop.max
      have hCk := (hb.cell (p := ⟨b, 0, none⟩) (by simp; omega)).trans hc
      replace hiN := Lib.hid hiN
      replace hyd := Lib.hid hyd
      go_wp2_with fail
      obtain ⟨wo, hwo⟩ : ∃ wo : World, wo = wr := ⟨_, rfl⟩
      go_loopw [6, 33] (fun ov kv wq => ∃ (k : Nat) (d2 q2 : List Int) (A3 : Option Addr) (c3 : Nat), k ≤ n ∧ kv = .int .i64 k ∧ ov = .slice A3 (q2.length + 1) c3 ∧ q2.length ≤ 400 ∧ Hid ((d2, pre ++ (y : Int) :: q2) = dStep (xss.take k) y (d, pre ++ (y : Int) :: q)) ∧ Hid (DMet xss N x d2 (pre ++ (y : Int) :: q2) i) ∧
          Own wq w.heap.size w1.heap.size 2 (some ⟨b1, 0, none⟩) N N (d2.map (Value.int .i64)) ∧ Que wq w1.heap.size A3 (q2.length + 1) c3 (((y : Int) :: q2).map (Value.int .i64)) ∧ w1.heap.size ≤ wq.heap.size ∧ Below w.heap.size w wq) (fun _ kv _ => n - (intOf kv).toNat)
      case atStart => exact ⟨0, d, q, _, c2, by omega, rfl, rfl, by omega, Lib.hid rfl, hd, ho, hop, hz, hb⟩
      case round =>
        clear ho hop hz hb hgc hwo hcap hcm hCk
        obtain ⟨k, d2, q2, A3, c3, hk, rfl, rfl, hq2, hds, hd2, ho, hop, hz, hb⟩ := hrel
        have hiN2 : (pre ++ (y : Int) :: q2)[i]? = some (y : Int) := by rw [List.getElem?_append_right (by omega), show i - pre.length = 0 by omega]; rfl
        have hlen2 := hd2.out.met.len
        rw [List.length_append, List.length_cons] at hlen2
        have hdl := hd2.out.dl
        have hyd2 := hd2.out.datn (mem_of_get? hiN2)
        by_cases hkm : k < n
        · obtain ⟨bb, oo, Ak, nk, ck, p, rfl, _, _, hp, hpc, hpr⟩ := (h.below hb hhi).at_ hkm
          have hpm := mem_of_get? hp
          obtain ⟨hpr0, hpn, hpll⟩ := hs.out p hpm
          have hnk := hpr.len
          have hynk : y < nk := by omega
          obtain ⟨bp, oq, v, rfl, _, _, hv, hvc⟩ := hpr.at_ hynk
          have hva : at' p y = v := by unfold at'; rw [Int.toNat_natCast]; exact getD_some hv
          obtain ⟨hv0, hv1⟩ := hpr0 v (mem_of_get? hv)
          obtain ⟨v, rfl⟩ : ∃ q : Nat, v = q := ⟨v.toNat, by omega⟩
          have htk := take_succ_of hp
          have hcv := ho.cellI (dat_get hdl (show v < N by omega))
          have hcy := ho.cellI (dat_get hdl (show y < N by omega))
          have hfr := ho.frz v
          have hvr := hd2.out.datr hv0 hv1
          have hyd0 := hyd2.1
          have hyd1 := hyd2.2
          have hvN : v < N := by omega
          have hyN : y < N := by omega
          have hsp := dMove_spec (s := (d2, pre ++ (y : Int) :: q2)) hs.out hd2.out hiN2 hpm
          have hmv : dMove y (d2, pre ++ (y : Int) :: q2) p = dStep (xss.take (k + 1)) y (d, pre ++ (y : Int) :: q) := by rw [htk, dStep_snoc, ← hds.out]
          unfold dMove at hmv hsp
          rw [hva] at hmv hsp
          by_cases hneg : dat d2 v < 0
          · rw [if_pos hneg] at hmv hsp
            have e2 : pre ++ (y : Int) :: q2 ++ [(v : Int)] = pre ++ (y : Int) :: (q2 ++ [(v : Int)]) := by simp
            rw [Int.toNat_natCast, e2] at hmv hsp
            have hmet2 := hsp.1
            have hlen3 := hmet2.met.len
            rw [List.length_append, List.length_cons, List.length_append, List.length_singleton] at hlen3
            have hdd : decide (dat d2 v < 0) = true := decide_eq_true hneg
            replace hmet2 := Lib.hid hmet2
            replace hmv := Lib.hid hmv
            replace hp := Lib.hid hp
            replace hv := Lib.hid hv
            replace htk := Lib.hid htk
            replace hva := Lib.hid hva
            replace hpr0 := Lib.hid hpr0
            replace hpll := Lib.hid hpll
            replace hiN2 := Lib.hid hiN2
            clear hsp e2 hdl hyd2
            generalize dat d2 v = u at *
            generalize dat d2 y = u2 at *
            have hop' := hop.far (p := ⟨b1, v, none⟩) hb2 (.int .i64 (u2 + 1))
            have hss : (wr.setCell ⟨b1, v, none⟩ (.int .i64 (u2 + 1))).heap.size = wr.heap.size := World.size_setCell _ _ _
            replace hss := Lib.hid hss
            go_wp2_with (at_builtin; refine wpList_appendQ (wr.setCell ⟨b1, v, none⟩ (.int .i64 (u2 + 1))) rfl (.tmp 54) (.tmp 56) 27 rfl w1.heap.size 2 j0 (.int .i64 0) 8 Try.underlying27 hj0 hy0 hy1 hy2 rfl (by omega) A3 (q2.length + 1) c3 _ (.int .i64 v) rfl hop' _ rfl (World.size_setCell _ _ _).symm rfl (by omega) (by rw [hss.out]; exact hz) ?_)
            intro A4 c4 w2 hop4 hbe
            have hb4 : Below w.heap.size w w2 := (hb.setCell (p := ⟨b1, v, none⟩) hb1 (.int .i64 (u2 + 1))).trans (hbe.mono hz1)
            have ho4 := (ho.setI (b := b1) (k := v) (u2 + 1)).below hbe (Nat.le_refl _)
            have hz4 : w1.heap.size ≤ w2.heap.size := by have := hbe.size; have := hss.out; omega
            clear ho hop hop' hb hpc hvc hcv hcy hfr hpr hbe
            go_wp2_with fail
            go_roundw
            case measure => simp [intOf]; omega
            case rel =>
              exact ⟨k + 1, d2.set v (u2 + 1), q2 ++ [(v : Int)], A4, c4, by omega, by go_num, by rw [List.length_append]; rfl, by simp; omega, hmv, hmet2, ho4, by simpa using hop4, hz4, hb4⟩
          · rw [if_neg hneg] at hmv hsp
            have hdd : decide (dat d2 v < 0) = false := decide_eq_false hneg
            replace hmv := Lib.hid hmv
            replace hp := Lib.hid hp
            replace hv := Lib.hid hv
            replace htk := Lib.hid htk
            replace hva := Lib.hid hva
            replace hpr0 := Lib.hid hpr0
            replace hpll := Lib.hid hpll
            replace hiN2 := Lib.hid hiN2
            clear hsp hdl hyd2
            generalize dat d2 v = u at *
            generalize dat d2 y = u2 at *
            go_wp2_with fail
            go_roundw
            case measure => simp [intOf]; omega
            case rel => exact ⟨k + 1, d2, q2, A3, c3, by omega, by go_num, rfl, hq2, hmv, hd2, ho, hop, hz, hb⟩
        · have hkm' : k = n := by omega
          subst hkm'
          obtain ⟨g4, o4, rfl, hg4, hg5⟩ := hop.addr
          have hcap := hop.cap
          have hcm := hop.max
          replace hiN2 := Lib.hid hiN2
          replace hdl := Lib.hid hdl
          replace hyd2 := Lib.hid hyd2
          have hds2 : (d2, pre ++ (y : Int) :: q2) = dStep xss y (d, pre ++ (y : Int) :: q) := by have := hds.out; rwa [List.take_of_length_le (by have := hl.out; omega)] at this
          have hnx : DMet xss N x d2 (pre ++ (y : Int) :: q2) (i + 1) := by
            have := dStep_next (s := (d, pre ++ (y : Int) :: q)) hs.out hd.out hiN.out
            rw [← hds2] at this
            exact this
          have hgo : dGo xss (N + 1 - (i + 1)) (d2, pre ++ (y : Int) :: q2) (i + 1) = dGo xss (N + 1) (dstart N x) 0 := by
            have h1 := heq.out
            rw [show N + 1 - i = (N - i) + 1 by omega, dGo_step (s := (d, pre ++ (y : Int) :: q)) hiN.out, ← hds2] at h1
            rw [← h1, show N + 1 - (i + 1) = N - i by omega]
          have e3 : pre ++ (y : Int) :: q2 = (pre ++ [(y : Int)]) ++ q2 := by simp
          rw [e3] at hnx hgo
          replace hds2 := Lib.hid hds2
          replace hnx := Lib.hid hnx
          replace hgo := Lib.hid hgo
          replace e3 := Lib.hid e3
          by_cases hc1 : c3 = 1
          · go_wp2_with fail
            go_roundg f
            case measure => omega
            case rel => exact ⟨i + 1, d2, pre ++ [(y : Int)], q2, _, c3 - 1, by rw [hc1], by omega, by simp; omega, by omega, hgo, hnx, ho, hop.pop (.inr ⟨hc1, rfl⟩), hz, hb⟩
          · go_wp2_with fail
            go_roundg f
            case measure => omega
            case rel => exact ⟨i + 1, d2, pre ++ [(y : Int)], q2, _, c3 - 1, rfl, by omega, by simp; omega, by omega, hgo, hnx, ho, hop.pop (.inl rfl), hz, hb⟩
set_option maxHeartbeats 4000000 in
theorem l02Distances_any (A : Option Addr) (n c : Nat) (xss : List (List Int)) (x : Int) (w : World) {lo hi : Nat} (h : RS w lo hi A n xss) (hhi : hi ≤ w.heap.size) (hn : 0 < n) (N : Nat) (hN : flg xss = N) (h4 : N ≤ 400) (hs : SysOf xss N) (hx0 : 0 ≤ x) (hx1 : x < N) :
    Calls Try.prog 92 #[.agg #[.slice A n c], .int .i64 x] w fun e w' => ∃ (A1 : Option Addr) (c1 : Nat), e = .returned (.slice A1 N c1) ∧ Own w' w.heap.size w'.heap.size 2 A1 N c1 ((dist xss N x).map (Value.int .i64)) ∧ Below w.heap.size w w' := by
  obtain ⟨j0, hj0, hy0, hy1, hy2⟩ := info_parts infoI
  have hm := h.max
  have hl := Lib.hid h.len
  obtain ⟨x, rfl⟩ : ∃ q : Nat, x = q := ⟨x.toNat, by omega⟩
  have hst := DMet.start (list := xss) hx0 hx1
  replace hst := Lib.hid hst
  replace hs := Lib.hid hs
  have hR := rs_alloc h hhi (.cells #[.slice A n c] 40)
  have hC : (w.alloc (.cells #[.slice A n c] 40)).cell? ⟨w.heap.size, 0, none⟩ = some (.slice A n c) := al_new _ _ _ _ rfl
  have hB : Below w.heap.size w (w.alloc (.cells #[.slice A n c] 40)) := (Below.refl _ _).alloc (Nat.le_refl _) _
  have h0 := World.ownsRow_lit (e := 2) (base := (w.alloc (.cells #[.slice A n c] 40)).heap.size) (size := 1) (w.alloc (.cells #[.slice A n c] 40)) #[] 0 (Nat.le_refl _) (by omega) rfl
  go_enter Try.func92, Try.ntmps92
  go_wp2_with fail
  obtain ⟨W1, hW⟩ : ∃ W1 : World, w.alloc (.cells #[.slice A n c] 40) = W1 := ⟨_, rfl⟩
  have hzW : W1.heap.size = w.heap.size + 1 := by rw [← hW]; simp
  rw [hW] at hR hC hB h0 ⊢
  clear hW
  have h0 : (W1.alloc (.cells #[] 2)).ownsRow W1.heap.size 2 1 (.slice (some ⟨w.heap.size + 1, 0, none⟩) 0 0) 0 (([] : List Int).map (Value.int .i64)) := by rw [← hzW]; exact h0
  go_loopw [5, 6] (fun ov iv wr => ∃ (i : Nat) (A1 : Option Addr) (c1 : Nat), i ≤ N ∧ ov = .slice A1 i c1 ∧ iv = .int .i64 i ∧ Own wr W1.heap.size wr.heap.size 2 A1 i c1 ((List.replicate i (-1)).map (Value.int .i64)) ∧ Below W1.heap.size W1 wr) (fun _ iv _ => N - (intOf iv).toNat)
  case atStart => exact ⟨0, _, 0, by omega, rfl, rfl, Own.of_row h0, (Below.refl _ _).alloc (Nat.le_refl _) _⟩
  case round =>
    clear h0
    obtain ⟨i, A1, c1, hi, rfl, rfl, ho, hb⟩ := hrel
    have hsize := hb.size
    have hCk := (hb.cell (p := ⟨w.heap.size, 0, none⟩) (by simp; omega)).trans hC
    by_cases hlt : i < N
    · go_wp2_with fail
      ((with_reducible refine (l02Flags_any A n c xss _ (hR.below hb (by omega)) (by omega) hn).mono ?_); rintro e w2 ⟨rfl, f2⟩)
      rw [hN]
      have y2 := f2.size
      have ho2 := ho.below f2 (Nat.le_refl _)
      have hb2 := below_then hb f2 (by omega)
      go_wp2_with (at_builtin; refine wpList_append1 w2 rfl (.tmp 18) (.tmp 19) 27 rfl W1.heap.size 2 j0 (.int .i64 0) 8 Try.underlying27 hj0 hy0 hy1 hy2 rfl (by omega) _ i c1 _ (.int .i64 (-1)) rfl ho2.1 _ rfl rfl rfl (by omega) (by omega) ?_)
      intro g4 c4 w3 ho3 hg3 hlo3 hlt3 hor3
      have hb4 : Below W1.heap.size W1 w3 := hb2.grown hg3 (by omega) (fun q hq => by have := (ho2.1.lt q hq).1; omega)
      clear ho hb hg3 ho2 hb2 f2 hCk
      go_wp2_with fail
      go_roundw
      case measure => simp [intOf]; omega
      case rel => exact ⟨i + 1, _, c4, by omega, rfl, by go_num, by rw [hzW, List.replicate_succ']; simpa using Own.of_row ho3, hb4⟩
    · have hin : i = N := by omega
      subst hin
      go_wp2_with fail
      ((with_reducible refine (l02Flags_any A n c xss _ (hR.below hb (by omega)) (by omega) hn).mono ?_); rintro e w1 ⟨rfl, f1⟩)
      rw [hN]
      have y1 := f1.size
      have ho1 := (ho.below f1 (Nat.le_refl _)).more (hi' := w1.heap.size) (Nat.le_refl _) y1
      have hb1 := below_then hb f1 (by omega)
      clear ho hb f1
      obtain ⟨b1, x1, rfl, hb11, hb12, hb13, hxx, hcx, hfx⟩ := ho1.atI (k := x) (by omega)
      clear hxx
      have hxN : x < i := by omega
      go_wp2_with fail
      have hset := (ho1.setI (b := b1) (k := x) 0).keep (same_alloc _ (.cells #[.int .i64 (x : Int)] 2) _ _ (by simp))
      have hopen := Que.of_own (own_lit1 (w1.setCell ⟨b1, x, none⟩ (.int .i64 0)) 2 (x : Int) (lo := w1.heap.size) (by simp))
      rw [World.size_setCell] at hopen
      have hbA : Below W1.heap.size W1 ((w1.setCell ⟨b1, x, none⟩ (.int .i64 0)).alloc (.cells #[.int .i64 (x : Int)] 2)) := (hb1.setCell (by simp; omega) _).alloc (by simp; omega) _
      clear ho1 hb1 hcx hfx
      go_loopw [7, 8] (fun ov jv wq => ∃ (j : Nat) (d out : List Int) (A2 : Option Addr) (c2 : Nat), j ≤ out.length ∧ out.length ≤ i ∧ ov = .slice A2 out.length c2 ∧ jv = .int .i64 j ∧ Hid (dGo xss (i + 1 - j) (d, out) j = dGo xss (i + 1) (dstart i x) 0) ∧ Hid (DMet xss i x d out j) ∧
          Own wq W1.heap.size w1.heap.size 2 (some ⟨b1, 0, none⟩) i c1 (d.map (Value.int .i64)) ∧ Que wq w1.heap.size A2 out.length c2 (out.map (Value.int .i64)) ∧ w1.heap.size ≤ wq.heap.size ∧ Below W1.heap.size W1 wq) (fun _ jv _ => i - (intOf jv).toNat)
      case atStart => exact ⟨0, (dstart i x).1, [(x : Int)], _, 1, by simp, by simp; omega, rfl, rfl, Lib.hid rfl, Lib.hid hst.out, by simpa [dstart] using hset, hopen, by simp, hbA⟩
      case round =>
        clear hset hopen hbA hst
        obtain ⟨j, d, out, A2, c2, hj, hln, rfl, rfl, heq, hd, ho, hop, hz, hb⟩ := hrel
        have hcap := hop.cap
        have hcm := hop.max
        by_cases hlt2 : j < out.length
        · obtain ⟨y, hy⟩ : ∃ y, out[j]? = some y := ⟨_, List.getElem?_eq_getElem hlt2⟩
          have hyr := hd.out.met.rng y (mem_of_get? hy)
          obtain ⟨y, rfl⟩ : ∃ q : Nat, y = q := ⟨y.toNat, by omega⟩
          replace hy := Lib.hid hy
          go_wp2_with fail
          obtain ⟨wo, hwo⟩ : ∃ wo : World, wo = wr := ⟨_, rfl⟩
          go_loopw [7, 9] (fun ov kv wq => ∃ (k : Nat) (d2 out2 : List Int) (A3 : Option Addr) (c3 : Nat), k ≤ n ∧ out2.length ≤ i ∧ ov = .slice A3 out2.length c3 ∧ kv = .int .i64 k ∧ Hid ((d2, out2) = dStep (xss.take k) y (d, out)) ∧ Hid (DMet xss i x d2 out2 j) ∧ Hid (out2[j]? = some (y : Int)) ∧
              Own wq W1.heap.size w1.heap.size 2 (some ⟨b1, 0, none⟩) i c1 (d2.map (Value.int .i64)) ∧ Que wq w1.heap.size A3 out2.length c3 (out2.map (Value.int .i64)) ∧ w1.heap.size ≤ wq.heap.size ∧ Below W1.heap.size W1 wq) (fun _ kv _ => n - (intOf kv).toNat)
          case atStart => exact ⟨0, d, out, _, c2, by omega, hln, rfl, rfl, Lib.hid rfl, hd, hy, ho, hop, hz, hb⟩
          case round =>
            clear ho hop hz hb hwo hcap hcm
            obtain ⟨k, d2, out2, A3, c3, hk, hln2, rfl, rfl, hds, hd2, hy2', ho, hop, hz, hb⟩ := hrel
            have hCk := (hb.cell (p := ⟨w.heap.size, 0, none⟩) (by simp; omega)).trans hC
            have hjl : j < out2.length := (List.getElem?_eq_some_iff.1 hy2'.out).1
            have hdl := hd2.out.dl
            have hyd2 := hd2.out.datn (mem_of_get? hy2'.out)
            by_cases hkm : k < n
            · obtain ⟨bb, oo, Ak, nk, ck, p, rfl, _, _, hp, hpc, hpr⟩ := (hR.below hb (by omega)).at_ hkm
              have hpm := mem_of_get? hp
              obtain ⟨hpr0, hpn, hpll⟩ := hs.out p hpm
              have hnk := hpr.len
              have hynk : y < nk := by omega
              obtain ⟨bp, oq, v, rfl, _, _, hv, hvc⟩ := hpr.at_ hynk
              have hva : at' p y = v := by unfold at'; rw [Int.toNat_natCast]; exact getD_some hv
              obtain ⟨hv0, hv1⟩ := hpr0 v (mem_of_get? hv)
              obtain ⟨v, rfl⟩ : ∃ q : Nat, v = q := ⟨v.toNat, by omega⟩
              have htk := take_succ_of hp
              have hcv := ho.cellI (dat_get hdl (show v < i by omega))
              have hcy := ho.cellI (dat_get hdl (show y < i by omega))
              have hfr := ho.frz v
              have hvr := hd2.out.datr hv0 hv1
              have hyd0 := hyd2.1
              have hyd1 := hyd2.2
              have hvN : v < i := by omega
              have hyN : y < i := by omega
              obtain ⟨g3, o3, rfl, hg3, hg4⟩ := hop.addr
              have hcap := hop.cap
              have hcm := hop.max
              have hoc := hop.cell (k := j) (v := .int .i64 (y : Int)) (by simp [hy2'.out])
              have hsp := dMove_spec (s := (d2, out2)) hs.out hd2.out hy2'.out hpm
              have hmv : dMove y (d2, out2) p = dStep (xss.take (k + 1)) y (d, out) := by rw [htk, dStep_snoc, ← hds.out]
              unfold dMove at hmv hsp
              rw [hva] at hmv hsp
              by_cases hneg : dat d2 v < 0
              · rw [if_pos hneg] at hmv hsp
                rw [Int.toNat_natCast] at hmv hsp
                have hmet2 := hsp.1
                have hget2 := hsp.2.1
                have hlen3 := hmet2.met.len
                rw [List.length_append, List.length_singleton] at hlen3
                have hdd : decide (dat d2 v < 0) = true := decide_eq_true hneg
                replace hmet2 := Lib.hid hmet2
                replace hget2 := Lib.hid hget2
                replace hmv := Lib.hid hmv
                replace hp := Lib.hid hp
                replace hv := Lib.hid hv
                replace htk := Lib.hid htk
                replace hva := Lib.hid hva
                replace hpr0 := Lib.hid hpr0
                replace hpll := Lib.hid hpll
                clear hsp hdl hyd2
                generalize dat d2 v = u at *
                generalize dat d2 y = u2 at *
                go_wp2_with fail
                go_quiet (fail)
                have hop' := (hop.drewN nq).far (p := ⟨b1, v, none⟩) hb12 (.int .i64 (u2 + 1))
                have hss : ((wr.drewN nq).setCell ⟨b1, v, none⟩ (.int .i64 (u2 + 1))).heap.size = wr.heap.size := World.size_setCell _ _ _
                replace hss := Lib.hid hss
                go_wp2_with (at_builtin; refine wpList_appendQ ((wr.drewN nq).setCell ⟨b1, v, none⟩ (.int .i64 (u2 + 1))) rfl (.tmp 66) (.tmp 68) 27 rfl w1.heap.size 2 j0 (.int .i64 0) 8 Try.underlying27 hj0 hy0 hy1 hy2 rfl (by omega) _ out2.length c3 _ (.int .i64 v) rfl hop' _ rfl (World.size_setCell _ _ _).symm rfl (by omega) (by rw [hss.out]; exact hz) ?_)
                intro A4 c4 w2 hop4 hbe
                have hb4 : Below W1.heap.size W1 w2 := ((below_dn hb nq).setCell (p := ⟨b1, v, none⟩) hb11 (.int .i64 (u2 + 1))).trans (hbe.mono (by omega))
                have ho4 : Own w2 W1.heap.size w1.heap.size 2 (some ⟨b1, 0, none⟩) i c1 ((d2.set v (u2 + 1)).map (Value.int .i64)) := (Own.setI (w := wr.drewN nq) (b := b1) (k := v) ho (u2 + 1)).below hbe (Nat.le_refl _)
                have hz4 : w1.heap.size ≤ w2.heap.size := by have := hbe.size; have := hss.out; omega
                clear ho hop hop' hb hpc hvc hcv hcy hfr hpr hbe hoc hCk
                go_wp2_with fail
                go_roundw
                case measure => simp [intOf]; omega
                case rel =>
                  exact ⟨k + 1, d2.set v (u2 + 1), out2 ++ [(v : Int)], A4, c4, by omega, by simp; omega, by rw [List.length_append]; rfl, by go_num, hmv, hmet2, hget2, ho4, by simpa using hop4, hz4, hb4⟩
              · rw [if_neg hneg] at hmv hsp
                have hdd : decide (dat d2 v < 0) = false := decide_eq_false hneg
                replace hmv := Lib.hid hmv
                replace hp := Lib.hid hp
                replace hv := Lib.hid hv
                replace htk := Lib.hid htk
                replace hva := Lib.hid hva
                replace hpr0 := Lib.hid hpr0
                replace hpll := Lib.hid hpll
                clear hsp hdl hyd2
                generalize dat d2 v = u at *
                generalize dat d2 y = u2 at *
                go_wp2_with fail
                go_quiet (fail)
                go_wp2_with fail
                go_roundw
                case measure => simp [intOf]; omega
                case rel => exact ⟨k + 1, d2, out2, _, c3, by omega, hln2, rfl, by go_num, hmv, hd2, hy2', ho, hop.drewN nq, hz, below_dn hb _⟩
            · have hkm' : k = n := by omega
              subst hkm'
              replace hdl := Lib.hid hdl
              replace hyd2 := Lib.hid hyd2
              have hds2 : (d2, out2) = dStep xss y (d, out) := by have := hds.out; rwa [List.take_of_length_le (by have := hl.out; omega)] at this
              have hnx : DMet xss i x d2 out2 (j + 1) := by
                have := dStep_next (s := (d, out)) hs.out hd.out hy.out
                rw [← hds2] at this
                exact this
              have hgo : dGo xss (i + 1 - (j + 1)) (d2, out2) (j + 1) = dGo xss (i + 1) (dstart i x) 0 := by
                have h1 := heq.out
                rw [show i + 1 - j = (i - j) + 1 by omega, dGo_step (s := (d, out)) hy.out, ← hds2] at h1
                rw [← h1, show i + 1 - (j + 1) = i - j by omega]
              replace hds2 := Lib.hid hds2
              replace hnx := Lib.hid hnx
              replace hgo := Lib.hid hgo
              go_wp2_with fail
              go_roundw
              case measure => simp [intOf]; omega
              case rel => exact ⟨j + 1, d2, out2, _, c3, by omega, hln2, rfl, by go_num, hgo, hnx, ho, hop, hz, hb⟩
        · go_wp2_with fail
          go_ret
          refine ⟨_, c1, rfl, ?_, hB.trans (hb.mono (by omega))⟩
          have h1 := heq.out
          rw [dGo_stop (by simp; omega)] at h1
          unfold dist
          rw [← h1]
          exact ho.more (by omega) hz
end Go.Proofs.Ytdaljeghdiknpaa
/- Fw -/
namespace Go.Proofs.Ytdaljeghdiknpaa
open Go.RowKit
set_option linter.unusedVariables false
set_option maxRecDepth 100000
set_option maxHeartbeats 4000000 in
theorem firstWord_any (b : Nat) (A : Option Addr) (n c : Nat) (xss : List (List Int)) (x y : Int) (w : World) (hc : w.cell? ⟨b, 0, none⟩ = some (.slice A n c)) (hbs : b < w.heap.size) {lo hi : Nat} (h : RS w lo hi A n xss) (hhi : hi ≤ w.heap.size) (hn : 0 < n) (N : Nat) (hN : flg xss = N) (h4 : N ≤ 400) (hs : SysOf xss N) (hiv : Invo xss N) (hcon : Conn xss N) (hx0 : 0 ≤ x) (hx1 : x < N) (hy0 : 0 ≤ y) (hy1 : y < N) :
    Calls Try.prog 90 #[.pointer (some ⟨b, 0, none⟩), .int .i64 x, .int .i64 y] w fun e w' => ∃ (A1 : Option Addr) (n1 c1 : Nat), e = .returned (.slice A1 n1 c1) ∧ Own w' w.heap.size w'.heap.size 2 A1 n1 c1 ((fwL xss (dist xss N y) (dat (dist xss N y) x).toNat x).map (Value.int .i64)) ∧ Below w.heap.size w w' := by
  obtain ⟨j0, hj0, hy0', hy1', hy2'⟩ := info_parts infoI
  have hl := Lib.hid h.len
  have hm := h.max
  have hdc := distances_any b A n c xss y w hc hbs h hhi hn N hN h4 hs hy0 hy1
  have hfin := dist_fin hs hcon hy0 hy1
  obtain ⟨D, hD⟩ : ∃ D, dist xss N y = D := ⟨_, rfl⟩
  rw [hD] at hdc hfin ⊢
  clear hD hcon
  have hdl := hfin.dl
  have hxr := hfin.rng x hx0 hx1
  obtain ⟨d0, hd0⟩ : ∃ d0 : Nat, dat D x = d0 := ⟨(dat D x).toNat, by omega⟩
  rw [hd0, Int.toNat_natCast]
  have hd4 : d0 < N := by omega
  clear hxr
  replace hs := Lib.hid hs
  replace hiv := Lib.hid hiv
  replace hfin := Lib.hid hfin
  replace hdl := Lib.hid hdl
  replace hd0 := Lib.hid hd0
  go_enter Try.func90, Try.ntmps90
  go_wp2_with fail
  ((with_reducible refine hdc.mono ?_); rintro e w1 ⟨A1, rfl, o1, f1⟩)
  have y1 := f1.size
  have C1 := (f1.cell (p := ⟨b, 0, none⟩) (by simp; omega)).trans hc
  have R1 := h.below f1 hhi
  clear hdc
  go_wp2_with fail
  go_loopg [8, 9] (d0 + 1) (fun gq wv fv wq => ∃ (d : Nat) (f : Int) (ys : List Int) (A2 : Option Addr) (c2 : Nat), gq = d + 1 ∧ wv = .slice A2 ys.length c2 ∧ fv = .int .i64 f ∧ 0 ≤ f ∧ f < N ∧ ys.length + d = d0 ∧ Hid (dat D f = d) ∧ Hid (ys ++ fwL xss D d f = fwL xss D d0 x) ∧ Own wq w1.heap.size wq.heap.size 2 A2 ys.length c2 (ys.map (Value.int .i64)) ∧ w1.heap.size ≤ wq.heap.size ∧ Below w1.heap.size w1 wq)
  case atStart => exact ⟨d0, x, [], none, 0, rfl, rfl, rfl, hx0, hx1, by simp, hd0, Lib.hid rfl, Own.nil, Nat.le_refl _, Below.refl _ _⟩
  case round =>
    obtain ⟨d, f, ys, A2, c2, hgd, rfl, rfl, hf0, hf1, hyd, hdf, heq, ho, hz, hb⟩ := hrel
    have hC := (hb.cell (p := ⟨b, 0, none⟩) (by simp; omega)).trans C1
    have hzero := dist_zero hfin.out hf0 hf1
    by_cases hfy : f = y
    · subst hfy
      have hd00 : d = 0 := by have := hzero.1 rfl; have := hdf.out; omega
      subst hd00
      clear hzero
      have hres := heq.out
      replace hres := Lib.hid hres
      go_wp2_with fail
      go_ret
      refine ⟨A2, ys.length, c2, rfl, ?_, f1.trans (hb.mono y1)⟩
      have e : ys ++ fwL xss D 0 f = ys := by simp [fwL]
      rw [← hres.out, e]
      exact ho.more y1 (Nat.le_refl _)
    · have hex := near_ex hs.out hiv.out hfin.out hf0 hf1 hfy
      have hfb : (f != y) = true := by simpa using hfy
      obtain ⟨d, rfl⟩ : ∃ q, d = q + 1 := ⟨d - 1, by have := mt hzero.2 hfy; have := hdf.out; omega⟩
      obtain ⟨gk', rfl⟩ : ∃ q, gk = q + 1 := ⟨gk - 1, by omega⟩
      clear hzero
      obtain ⟨f, rfl⟩ : ∃ q : Nat, f = q := ⟨f.toNat, by omega⟩
      have hfN : f < N := by omega
      replace hex := Lib.hid hex
      replace hfy := Lib.hid hfy
      go_wp2_with fail
      obtain ⟨wo, rfl⟩ : ∃ wo : World, wo = wr := ⟨_, rfl⟩
      go_loopw [8, 9, 24] (fun wv fv kv wq => ∃ k : Nat, wv = .slice A2 ys.length c2 ∧ fv = .int .i64 (f : Int) ∧ k ≤ n ∧ kv = .int .i64 k ∧ Hid ((xss.take k).all (fun q => !(nearB D (f : Int) q)) = true) ∧ Own wq w1.heap.size wq.heap.size 2 A2 ys.length c2 (ys.map (Value.int .i64)) ∧ w1.heap.size ≤ wq.heap.size ∧ Below w1.heap.size w1 wq) (fun _ _ kv _ => n - (intOf kv).toNat)
      case atStart => exact ⟨0, rfl, rfl, by omega, rfl, Lib.hid (by simp), ho, hz, hb⟩
      case round =>
        clear ho hz hb hC
        obtain ⟨k, rfl, rfl, hk, rfl, hall, ho, hz, hb⟩ := hrel
        by_cases hkm : k < n
        · obtain ⟨bb, oo, Ak, nk, ck, p, rfl, _, _, hp, hpc, hpr⟩ := (R1.below hb (by omega)).at_ hkm
          have hpm := mem_of_get? hp
          obtain ⟨hpr0, hpn, hpl⟩ := hs.out p hpm
          have hnk := hpr.len
          have hfnk : f < nk := by omega
          obtain ⟨bp, oq, v, rfl, _, hbp, hv, hvc⟩ := hpr.at_ hfnk
          have hva : at' p f = v := by unfold at'; rw [Int.toNat_natCast]; exact getD_some hv
          obtain ⟨hv0, hv1⟩ := hpr0 v (mem_of_get? hv)
          obtain ⟨v, rfl⟩ : ∃ q : Nat, v = q := ⟨v.toNat, by omega⟩
          have hvN : v < N := by omega
          have o1' := o1.below hb (Nat.le_refl _)
          obtain ⟨b1, u1, rfl, _, _, _, hu1, hcv, _⟩ := o1'.atI (k := v) hvN
          have hcf := o1'.cellI (dat_get hdl.out hfN)
          have hu1e : u1 = dat D (v : Int) := by have := dat_get hdl.out hvN; rw [hu1] at this; exact Option.some.inj this
          have hts := all_take_succ' (f := fun q => !(nearB D (f : Int) q)) hp
          have hnb : nearB D (f : Int) p = decide (dat D (v : Int) < dat D (f : Int)) := by unfold nearB; rw [hva]
          rw [hu1e] at hcv
          clear o1'
          replace hu1 := Lib.hid hu1
          replace hu1e := Lib.hid hu1e
          by_cases hlt : dat D (v : Int) < dat D (f : Int)
          · have hnt : nearB D (f : Int) p = true := by rw [hnb]; exact decide_eq_true hlt
            have hsk := stepK_eq hp hnt hall.out
            have hstep := fwL_step (d := d) hp hsk
            rw [hva] at hstep
            have hni := (near_iff hs.out hiv.out hfin.out hf0 (show (f : Int) < N by omega) hpm).1 (by rw [hva]; exact hlt)
            rw [hva, hdf.out] at hni
            have hdd : decide (dat D (v : Int) < dat D (f : Int)) = true := decide_eq_true hlt
            have heq2 : (ys ++ [(k : Int)]) ++ fwL xss D d v = fwL xss D d0 x := by rw [← heq.out, hstep]; simp
            replace heq2 := Lib.hid heq2
            have hdv : dat D (v : Int) = d := by omega
            replace hdv := Lib.hid hdv
            replace hstep := Lib.hid hstep
            replace hsk := Lib.hid hsk
            replace hnt := Lib.hid hnt
            replace hnb := Lib.hid hnb
            replace hni := Lib.hid hni
            replace hts := Lib.hid hts
            replace hp := Lib.hid hp
            replace hv := Lib.hid hv
            replace hva := Lib.hid hva
            replace hpr0 := Lib.hid hpr0
            replace hpl := Lib.hid hpl
            clear hlt
            generalize dat D (v : Int) = dv at hcv hdd
            generalize dat D (f : Int) = df at hcf hdd
            go_wp2_with fail
            go_quiet (fail)
            have ho' : Own (wr.drewN nq) w1.heap.size wr.heap.size 2 A2 ys.length c2 (ys.map (Value.int .i64)) := ho
            go_wp2_with (at_builtin; refine wpList_append1 (wr.drewN nq) rfl (.tmp 41) (.tmp 43) 27 rfl w1.heap.size 2 j0 (.int .i64 0) 8 Try.underlying27 hj0 hy0' hy1' hy2' rfl (by omega) _ ys.length c2 _ (.int .i64 k) rfl ho'.1 _ rfl rfl rfl (by omega) hz ?_)
            intro g4 c4 w3 ho3 hg3 hlo3 hlt3 hor3
            have hb3 : Below w1.heap.size w1 w3 := (below_dn hb nq).grown hg3 hz (fun q hq => by have := (ho'.1.lt q hq).1; omega)
            have ho3' := Own.of_row ho3
            have hz3 := hg3.size
            have hvc3 : w3.cell? ⟨bp, oq + f, none⟩ = some (.int .i64 (v : Int)) := (World.cell?_of_block (w := wr) (a := ⟨bp, oq + f, none⟩) (hg3.block bp (show bp < wr.heap.size by omega) (fun e => by have := (ho'.1.lt _ e.symm).1; omega))).trans hvc
            clear ho ho' hb hg3 ho3 hpc hvc hcv hcf hpr
            go_wp2_with fail
            go_roundg gk'
            case measure => omega
            case rel => exact ⟨d, v, ys ++ [(k : Int)], _, c4, by omega, by rw [List.length_append]; rfl, rfl, by omega, by omega, by simp; omega, hdv, heq2, by simpa using ho3', by have : wr.heap.size ≤ w3.heap.size := hz3; omega, hb3⟩
          · have hnt : nearB D (f : Int) p = false := by rw [hnb]; exact decide_eq_false hlt
            rw [hnt, hall.out] at hts
            have hdd : decide (dat D (v : Int) < dat D (f : Int)) = false := decide_eq_false hlt
            replace hts := Lib.hid hts
            replace hnt := Lib.hid hnt
            replace hnb := Lib.hid hnb
            replace hp := Lib.hid hp
            replace hv := Lib.hid hv
            replace hva := Lib.hid hva
            replace hpr0 := Lib.hid hpr0
            replace hpl := Lib.hid hpl
            replace hlt := Lib.hid hlt
            generalize dat D (v : Int) = dv at hcv hdd
            generalize dat D (f : Int) = df at hcf hdd
            go_wp2_with fail
            go_quiet (fail)
            go_wp2_with fail
            go_roundw
            case measure => simp [intOf]; omega
            case rel => exact ⟨k + 1, rfl, rfl, by omega, by go_num, hts, ho, hz, below_dn hb _⟩
        · exfalso
          have hkm' : k = n := by omega
          subst hkm'
          obtain ⟨p, hp, hn⟩ := hex.out
          have h1 := hall.out
          rw [List.take_of_length_le (by have := hl.out; omega)] at h1
          have := List.all_eq_true.1 h1 p hp
          rw [hn] at this
          simp at this
end Go.Proofs.Ytdaljeghdiknpaa
/- FwX -/
namespace Go.Proofs.Ytdaljeghdiknpaa
open Go.RowKit
set_option linter.unusedVariables false
set_option maxRecDepth 100000
/-- what FirstWord returns -/
noncomputable def fwF (xss : List (List Int)) (x y : Int) : List Int × Int :=
  if isManB xss = true then (if inR 0 ((flg xss : Nat) - 1 : Int) x = true then (if inR 0 ((flg xss : Nat) - 1 : Int) y = true then (if decide (dat (dist xss (flg xss) y) x ≤ 64) = true then (fwL xss (dist xss (flg xss) y) (dat (dist xss (flg xss) y) x).toNat x, 0) else ([], 3)) else ([], 2)) else ([], 2)) else ([], 1)
set_option maxHeartbeats 4000000 in
theorem s_FirstWord_any (w : World) (A : Option Addr) (n c : Nat) (xss : List (List Int)) {lo hi : Nat} (h : RS w lo hi A n xss) (hhi : hi ≤ w.heap.size) (hnc : n ≤ c) (x : Int) (hx : -9223372036854775808 ≤ x ∧ x ≤ 9223372036854775807) (y : Int) (hy : -9223372036854775808 ≤ y ∧ y ≤ 9223372036854775807) :
    Calls Try.prog 35 #[.agg #[.slice A n c], .int .i64 x, .int .i64 y] w fun e w' => ∃ (A1 : Option Addr) (n1 c1 : Nat) (zs : List Int) (code : Int), e = .returned (.tuple #[.slice A1 n1 c1, .int .i64 code]) ∧ Hid ((zs, code) = fwF xss x y) ∧ Own w' w.heap.size w'.heap.size 2 A1 n1 c1 (zs.map (Value.int .i64)) ∧ n1 ≤ 1048576 ∧ Below w.heap.size w w' := by
  have hm := h.max
  have hl := h.len
  obtain ⟨hx0, hx1⟩ := hx
  obtain ⟨hy0, hy1⟩ := hy
  have hR := rs_alloc h hhi (.cells #[.slice A n c] 40)
  have hC : (w.alloc (.cells #[.slice A n c] 40)).cell? ⟨w.heap.size, 0, none⟩ = some (.slice A n c) := al_new _ _ _ _ rfl
  have hB : Below w.heap.size w (w.alloc (.cells #[.slice A n c] 40)) := (Below.refl _ _).alloc (Nat.le_refl _) _
  cases hM : isManB xss with
  | false =>
    have hF : fwF xss x y = ([], 1) := by unfold fwF; rw [hM]; rfl
    replace hF := Lib.hid hF
    replace hM := Lib.hid hM
    replace hl := Lib.hid hl
    go_enter Try.func35, Try.ntmps35
    go_wp2_with fail
    obtain ⟨W1, hW⟩ : ∃ W1 : World, w.alloc (.cells #[.slice A n c] 40) = W1 := ⟨_, rfl⟩
    have hz1 : W1.heap.size = w.heap.size + 1 := by rw [← hW]; simp
    rw [hW] at hR hC hB ⊢
    clear hW h 
    ((with_reducible refine (l02Is_any A n c xss _ hR (by omega)).mono ?_); rintro e w2 ⟨rfl, f2⟩)
    rw [hM.out]
    have y2 := f2.size
    have B2 : Below W1.heap.size W1 w2 := f2
    have C2 := (f2.cell (p := ⟨w.heap.size, 0, none⟩) (by simp; omega)).trans hC
    have R2 := hR.below f2 (by omega)
    go_wp2_with fail
    go_ret2
    exact ⟨_, 0, _, [], _, rfl, Lib.hid hF.out.symm, Own.nil, by omega, hB.trans (B2.mono (by omega))⟩
  | true =>
    have hP := isManB_iff.1 hM
    have hn1 : 1 ≤ n := by have := hP.r1; omega
    have hn5 : n ≤ 5 := by have := hP.r5; omega
    have hf2 := hP.f2
    have hf4 := hP.f4
    have hS := hP.sys
    replace hP := Lib.hid hP
    replace hS := Lib.hid hS
    cases hF1 : inR 0 ((flg xss : Nat) - 1 : Int) x with
    | false =>
      have hF : fwF xss x y = ([], 2) := by unfold fwF; rw [if_pos hM, hF1]; rfl
      replace hF := Lib.hid hF
      replace hM := Lib.hid hM
      replace hl := Lib.hid hl
      replace hF1 := Lib.hid hF1
      go_enter Try.func35, Try.ntmps35
      go_wp2_with fail
      obtain ⟨W1, hW⟩ : ∃ W1 : World, w.alloc (.cells #[.slice A n c] 40) = W1 := ⟨_, rfl⟩
      have hz1 : W1.heap.size = w.heap.size + 1 := by rw [← hW]; simp
      rw [hW] at hR hC hB ⊢
      clear hW h 
      ((with_reducible refine (l02Is_any A n c xss _ hR (by omega)).mono ?_); rintro e w2 ⟨rfl, f2⟩)
      rw [hM.out]
      have y2 := f2.size
      have B2 : Below W1.heap.size W1 w2 := f2
      have C2 := (f2.cell (p := ⟨w.heap.size, 0, none⟩) (by simp; omega)).trans hC
      have R2 := hR.below f2 (by omega)
      go_wp2_with fail
      ((with_reducible refine (l02Flag_any A n c xss x _ R2 (by omega) (by omega) hf4).mono ?_); rintro e w3 ⟨rfl, f3⟩)
      rw [hF1.out]
      have y3 := f3.size
      have B3 : Below W1.heap.size W1 w3 := below_then B2 f3 (by omega)
      have C3 := (f3.cell (p := ⟨w.heap.size, 0, none⟩) (by simp; omega)).trans C2
      have R3 := R2.below f3 (by omega)
      go_wp2_with fail
      go_ret2
      exact ⟨_, 0, _, [], _, rfl, Lib.hid hF.out.symm, Own.nil, by omega, hB.trans (B3.mono (by omega))⟩
    | true =>
      obtain ⟨hxa, hxb⟩ := inR_iff.1 hF1
      have hxc : x < (flg xss : Nat) := by omega
      cases hF2 : inR 0 ((flg xss : Nat) - 1 : Int) y with
      | false =>
        have hF : fwF xss x y = ([], 2) := by unfold fwF; rw [if_pos hM, if_pos hF1, hF2]; rfl
        replace hF := Lib.hid hF
        replace hM := Lib.hid hM
        replace hl := Lib.hid hl
        replace hF1 := Lib.hid hF1
        replace hF2 := Lib.hid hF2
        go_enter Try.func35, Try.ntmps35
        go_wp2_with fail
        obtain ⟨W1, hW⟩ : ∃ W1 : World, w.alloc (.cells #[.slice A n c] 40) = W1 := ⟨_, rfl⟩
        have hz1 : W1.heap.size = w.heap.size + 1 := by rw [← hW]; simp
        rw [hW] at hR hC hB ⊢
        clear hW h 
        ((with_reducible refine (l02Is_any A n c xss _ hR (by omega)).mono ?_); rintro e w2 ⟨rfl, f2⟩)
        rw [hM.out]
        have y2 := f2.size
        have B2 : Below W1.heap.size W1 w2 := f2
        have C2 := (f2.cell (p := ⟨w.heap.size, 0, none⟩) (by simp; omega)).trans hC
        have R2 := hR.below f2 (by omega)
        go_wp2_with fail
        ((with_reducible refine (l02Flag_any A n c xss x _ R2 (by omega) (by omega) hf4).mono ?_); rintro e w3 ⟨rfl, f3⟩)
        rw [hF1.out]
        have y3 := f3.size
        have B3 : Below W1.heap.size W1 w3 := below_then B2 f3 (by omega)
        have C3 := (f3.cell (p := ⟨w.heap.size, 0, none⟩) (by simp; omega)).trans C2
        have R3 := R2.below f3 (by omega)
        go_wp2_with fail
        ((with_reducible refine (l02Flag_any A n c xss y _ R3 (by omega) (by omega) hf4).mono ?_); rintro e w4 ⟨rfl, f4⟩)
        rw [hF2.out]
        have y4 := f4.size
        have B4 : Below W1.heap.size W1 w4 := below_then B3 f4 (by omega)
        have C4 := (f4.cell (p := ⟨w.heap.size, 0, none⟩) (by simp; omega)).trans C3
        have R4 := R3.below f4 (by omega)
        go_wp2_with fail
        go_ret2
        exact ⟨_, 0, _, [], _, rfl, Lib.hid hF.out.symm, Own.nil, by omega, hB.trans (B4.mono (by omega))⟩
      | true =>
        obtain ⟨hya, hyb⟩ := inR_iff.1 hF2
        have hyc : y < (flg xss : Nat) := by omega
        have hfin0 := dist_fin hS.out hP.out.conn hya hyc
        have hiv := hP.out.invo
        obtain ⟨d0, hd0⟩ : ∃ d0 : Nat, dat (dist xss (flg xss) y) x = d0 := ⟨(dat (dist xss (flg xss) y) x).toNat, by have := hfin0.rng x hxa hxc; omega⟩
        have hd4 : d0 < flg xss := by have := hfin0.rng x hxa hxc; omega
        by_cases h64 : d0 ≤ 64
        · skip
          have hF : fwF xss x y = (fwL xss (dist xss (flg xss) y) d0 x, 0) := by unfold fwF; rw [if_pos hM, if_pos hF1, if_pos hF2]; rw [hd0, if_pos (decide_eq_true (by omega)), Int.toNat_natCast]
          have hcmp : decide ((d0 : Int) > 64) = false := by simp; omega
          have hdx := Lib.hid hd0
          replace hd0 := Lib.hid hd0
          replace hfin0 := Lib.hid hfin0
          replace hiv := Lib.hid hiv
          replace hF := Lib.hid hF
          replace hM := Lib.hid hM
          replace hl := Lib.hid hl
          replace hF1 := Lib.hid hF1
          replace hF2 := Lib.hid hF2
          obtain ⟨j0, hj0, hj1, hj2, hj3⟩ := info_parts infoI
          go_enter Try.func35, Try.ntmps35
          go_wp2_with fail
          obtain ⟨W1, hW⟩ : ∃ W1 : World, w.alloc (.cells #[.slice A n c] 40) = W1 := ⟨_, rfl⟩
          have hz1 : W1.heap.size = w.heap.size + 1 := by rw [← hW]; simp
          rw [hW] at hR hC hB ⊢
          clear hW h 
          ((with_reducible refine (l02Is_any A n c xss _ hR (by omega)).mono ?_); rintro e w2 ⟨rfl, f2⟩)
          rw [hM.out]
          have y2 := f2.size
          have B2 : Below W1.heap.size W1 w2 := f2
          have C2 := (f2.cell (p := ⟨w.heap.size, 0, none⟩) (by simp; omega)).trans hC
          have R2 := hR.below f2 (by omega)
          go_wp2_with fail
          ((with_reducible refine (l02Flag_any A n c xss x _ R2 (by omega) (by omega) hf4).mono ?_); rintro e w3 ⟨rfl, f3⟩)
          rw [hF1.out]
          have y3 := f3.size
          have B3 : Below W1.heap.size W1 w3 := below_then B2 f3 (by omega)
          have C3 := (f3.cell (p := ⟨w.heap.size, 0, none⟩) (by simp; omega)).trans C2
          have R3 := R2.below f3 (by omega)
          go_wp2_with fail
          ((with_reducible refine (l02Flag_any A n c xss y _ R3 (by omega) (by omega) hf4).mono ?_); rintro e w4 ⟨rfl, f4⟩)
          rw [hF2.out]
          have y4 := f4.size
          have B4 : Below W1.heap.size W1 w4 := below_then B3 f4 (by omega)
          have C4 := (f4.cell (p := ⟨w.heap.size, 0, none⟩) (by simp; omega)).trans C3
          have R4 := R3.below f4 (by omega)
          go_wp2_with fail
          obtain ⟨x, rfl⟩ : ∃ q : Nat, x = q := ⟨x.toNat, by omega⟩
          ((with_reducible refine (l02Distances_any A n c xss y _ R4 (by omega) (by omega) _ rfl hf4 hS.out hya hyc).mono ?_); rintro e w9 ⟨A9, c9, rfl, o9, f9⟩)
          have B9 : Below W1.heap.size W1 w9 := below_then B4 f9 (by omega)
          have y9 := B9.size
          obtain ⟨D, hD⟩ : ∃ D, dist xss (flg xss) y = D := ⟨_, rfl⟩
          rw [hD] at o9
          replace hdx := hdx.out
          rw [hD] at hdx
          have hfin := hfin0.out
          rw [hD] at hfin
          have hdl := hfin.dl
          have hres0 := hF.out
          (try rw [hD] at hres0)
          replace hD := Lib.hid hD
          replace hres0 := Lib.hid hres0
          clear hfin0
          obtain ⟨b9, u9, rfl, hb91, hb92, hb93, hu9, hcx, _⟩ := o9.atI (k := x) (by omega)
          have hu9e : u9 = d0 := by have := dat_get hdl (show x < flg xss by omega); rw [hu9, hdx] at this; exact Option.some.inj this
          rw [hu9e] at hcx
          replace hu9 := Lib.hid hu9
          replace hu9e := Lib.hid hu9e
          replace hdx := Lib.hid hdx
          replace hfin := Lib.hid hfin
          replace hdl := Lib.hid hdl
          have hxN : x < flg xss := by omega
          have h0 := World.ownsRow_lit (e := 2) (base := w9.heap.size) (size := 1) w9 #[] 0 (Nat.le_refl _) (by omega) rfl
          go_wp2_with fail
          go_loopg [9, 10] (d0 + 1) (fun gq wv fv wq => ∃ (d : Nat) (f : Int) (ys : List Int) (A2 : Option Addr) (c2 : Nat), gq = d + 1 ∧ wv = .slice A2 ys.length c2 ∧ fv = .int .i64 f ∧ 0 ≤ f ∧ f < (flg xss : Nat) ∧ ys.length + d = d0 ∧ Hid (dat D f = d) ∧ Hid (ys ++ fwL xss D d f = fwL xss D d0 (x : Int)) ∧ Own wq w9.heap.size wq.heap.size 2 A2 ys.length c2 (ys.map (Value.int .i64)) ∧ w9.heap.size ≤ wq.heap.size ∧ Below w9.heap.size w9 wq)
          case atStart => exact ⟨d0, (x : Int), [], _, 0, rfl, rfl, rfl, hxa, hxc, by simp, hdx, Lib.hid rfl, by simpa using Own.of_row h0, by simp, (Below.refl _ _).alloc (Nat.le_refl _) _⟩
          case round =>
            clear h0
            obtain ⟨d, f, ys, A2, c2, hgd, rfl, rfl, hf0, hf1, hyd, hdf, heq, ho, hz, hb⟩ := hrel
            have hzero := dist_zero hfin.out hf0 hf1
            by_cases hfy : f = y
            · subst hfy
              have hd00 : d = 0 := by have := hzero.1 rfl; have := hdf.out; omega
              subst hd00
              clear hzero
              have hres := heq.out
              replace hres := Lib.hid hres
              go_wp2_with fail
              go_ret2
              have e : ys ++ fwL xss D 0 f = ys := by simp [fwL]
              exact ⟨A2, ys.length, c2, ys, _, rfl, Lib.hid (by rw [hres0.out, ← hres.out, e]), ho.more (by omega) (Nat.le_refl _), by omega, hB.trans ((B9.trans (hb.mono y9)).mono (by omega))⟩
            · have hex := near_ex hS.out hiv.out hfin.out hf0 hf1 hfy
              have hfb : (f != y) = true := by simpa using hfy
              obtain ⟨d, rfl⟩ : ∃ q, d = q + 1 := ⟨d - 1, by have := mt hzero.2 hfy; have := hdf.out; omega⟩
              obtain ⟨gk', rfl⟩ : ∃ q, gk = q + 1 := ⟨gk - 1, by omega⟩
              clear hzero
              obtain ⟨f, rfl⟩ : ∃ q : Nat, f = q := ⟨f.toNat, by omega⟩
              have hfN : f < flg xss := by omega
              replace hex := Lib.hid hex
              replace hfy := Lib.hid hfy
              go_wp2_with fail
              obtain ⟨wo, rfl⟩ : ∃ wo : World, wo = wr := ⟨_, rfl⟩
              go_loopw [9, 10, 11] (fun wv fv kv wq => ∃ k : Nat, wv = .slice A2 ys.length c2 ∧ fv = .int .i64 (f : Int) ∧ k ≤ n ∧ kv = .int .i64 k ∧ Hid ((xss.take k).all (fun q => !(nearB D (f : Int) q)) = true) ∧ Own wq w9.heap.size wq.heap.size 2 A2 ys.length c2 (ys.map (Value.int .i64)) ∧ w9.heap.size ≤ wq.heap.size ∧ Below w9.heap.size w9 wq) (fun _ _ kv _ => n - (intOf kv).toNat)
              case atStart => exact ⟨0, rfl, rfl, by omega, rfl, Lib.hid (by simp), ho, hz, hb⟩
              case round =>
                clear ho hz hb
                obtain ⟨k, rfl, rfl, hk, rfl, hall, ho, hz, hb⟩ := hrel
                have hbW := B9.trans (hb.mono y9)
                have hCk := (hbW.cell (p := ⟨w.heap.size, 0, none⟩) (by simp; omega)).trans hC
                by_cases hkm : k < n
                · obtain ⟨bb, oo, Ak, nk, ck, p, rfl, _, hbb, hp, hpc, hpr⟩ := (hR.below hbW (by omega)).at_ hkm
                  have hpm := mem_of_get? hp
                  obtain ⟨hpr0, hpn, hpl⟩ := hS.out p hpm
                  have hnk := hpr.len
                  have hfnk : f < nk := by omega
                  obtain ⟨bp, oq, v, rfl, _, hbp, hv, hvc⟩ := hpr.at_ hfnk
                  have hva : at' p f = v := by unfold at'; rw [Int.toNat_natCast]; exact getD_some hv
                  obtain ⟨hv0, hv1⟩ := hpr0 v (mem_of_get? hv)
                  obtain ⟨v, rfl⟩ : ∃ q : Nat, v = q := ⟨v.toNat, by omega⟩
                  have hvN : v < flg xss := by omega
                  have o9' := o9.below hb (Nat.le_refl _)
                  have hcv := o9'.cellI (dat_get hdl.out hvN)
                  have hcf := o9'.cellI (dat_get hdl.out hfN)
                  have hts := all_take_succ' (f := fun q => !(nearB D (f : Int) q)) hp
                  have hni := near_iff hS.out hiv.out hfin.out hf0 (show (f : Int) < (flg xss : Nat) by omega) hpm
                  rw [hva] at hni
                  have hnb : nearB D (f : Int) p = decide (dat D (v : Int) < dat D (f : Int)) := by unfold nearB; rw [hva]
                  have hvr := hfin.out.rng (v : Int) (by omega) (by omega)
                  have hfr := hfin.out.rng (f : Int) (by omega) (by omega)
                  obtain ⟨hvr0, hvr1⟩ := hvr
                  obtain ⟨hfr0, hfr1⟩ := hfr
                  clear o9'
                  by_cases hlt : dat D (v : Int) < dat D (f : Int)
                  · have hnt : nearB D (f : Int) p = true := by rw [hnb]; exact decide_eq_true hlt
                    have hsk := stepK_eq hp hnt hall.out
                    have hstep := fwL_step (d := d) hp hsk
                    rw [hva] at hstep
                    have hni1 := hni.1 hlt
                    have heq2 : (ys ++ [(k : Int)]) ++ fwL xss D d v = fwL xss D d0 (x : Int) := by rw [← heq.out, hstep]; simp
                    have hdv : dat D (v : Int) = d := by have := hdf.out; omega
                    have hbq : (dat D (v : Int) == dat D (f : Int) - 1) = true := by simpa using hni1
                    replace heq2 := Lib.hid heq2
                    replace hdv := Lib.hid hdv
                    replace hstep := Lib.hid hstep
                    replace hsk := Lib.hid hsk
                    replace hnt := Lib.hid hnt
                    replace hnb := Lib.hid hnb
                    replace hni := Lib.hid hni
                    replace hni1 := Lib.hid hni1
                    replace hts := Lib.hid hts
                    replace hp := Lib.hid hp
                    replace hv := Lib.hid hv
                    replace hva := Lib.hid hva
                    replace hpr0 := Lib.hid hpr0
                    replace hpl := Lib.hid hpl
                    clear hlt
                    generalize dat D (v : Int) = dv at hcv hbq hvr0 hvr1
                    generalize dat D (f : Int) = df at hcf hbq hfr0 hfr1
                    go_wp2_with fail
                    go_quiet (fail)
                    have ho' : Own (wr.drewN nq) w9.heap.size wr.heap.size 2 A2 ys.length c2 (ys.map (Value.int .i64)) := ho
                    go_wp2_with (at_builtin; refine wpList_append1 (wr.drewN nq) rfl (.tmp 62) (.tmp 64) 27 rfl w9.heap.size 2 j0 (.int .i64 0) 8 Try.underlying27 hj0 hj1 hj2 hj3 rfl (by omega) _ ys.length c2 _ (.int .i64 k) rfl ho'.1 _ rfl rfl rfl (by omega) hz ?_)
                    intro g4 c4 w3 ho3 hg3 hlo3 hlt3 hor3
                    have hb3 : Below w9.heap.size w9 w3 := (below_dn hb nq).grown hg3 hz (fun q hq => by have := (ho'.1.lt q hq).1; omega)
                    have ho3' := Own.of_row ho3
                    have hz3 : wr.heap.size ≤ w3.heap.size := hg3.size
                    have hvc3 : w3.cell? ⟨bp, oq + f, none⟩ = some (.int .i64 (v : Int)) := (World.cell?_of_block (w := wr) (a := ⟨bp, oq + f, none⟩) (hg3.block bp (show bp < wr.heap.size by omega) (fun e => by have := (ho'.1.lt _ e.symm).1; omega))).trans hvc
                    have hpc3 : w3.cell? ⟨bb, oo + k, none⟩ = some (.slice (some ⟨bp, oq, none⟩) nk ck) := (World.cell?_of_block (w := wr) (a := ⟨bb, oo + k, none⟩) (hg3.block bb (show bb < wr.heap.size by omega) (fun e => by have := (ho'.1.lt _ e.symm).1; omega))).trans hpc
                    have hC3 : w3.cell? ⟨w.heap.size, 0, none⟩ = some (.slice (some ⟨bb, oo, none⟩) n c) := (World.cell?_of_block (w := wr) (a := ⟨w.heap.size, 0, none⟩) (hg3.block w.heap.size (show w.heap.size < wr.heap.size by omega) (fun e => by have := (ho'.1.lt _ e.symm).1; omega))).trans hCk
                    clear ho ho' hb hg3 ho3 hpc hvc hcv hcf hpr hCk
                    go_wp2_with fail
                    go_roundg gk'
                    case measure => omega
                    case rel => exact ⟨d, v, ys ++ [(k : Int)], _, c4, by omega, by rw [List.length_append]; rfl, rfl, by omega, by omega, by simp; omega, hdv, heq2, by simpa using ho3', by omega, hb3⟩
                  · have hnt : nearB D (f : Int) p = false := by rw [hnb]; exact decide_eq_false hlt
                    rw [hnt, hall.out] at hts
                    have hni1 := mt hni.2 hlt
                    have hbq : (dat D (v : Int) == dat D (f : Int) - 1) = false := by simpa using hni1
                    replace hts := Lib.hid hts
                    replace hnt := Lib.hid hnt
                    replace hnb := Lib.hid hnb
                    replace hni := Lib.hid hni
                    replace hni1 := Lib.hid hni1
                    replace hp := Lib.hid hp
                    replace hv := Lib.hid hv
                    replace hva := Lib.hid hva
                    replace hpr0 := Lib.hid hpr0
                    replace hpl := Lib.hid hpl
                    replace hlt := Lib.hid hlt
                    generalize dat D (v : Int) = dv at hcv hbq hvr0 hvr1
                    generalize dat D (f : Int) = df at hcf hbq hfr0 hfr1
                    go_wp2_with fail
                    go_quiet (fail)
                    go_wp2_with fail
                    go_roundw
                    case measure => simp [intOf]; omega
                    case rel => exact ⟨k + 1, rfl, rfl, by omega, by go_num, hts, ho, hz, below_dn hb _⟩
                · exfalso
                  have hkm' : k = n := by omega
                  subst hkm'
                  obtain ⟨p, hp, hn⟩ := hex.out
                  have h1 := hall.out
                  rw [List.take_of_length_le (by have := hl.out; omega)] at h1
                  have := List.all_eq_true.1 h1 p hp
                  rw [hn] at this
                  simp at this
        · skip
          have hF : fwF xss x y = ([], 3) := by unfold fwF; rw [if_pos hM, if_pos hF1, if_pos hF2]; rw [hd0, if_neg (by simp; omega)]
          have hcmp : decide ((d0 : Int) > 64) = true := by simp; omega
          have hdx := Lib.hid hd0
          replace hd0 := Lib.hid hd0
          replace hfin0 := Lib.hid hfin0
          replace hiv := Lib.hid hiv
          replace hF := Lib.hid hF
          replace hM := Lib.hid hM
          replace hl := Lib.hid hl
          replace hF1 := Lib.hid hF1
          replace hF2 := Lib.hid hF2
          obtain ⟨j0, hj0, hj1, hj2, hj3⟩ := info_parts infoI
          go_enter Try.func35, Try.ntmps35
          go_wp2_with fail
          obtain ⟨W1, hW⟩ : ∃ W1 : World, w.alloc (.cells #[.slice A n c] 40) = W1 := ⟨_, rfl⟩
          have hz1 : W1.heap.size = w.heap.size + 1 := by rw [← hW]; simp
          rw [hW] at hR hC hB ⊢
          clear hW h 
          ((with_reducible refine (l02Is_any A n c xss _ hR (by omega)).mono ?_); rintro e w2 ⟨rfl, f2⟩)
          rw [hM.out]
          have y2 := f2.size
          have B2 : Below W1.heap.size W1 w2 := f2
          have C2 := (f2.cell (p := ⟨w.heap.size, 0, none⟩) (by simp; omega)).trans hC
          have R2 := hR.below f2 (by omega)
          go_wp2_with fail
          ((with_reducible refine (l02Flag_any A n c xss x _ R2 (by omega) (by omega) hf4).mono ?_); rintro e w3 ⟨rfl, f3⟩)
          rw [hF1.out]
          have y3 := f3.size
          have B3 : Below W1.heap.size W1 w3 := below_then B2 f3 (by omega)
          have C3 := (f3.cell (p := ⟨w.heap.size, 0, none⟩) (by simp; omega)).trans C2
          have R3 := R2.below f3 (by omega)
          go_wp2_with fail
          ((with_reducible refine (l02Flag_any A n c xss y _ R3 (by omega) (by omega) hf4).mono ?_); rintro e w4 ⟨rfl, f4⟩)
          rw [hF2.out]
          have y4 := f4.size
          have B4 : Below W1.heap.size W1 w4 := below_then B3 f4 (by omega)
          have C4 := (f4.cell (p := ⟨w.heap.size, 0, none⟩) (by simp; omega)).trans C3
          have R4 := R3.below f4 (by omega)
          go_wp2_with fail
          obtain ⟨x, rfl⟩ : ∃ q : Nat, x = q := ⟨x.toNat, by omega⟩
          ((with_reducible refine (l02Distances_any A n c xss y _ R4 (by omega) (by omega) _ rfl hf4 hS.out hya hyc).mono ?_); rintro e w9 ⟨A9, c9, rfl, o9, f9⟩)
          have B9 : Below W1.heap.size W1 w9 := below_then B4 f9 (by omega)
          have y9 := B9.size
          obtain ⟨D, hD⟩ : ∃ D, dist xss (flg xss) y = D := ⟨_, rfl⟩
          rw [hD] at o9
          replace hdx := hdx.out
          rw [hD] at hdx
          have hfin := hfin0.out
          rw [hD] at hfin
          have hdl := hfin.dl
          have hres0 := hF.out
          (try rw [hD] at hres0)
          replace hD := Lib.hid hD
          replace hres0 := Lib.hid hres0
          clear hfin0
          obtain ⟨b9, u9, rfl, hb91, hb92, hb93, hu9, hcx, _⟩ := o9.atI (k := x) (by omega)
          have hu9e : u9 = d0 := by have := dat_get hdl (show x < flg xss by omega); rw [hu9, hdx] at this; exact Option.some.inj this
          rw [hu9e] at hcx
          replace hu9 := Lib.hid hu9
          replace hu9e := Lib.hid hu9e
          replace hdx := Lib.hid hdx
          replace hfin := Lib.hid hfin
          replace hdl := Lib.hid hdl
          have hxN : x < flg xss := by omega
          go_wp2_with fail
          go_ret2
          exact ⟨_, 0, _, [], _, rfl, Lib.hid hres0.out.symm, Own.nil, by omega, hB.trans (((B9.alloc y9 _)).mono (by omega))⟩
set_option maxHeartbeats 4000000 in
theorem i_FirstWord_any (w : World) (A : Option Addr) (n c : Nat) (xss : List (List Int)) {lo hi : Nat} (h : RS w lo hi A n xss) (hhi : hi ≤ w.heap.size) (hnc : n ≤ c) (x : Int) (hx : -9223372036854775808 ≤ x ∧ x ≤ 9223372036854775807) (y : Int) (hy : -9223372036854775808 ≤ y ∧ y ≤ 9223372036854775807) :
    Calls Try.prog 34 #[.agg #[.slice A n c], .int .i64 x, .int .i64 y] w fun e w' => ∃ (A1 : Option Addr) (n1 c1 : Nat) (zs : List Int) (code : Int), e = .returned (.tuple #[.slice A1 n1 c1, .int .i64 code]) ∧ Hid ((zs, code) = fwF xss x y) ∧ Own w' w.heap.size w'.heap.size 2 A1 n1 c1 (zs.map (Value.int .i64)) ∧ n1 ≤ 1048576 ∧ Below w.heap.size w w' := by
  have hm := h.max
  have hl := h.len
  obtain ⟨hx0, hx1⟩ := hx
  obtain ⟨hy0, hy1⟩ := hy
  have hR := rs_alloc h hhi (.cells #[.slice A n c] 40)
  have hC : (w.alloc (.cells #[.slice A n c] 40)).cell? ⟨w.heap.size, 0, none⟩ = some (.slice A n c) := al_new _ _ _ _ rfl
  have hB : Below w.heap.size w (w.alloc (.cells #[.slice A n c] 40)) := (Below.refl _ _).alloc (Nat.le_refl _) _
  cases hM : isManB xss with
  | false =>
    have hF : fwF xss x y = ([], 1) := by unfold fwF; rw [hM]; rfl
    replace hF := Lib.hid hF
    replace hM := Lib.hid hM
    replace hl := Lib.hid hl
    go_enter Try.func34, Try.ntmps34
    go_wp2_with fail
    obtain ⟨W1, hW⟩ : ∃ W1 : World, w.alloc (.cells #[.slice A n c] 40) = W1 := ⟨_, rfl⟩
    have hz1 : W1.heap.size = w.heap.size + 1 := by rw [← hW]; simp
    rw [hW] at hR hC hB ⊢
    clear hW h 
    ((with_reducible refine (isMan_any A n c xss _ hR (by omega) hnc).mono ?_); rintro e w2 ⟨rfl, f2⟩)
    rw [hM.out]
    have y2 := f2.size
    have B2 : Below W1.heap.size W1 w2 := f2
    have C2 := (f2.cell (p := ⟨w.heap.size, 0, none⟩) (by simp; omega)).trans hC
    have R2 := hR.below f2 (by omega)
    go_wp2_with fail
    go_ret2
    exact ⟨_, 0, _, [], _, rfl, Lib.hid hF.out.symm, Own.nil, by omega, hB.trans (B2.mono (by omega))⟩
  | true =>
    have hP := isManB_iff.1 hM
    have hn1 : 1 ≤ n := by have := hP.r1; omega
    have hn5 : n ≤ 5 := by have := hP.r5; omega
    have hf2 := hP.f2
    have hf4 := hP.f4
    have hS := hP.sys
    replace hP := Lib.hid hP
    replace hS := Lib.hid hS
    cases hF1 : inR 0 ((flg xss : Nat) - 1 : Int) x with
    | false =>
      have hF : fwF xss x y = ([], 2) := by unfold fwF; rw [if_pos hM, hF1]; rfl
      replace hF := Lib.hid hF
      replace hM := Lib.hid hM
      replace hl := Lib.hid hl
      replace hF1 := Lib.hid hF1
      go_enter Try.func34, Try.ntmps34
      go_wp2_with fail
      obtain ⟨W1, hW⟩ : ∃ W1 : World, w.alloc (.cells #[.slice A n c] 40) = W1 := ⟨_, rfl⟩
      have hz1 : W1.heap.size = w.heap.size + 1 := by rw [← hW]; simp
      rw [hW] at hR hC hB ⊢
      clear hW h 
      ((with_reducible refine (isMan_any A n c xss _ hR (by omega) hnc).mono ?_); rintro e w2 ⟨rfl, f2⟩)
      rw [hM.out]
      have y2 := f2.size
      have B2 : Below W1.heap.size W1 w2 := f2
      have C2 := (f2.cell (p := ⟨w.heap.size, 0, none⟩) (by simp; omega)).trans hC
      have R2 := hR.below f2 (by omega)
      go_wp2_with fail
      ((with_reducible refine (hasFlag_any _ A n c xss x _ C2 R2 (by omega) hf4).mono ?_); rintro e w' ⟨rfl, rfl⟩)
      rw [hF1.out]
      go_wp2_with fail
      go_ret2
      exact ⟨_, 0, _, [], _, rfl, Lib.hid hF.out.symm, Own.nil, by omega, hB.trans (B2.mono (by omega))⟩
    | true =>
      obtain ⟨hxa, hxb⟩ := inR_iff.1 hF1
      have hxc : x < (flg xss : Nat) := by omega
      cases hF2 : inR 0 ((flg xss : Nat) - 1 : Int) y with
      | false =>
        have hF : fwF xss x y = ([], 2) := by unfold fwF; rw [if_pos hM, if_pos hF1, hF2]; rfl
        replace hF := Lib.hid hF
        replace hM := Lib.hid hM
        replace hl := Lib.hid hl
        replace hF1 := Lib.hid hF1
        replace hF2 := Lib.hid hF2
        go_enter Try.func34, Try.ntmps34
        go_wp2_with fail
        obtain ⟨W1, hW⟩ : ∃ W1 : World, w.alloc (.cells #[.slice A n c] 40) = W1 := ⟨_, rfl⟩
        have hz1 : W1.heap.size = w.heap.size + 1 := by rw [← hW]; simp
        rw [hW] at hR hC hB ⊢
        clear hW h 
        ((with_reducible refine (isMan_any A n c xss _ hR (by omega) hnc).mono ?_); rintro e w2 ⟨rfl, f2⟩)
        rw [hM.out]
        have y2 := f2.size
        have B2 : Below W1.heap.size W1 w2 := f2
        have C2 := (f2.cell (p := ⟨w.heap.size, 0, none⟩) (by simp; omega)).trans hC
        have R2 := hR.below f2 (by omega)
        go_wp2_with fail
        ((with_reducible refine (hasFlag_any _ A n c xss x _ C2 R2 (by omega) hf4).mono ?_); rintro e w' ⟨rfl, rfl⟩)
        rw [hF1.out]
        go_wp2_with fail
        ((with_reducible refine (hasFlag_any _ A n c xss y _ C2 R2 (by omega) hf4).mono ?_); rintro e w' ⟨rfl, rfl⟩)
        rw [hF2.out]
        go_wp2_with fail
        go_ret2
        exact ⟨_, 0, _, [], _, rfl, Lib.hid hF.out.symm, Own.nil, by omega, hB.trans (B2.mono (by omega))⟩
      | true =>
        obtain ⟨hya, hyb⟩ := inR_iff.1 hF2
        have hyc : y < (flg xss : Nat) := by omega
        have hfin0 := dist_fin hS.out hP.out.conn hya hyc
        have hiv := hP.out.invo
        obtain ⟨d0, hd0⟩ : ∃ d0 : Nat, dat (dist xss (flg xss) y) x = d0 := ⟨(dat (dist xss (flg xss) y) x).toNat, by have := hfin0.rng x hxa hxc; omega⟩
        have hd4 : d0 < flg xss := by have := hfin0.rng x hxa hxc; omega
        by_cases h64 : d0 ≤ 64
        · skip
          have hF : fwF xss x y = (fwL xss (dist xss (flg xss) y) d0 x, 0) := by unfold fwF; rw [if_pos hM, if_pos hF1, if_pos hF2]; rw [hd0, if_pos (decide_eq_true (by omega)), Int.toNat_natCast]
          have hcmp : decide ((d0 : Int) > 64) = false := by simp; omega
          have hdx := Lib.hid hd0
          replace hd0 := Lib.hid hd0
          replace hfin0 := Lib.hid hfin0
          replace hiv := Lib.hid hiv
          replace hF := Lib.hid hF
          replace hM := Lib.hid hM
          replace hl := Lib.hid hl
          replace hF1 := Lib.hid hF1
          replace hF2 := Lib.hid hF2
          go_enter Try.func34, Try.ntmps34
          go_wp2_with fail
          obtain ⟨W1, hW⟩ : ∃ W1 : World, w.alloc (.cells #[.slice A n c] 40) = W1 := ⟨_, rfl⟩
          have hz1 : W1.heap.size = w.heap.size + 1 := by rw [← hW]; simp
          rw [hW] at hR hC hB ⊢
          clear hW h 
          ((with_reducible refine (isMan_any A n c xss _ hR (by omega) hnc).mono ?_); rintro e w2 ⟨rfl, f2⟩)
          rw [hM.out]
          have y2 := f2.size
          have B2 : Below W1.heap.size W1 w2 := f2
          have C2 := (f2.cell (p := ⟨w.heap.size, 0, none⟩) (by simp; omega)).trans hC
          have R2 := hR.below f2 (by omega)
          go_wp2_with fail
          ((with_reducible refine (hasFlag_any _ A n c xss x _ C2 R2 (by omega) hf4).mono ?_); rintro e w' ⟨rfl, rfl⟩)
          rw [hF1.out]
          go_wp2_with fail
          ((with_reducible refine (hasFlag_any _ A n c xss y _ C2 R2 (by omega) hf4).mono ?_); rintro e w' ⟨rfl, rfl⟩)
          rw [hF2.out]
          go_wp2_with fail
          ((with_reducible refine (firstWord_any _ A n c xss x y _ C2 (by omega) R2 (by omega) (by omega) _ rfl hf4 hS.out hiv.out hP.out.conn hxa hxc hya hyc).mono ?_); rintro e w9 ⟨A9, n9, c9, rfl, o9, f9⟩)
          rw [hd0.out, Int.toNat_natCast] at o9
          have e9 : n9 = d0 := by rw [← o9.lenI, fwL_length]
          subst e9
          have B9 : Below W1.heap.size W1 w9 := below_then B2 f9 (by omega)
          go_wp2_with fail
          go_ret2
          exact ⟨_, _, _, _, _, rfl, Lib.hid hF.out.symm, o9.more (by omega) (Nat.le_refl _), by omega, hB.trans (B9.mono (by omega))⟩
        · skip
          have hF : fwF xss x y = ([], 3) := by unfold fwF; rw [if_pos hM, if_pos hF1, if_pos hF2]; rw [hd0, if_neg (by simp; omega)]
          have hcmp : decide ((d0 : Int) > 64) = true := by simp; omega
          have hdx := Lib.hid hd0
          replace hd0 := Lib.hid hd0
          replace hfin0 := Lib.hid hfin0
          replace hiv := Lib.hid hiv
          replace hF := Lib.hid hF
          replace hM := Lib.hid hM
          replace hl := Lib.hid hl
          replace hF1 := Lib.hid hF1
          replace hF2 := Lib.hid hF2
          go_enter Try.func34, Try.ntmps34
          go_wp2_with fail
          obtain ⟨W1, hW⟩ : ∃ W1 : World, w.alloc (.cells #[.slice A n c] 40) = W1 := ⟨_, rfl⟩
          have hz1 : W1.heap.size = w.heap.size + 1 := by rw [← hW]; simp
          rw [hW] at hR hC hB ⊢
          clear hW h 
          ((with_reducible refine (isMan_any A n c xss _ hR (by omega) hnc).mono ?_); rintro e w2 ⟨rfl, f2⟩)
          rw [hM.out]
          have y2 := f2.size
          have B2 : Below W1.heap.size W1 w2 := f2
          have C2 := (f2.cell (p := ⟨w.heap.size, 0, none⟩) (by simp; omega)).trans hC
          have R2 := hR.below f2 (by omega)
          go_wp2_with fail
          ((with_reducible refine (hasFlag_any _ A n c xss x _ C2 R2 (by omega) hf4).mono ?_); rintro e w' ⟨rfl, rfl⟩)
          rw [hF1.out]
          go_wp2_with fail
          ((with_reducible refine (hasFlag_any _ A n c xss y _ C2 R2 (by omega) hf4).mono ?_); rintro e w' ⟨rfl, rfl⟩)
          rw [hF2.out]
          go_wp2_with fail
          ((with_reducible refine (firstWord_any _ A n c xss x y _ C2 (by omega) R2 (by omega) (by omega) _ rfl hf4 hS.out hiv.out hP.out.conn hxa hxc hya hyc).mono ?_); rintro e w9 ⟨A9, n9, c9, rfl, o9, f9⟩)
          rw [hd0.out, Int.toNat_natCast] at o9
          have e9 : n9 = d0 := by rw [← o9.lenI, fwL_length]
          subst e9
          have B9 : Below W1.heap.size W1 w9 := below_then B2 f9 (by omega)
          go_wp2_with fail
          go_ret2
          exact ⟨_, 0, _, [], _, rfl, Lib.hid hF.out.symm, Own.nil, by omega, hB.trans (B9.mono (by omega))⟩
end Go.Proofs.Ytdaljeghdiknpaa
/- DistX -/
namespace Go.Proofs.Ytdaljeghdiknpaa
open Go.RowKit
set_option linter.unusedVariables false
set_option maxRecDepth 100000
/-- what DistancesFrom returns -/
noncomputable def distF (xss : List (List Int)) (x : Int) : List Int × Int :=
  if isManB xss = true then (if inR 0 ((flg xss : Nat) - 1 : Int) x = true then (dist xss (flg xss) x, 0) else ([], 2)) else ([], 1)
set_option maxHeartbeats 4000000 in
theorem i_DistancesFrom_any (w : World) (A : Option Addr) (n c : Nat) (xss : List (List Int)) {lo hi : Nat} (h : RS w lo hi A n xss) (hhi : hi ≤ w.heap.size) (hnc : n ≤ c) (x : Int) (hx : -9223372036854775808 ≤ x ∧ x ≤ 9223372036854775807) :
    Calls Try.prog 25 #[.agg #[.slice A n c], .int .i64 x] w fun e w' => ∃ (A1 : Option Addr) (n1 c1 : Nat) (zs : List Int) (code : Int), e = .returned (.tuple #[.slice A1 n1 c1, .int .i64 code]) ∧ Hid ((zs, code) = distF xss x) ∧ Own w' w.heap.size w'.heap.size 2 A1 n1 c1 (zs.map (Value.int .i64)) ∧ n1 ≤ 1048576 ∧ Below w.heap.size w w' := by
  have hm := h.max
  have hl := h.len
  obtain ⟨hx0, hx1⟩ := hx
  have hR := rs_alloc h hhi (.cells #[.slice A n c] 40)
  have hC : (w.alloc (.cells #[.slice A n c] 40)).cell? ⟨w.heap.size, 0, none⟩ = some (.slice A n c) := al_new _ _ _ _ rfl
  have hB : Below w.heap.size w (w.alloc (.cells #[.slice A n c] 40)) := (Below.refl _ _).alloc (Nat.le_refl _) _
  cases hM : isManB xss with
  | false =>
    have hF : distF xss x = ([], 1) := by unfold distF; rw [hM]; rfl
    replace hF := Lib.hid hF
    replace hM := Lib.hid hM
    replace hl := Lib.hid hl
    go_enter Try.func25, Try.ntmps25
    go_wp2_with fail
    obtain ⟨W1, hW⟩ : ∃ W1 : World, w.alloc (.cells #[.slice A n c] 40) = W1 := ⟨_, rfl⟩
    have hz1 : W1.heap.size = w.heap.size + 1 := by rw [← hW]; simp
    rw [hW] at hR hC hB ⊢
    clear hW h 
    ((with_reducible refine (isMan_any A n c xss _ hR (by omega) hnc).mono ?_); rintro e w2 ⟨rfl, f2⟩)
    rw [hM.out]
    have y2 := f2.size
    have B2 : Below W1.heap.size W1 w2 := f2
    have C2 := (f2.cell (p := ⟨w.heap.size, 0, none⟩) (by simp; omega)).trans hC
    have R2 := hR.below f2 (by omega)
    go_wp2_with fail
    go_ret2
    exact ⟨_, 0, _, [], _, rfl, Lib.hid hF.out.symm, Own.nil, by omega, hB.trans (B2.mono (by omega))⟩
  | true =>
    have hP := isManB_iff.1 hM
    have hn1 : 1 ≤ n := by have := hP.r1; omega
    have hn5 : n ≤ 5 := by have := hP.r5; omega
    have hf2 := hP.f2
    have hf4 := hP.f4
    have hS := hP.sys
    replace hP := Lib.hid hP
    replace hS := Lib.hid hS
    cases hF1 : inR 0 ((flg xss : Nat) - 1 : Int) x with
    | false =>
      have hF : distF xss x = ([], 2) := by unfold distF; rw [if_pos hM, hF1]; rfl
      replace hF := Lib.hid hF
      replace hM := Lib.hid hM
      replace hl := Lib.hid hl
      replace hF1 := Lib.hid hF1
      go_enter Try.func25, Try.ntmps25
      go_wp2_with fail
      obtain ⟨W1, hW⟩ : ∃ W1 : World, w.alloc (.cells #[.slice A n c] 40) = W1 := ⟨_, rfl⟩
      have hz1 : W1.heap.size = w.heap.size + 1 := by rw [← hW]; simp
      rw [hW] at hR hC hB ⊢
      clear hW h 
      ((with_reducible refine (isMan_any A n c xss _ hR (by omega) hnc).mono ?_); rintro e w2 ⟨rfl, f2⟩)
      rw [hM.out]
      have y2 := f2.size
      have B2 : Below W1.heap.size W1 w2 := f2
      have C2 := (f2.cell (p := ⟨w.heap.size, 0, none⟩) (by simp; omega)).trans hC
      have R2 := hR.below f2 (by omega)
      go_wp2_with fail
      ((with_reducible refine (hasFlag_any _ A n c xss x _ C2 R2 (by omega) hf4).mono ?_); rintro e w' ⟨rfl, rfl⟩)
      rw [hF1.out]
      go_wp2_with fail
      go_ret2
      exact ⟨_, 0, _, [], _, rfl, Lib.hid hF.out.symm, Own.nil, by omega, hB.trans (B2.mono (by omega))⟩
    | true =>
      obtain ⟨hxa, hxb⟩ := inR_iff.1 hF1
      have hxc : x < (flg xss : Nat) := by omega
      have hF : distF xss x = (dist xss (flg xss) x, 0) := by unfold distF; rw [if_pos hM, if_pos hF1]
      replace hF := Lib.hid hF
      replace hM := Lib.hid hM
      replace hl := Lib.hid hl
      replace hF1 := Lib.hid hF1
      go_enter Try.func25, Try.ntmps25
      go_wp2_with fail
      obtain ⟨W1, hW⟩ : ∃ W1 : World, w.alloc (.cells #[.slice A n c] 40) = W1 := ⟨_, rfl⟩
      have hz1 : W1.heap.size = w.heap.size + 1 := by rw [← hW]; simp
      rw [hW] at hR hC hB ⊢
      clear hW h 
      ((with_reducible refine (isMan_any A n c xss _ hR (by omega) hnc).mono ?_); rintro e w2 ⟨rfl, f2⟩)
      rw [hM.out]
      have y2 := f2.size
      have B2 : Below W1.heap.size W1 w2 := f2
      have C2 := (f2.cell (p := ⟨w.heap.size, 0, none⟩) (by simp; omega)).trans hC
      have R2 := hR.below f2 (by omega)
      go_wp2_with fail
      ((with_reducible refine (hasFlag_any _ A n c xss x _ C2 R2 (by omega) hf4).mono ?_); rintro e w' ⟨rfl, rfl⟩)
      rw [hF1.out]
      go_wp2_with fail
      ((with_reducible refine (distances_any _ A n c xss x _ C2 (by omega) R2 (by omega) (by omega) _ rfl hf4 hS.out hxa (by omega)).mono ?_); rintro e w9 ⟨A9, rfl, o9, f9⟩)
      have B9 : Below W1.heap.size W1 w9 := below_then B2 f9 (by omega)
      go_wp2_with fail
      go_ret2
      exact ⟨_, _, _, _, _, rfl, Lib.hid hF.out.symm, o9.more (by omega) (Nat.le_refl _), by omega, hB.trans (B9.mono (by omega))⟩
end Go.Proofs.Ytdaljeghdiknpaa
/- Dia -/
namespace Go.Proofs.Ytdaljeghdiknpaa
open Go.RowKit
set_option linter.unusedVariables false
set_option maxRecDepth 100000
/-- the greatest of a and the numbers of l -/
def maxFrom (a : Int) (l : List Int) : Int := l.foldl (fun m x => if m < x then x else m) a
theorem maxFrom_snoc (a x : Int) (l : List Int) : maxFrom a (l ++ [x]) = if maxFrom a l < x then x else maxFrom a l := by unfold maxFrom; rw [List.foldl_append]; rfl
theorem maxFrom_spec (l : List Int) : ∀ a, a ≤ maxFrom a l ∧ (∀ x ∈ l, x ≤ maxFrom a l) ∧ (maxFrom a l = a ∨ maxFrom a l ∈ l) := by
  induction l with
  | nil => intro a; exact ⟨Int.le_refl _, by simp, .inl rfl⟩
  | cons y t ih =>
    intro a
    have e : maxFrom a (y :: t) = maxFrom (if a < y then y else a) t := rfl
    rw [e]
    have hb : a ≤ (if a < y then y else a) ∧ y ≤ (if a < y then y else a) ∧ ((if a < y then y else a) = a ∨ (if a < y then y else a) = y) := by split <;> omega
    generalize (if a < y then y else a) = b at *
    obtain ⟨h1, h2, h3⟩ := ih b
    refine ⟨by omega, fun x hx => ?_, ?_⟩
    · rcases List.mem_cons.1 hx with rfl | hx
      · omega
      · exact h2 x hx
    · rcases h3 with h3 | h3
      · rcases hb.2.2 with k | k
        · left; omega
        · right; rw [h3, k]; simp
      · right; simp [h3]
theorem maxFrom_two {a x : Int} {l : List Int} (hx : x ∈ l) : maxFrom a l = if a < maxFrom x l then maxFrom x l else a := by
  obtain ⟨h1, h2, h3⟩ := maxFrom_spec l a
  obtain ⟨k1, k2, k3⟩ := maxFrom_spec l x
  have e : maxFrom x l ∈ l := by rcases k3 with k | k
                                 · rw [k]; exact hx
                                 · exact k
  split
  · rename_i hh
    have := h2 _ e
    rcases h3 with h3 | h3
    · omega
    · have := k2 _ h3; omega
  · rename_i hh
    rcases h3 with h3 | h3
    · exact h3
    · have := k2 _ h3; omega
def diaGo (xss : List (List Int)) (n k : Nat) : Int := (List.range k).foldl (fun (m : Int) (f : Nat) => maxFrom m (dist xss n (f : Int))) (0 : Int)
theorem diaGo_succ (xss : List (List Int)) (n k : Nat) : diaGo xss n (k + 1) = maxFrom (diaGo xss n k) (dist xss n (k : Int)) := by unfold diaGo; rw [List.range_succ, List.foldl_append]; rfl
/-- what DiameterOf returns -/
noncomputable def diaF (xss : List (List Int)) : Int × Int := if isManB xss = true then (diaGo xss (flg xss) (flg xss), 0) else (0, 1)
theorem max_any (A : Option Addr) (n c : Nat) (x0 : Int) (t : List Int) (w : World) {lo hi : Nat} (h : RI w lo hi A n (x0 :: t)) :
    Calls Try.prog 95 #[.slice A n c] w fun e w' => e = .returned (.int .i64 (maxFrom x0 (x0 :: t))) ∧ w = w' := by
  have hm := h.max
  have hl := h.len
  have hn : 0 < n := by rw [← hl]; simp
  have hn1 : decide ((n : Int) < 1) = false := by simp; omega
  obtain ⟨b, o, u, rfl, _, _, hu, hc⟩ := h.at_ hn
  obtain rfl : x0 = u := by simpa using hu
  rw [Nat.add_zero] at hc
  replace hl := Lib.hid hl
  replace hu := Lib.hid hu
  go_enter Try.func95, Try.ntmps95
  go_wp2_with fail
  go_loopw [3, 4] (fun mv kv wq => ∃ k : Nat, 1 ≤ k ∧ k ≤ n ∧ kv = .int .i64 k ∧ mv = .int .i64 (maxFrom x0 ((x0 :: t).take k)) ∧ w = wq) (fun _ kv _ => n - (intOf kv).toNat)
  case atStart => exact ⟨1, by omega, by omega, rfl, by simp [maxFrom], by first | rfl | trivial⟩
  case round =>
    obtain ⟨k, hk1, hk, rfl, rfl, rfl⟩ := hrel
    by_cases hlt : k < n
    · obtain ⟨b', o', v, e, _, _, hv, hcv⟩ := h.at_ hlt
      injection e with e; injection e with e1 e2 _; subst e1; subst e2
      have htk := take_succ_of hv
      have hst : maxFrom x0 ((x0 :: t).take (k + 1)) = if maxFrom x0 ((x0 :: t).take k) < v then v else maxFrom x0 ((x0 :: t).take k) := by rw [htk, maxFrom_snoc]
      replace hst := Lib.hid hst
      replace hv := Lib.hid hv
      replace htk := Lib.hid htk
      generalize maxFrom x0 ((x0 :: t).take k) = m at *
      go_wp2_with fail
      go_roundw
      case measure => simp [intOf]; omega
      case rel =>
        refine ⟨k + 1, by omega, by omega, by go_num, ?_, by first | rfl | trivial⟩
        rw [hst.out]
    · go_wp2_with fail
      go_ret
      have hkn : k = n := by omega
      subst hkn
      exact ⟨ret_int (by rw [List.take_of_length_le (by have := hl.out; omega)]), rfl⟩
set_option maxHeartbeats 4000000 in
theorem i_DiameterOf_any (w : World) (A : Option Addr) (n c : Nat) (xss : List (List Int)) {lo hi : Nat} (h : RS w lo hi A n xss) (hhi : hi ≤ w.heap.size) (hnc : n ≤ c) :
    Calls Try.prog 37 #[.agg #[.slice A n c]] w fun e w' => ∃ (y code : Int), e = .returned (.tuple #[.int .i64 y, .int .i64 code]) ∧ Hid ((y, code) = diaF xss) ∧ Below w.heap.size w w' := by
  have hm := h.max
  have hl := h.len
  have hR := rs_alloc h hhi (.cells #[.slice A n c] 40)
  have hC : (w.alloc (.cells #[.slice A n c] 40)).cell? ⟨w.heap.size, 0, none⟩ = some (.slice A n c) := al_new _ _ _ _ rfl
  have hB : Below w.heap.size w (w.alloc (.cells #[.slice A n c] 40)) := (Below.refl _ _).alloc (Nat.le_refl _) _
  cases hM : isManB xss with
  | false =>
    have hF : diaF xss = (0, 1) := by unfold diaF; rw [hM]; rfl
    replace hF := Lib.hid hF
    replace hM := Lib.hid hM
    replace hl := Lib.hid hl
    go_enter Try.func37, Try.ntmps37
    go_wp2_with fail
    obtain ⟨W1, hW⟩ : ∃ W1 : World, w.alloc (.cells #[.slice A n c] 40) = W1 := ⟨_, rfl⟩
    have hz1 : W1.heap.size = w.heap.size + 1 := by rw [← hW]; simp
    rw [hW] at hR hC hB ⊢
    clear hW h 
    ((with_reducible refine (isMan_any A n c xss _ hR (by omega) hnc).mono ?_); rintro e w2 ⟨rfl, f2⟩)
    rw [hM.out]
    have y2 := f2.size
    have B2 : Below W1.heap.size W1 w2 := f2
    have C2 := (f2.cell (p := ⟨w.heap.size, 0, none⟩) (by simp; omega)).trans hC
    have R2 := hR.below f2 (by omega)
    go_wp2_with fail
    go_ret2
    exact ⟨_, _, rfl, Lib.hid hF.out.symm, hB.trans (B2.mono (by omega))⟩
  | true =>
    have hP := isManB_iff.1 hM
    have hn1 : 1 ≤ n := by have := hP.r1; omega
    have hn5 : n ≤ 5 := by have := hP.r5; omega
    have hf2 := hP.f2
    have hf4 := hP.f4
    have hS := hP.sys
    replace hP := Lib.hid hP
    replace hS := Lib.hid hS
    have hF : diaF xss = (diaGo xss (flg xss) (flg xss), 0) := by unfold diaF; rw [if_pos hM]
    replace hF := Lib.hid hF
    replace hM := Lib.hid hM
    replace hl := Lib.hid hl
    go_enter Try.func37, Try.ntmps37
    go_wp2_with fail
    obtain ⟨W1, hW⟩ : ∃ W1 : World, w.alloc (.cells #[.slice A n c] 40) = W1 := ⟨_, rfl⟩
    have hz1 : W1.heap.size = w.heap.size + 1 := by rw [← hW]; simp
    rw [hW] at hR hC hB ⊢
    clear hW h 
    ((with_reducible refine (isMan_any A n c xss _ hR (by omega) hnc).mono ?_); rintro e w2 ⟨rfl, f2⟩)
    rw [hM.out]
    have y2 := f2.size
    have B2 : Below W1.heap.size W1 w2 := f2
    have C2 := (f2.cell (p := ⟨w.heap.size, 0, none⟩) (by simp; omega)).trans hC
    have R2 := hR.below f2 (by omega)
    go_wp2_with fail
    ((with_reducible refine (flags_any _ A n c xss _ C2 R2 (by omega)).mono ?_); rintro e w' ⟨rfl, rfl⟩)
    go_wp2_with fail
    go_loopw [4, 10] (fun mv kv wq => ∃ k : Nat, k ≤ flg xss ∧ kv = .int .i64 k ∧ mv = .int .i64 (diaGo xss (flg xss) k) ∧ Below W1.heap.size W1 wq) (fun _ kv _ => flg xss - (intOf kv).toNat)
    case atStart => exact ⟨0, by omega, rfl, rfl, B2⟩
    case round =>
      obtain ⟨k, hk, rfl, rfl, hb⟩ := hrel
      have Ck := (hb.cell (p := ⟨w.heap.size, 0, none⟩) (by simp; omega)).trans hC
      have Rk := hR.below hb (by omega)
      have yk := hb.size
      by_cases hlt : k < flg xss
      · go_wp2_with fail
        ((with_reducible refine (distances_any _ A n c xss (k : Int) _ Ck (by omega) Rk (by omega) (by omega) _ rfl hf4 hS.out (by omega) (by omega)).mono ?_); rintro e w9 ⟨A9, rfl, o9, f9⟩)
        have B9 : Below W1.heap.size W1 w9 := below_then hb f9 (by omega)
        have hdl := o9.lenI
        have hmx := diaGo_succ xss (flg xss) k
        obtain ⟨x0, t0, hd⟩ : ∃ x0 t0, dist xss (flg xss) (k : Int) = x0 :: t0 := by
          cases hd : dist xss (flg xss) (k : Int) with
          | nil => rw [hd] at hdl; simp at hdl; omega
          | cons x0 t0 => exact ⟨x0, t0, rfl⟩
        rw [hd] at o9
        rw [hd, maxFrom_two (x := x0) (by simp)] at hmx
        replace hmx := Lib.hid hmx
        replace hd := Lib.hid hd
        replace hdl := Lib.hid hdl
        go_wp2_with fail
        ((with_reducible refine (max_any _ _ _ x0 t0 _ o9.ri).mono ?_); rintro e w' ⟨rfl, rfl⟩)
        generalize maxFrom x0 (x0 :: t0) = v at *
        generalize diaGo xss (flg xss) k = m at *
        go_wp2_with fail
        go_roundw
        case measure => simp [intOf]; omega
        case rel =>
          refine ⟨k + 1, by omega, by go_num, ?_, B9⟩
          rw [hmx.out]
      · go_wp2_with fail
        go_ret2
        have hkn : k = flg xss := by omega
        subst hkn
        exact ⟨_, _, rfl, Lib.hid hF.out.symm, hB.trans (hb.mono (by omega))⟩
end Go.Proofs.Ytdaljeghdiknpaa
/- PthP -/
namespace Go.Proofs.Ytdaljeghdiknpaa
set_option linter.unusedVariables false
theorem dist_le {xss : List (List Int)} {n : Nat} {x y : Int} {D E : List Int} (hs : SysOf xss n) (hi : Invo xss n) (hD : DFin xss n x D) (hE : DFin xss n y E) : ∀ (k : Nat) (z : Int), 0 ≤ z → z < n → dat E z = k → dat D y ≤ dat D z + k := by
  intro k
  induction k with
  | zero =>
    intro z z0 z1 h
    have := (dist_zero hE z0 z1).2 h
    subst this
    omega
  | succ k ih =>
    intro z z0 z1 h
    have hne : z ≠ y := fun e => by
      have := (dist_zero hE z0 z1).1 e
      omega
    obtain ⟨u, p, hp, u0, u1, e, hd⟩ := hE.par z z0 z1 hne
    have h1 := ih u u0 u1 (by omega)
    have h2 := hD.lip z p z0 z1 hp
    rw [e, hi p hp u u0 u1] at h2
    rw [← e] at h2
    omega
theorem dist_symm {xss : List (List Int)} {n : Nat} {x y : Int} {D E : List Int} (hs : SysOf xss n) (hi : Invo xss n) (hD : DFin xss n x D) (hE : DFin xss n y E) (x0 : 0 ≤ x) (x1 : x < n) (y0 : 0 ≤ y) (y1 : y < n) : dat D y = dat E x := by
  have a := hD.rng y y0 y1
  have b := hE.rng x x0 x1
  have h1 := dist_le hs hi hD hE (dat E x).toNat x x0 x1 (by omega)
  have h2 := dist_le hs hi hE hD (dat D y).toNat y y0 y1 (by omega)
  rw [hD.zero] at h1
  rw [hE.zero] at h2
  omega
theorem fw_run {xss : List (List Int)} {n : Nat} {x : Int} {D : List Int} (hs : SysOf xss n) (hi : Invo xss n) (h : DFin xss n x D) : ∀ (d : Nat) (f : Int), 0 ≤ f → f < n → dat D f = d → runW xss (fwL xss D d f) f = x ∧ ∀ g ∈ fwL xss D d f, 0 ≤ g ∧ g < xss.length := by
  intro d
  induction d with
  | zero =>
    intro f f0 f1 hd
    exact ⟨(dist_zero h f0 f1).2 hd, by simp [fwL]⟩
  | succ d ih =>
    intro f f0 f1 hd
    have hne : f ≠ x := fun e => by
      have := (dist_zero h f0 f1).1 e
      omega
    obtain ⟨p0, hp0, hn0⟩ := near_ex hs hi h f0 f1 hne
    have hlt : xss.findIdx (nearB D f) < xss.length := List.findIdx_lt_length_of_exists ⟨p0, hp0, hn0⟩
    have hnb : nearB D f xss[xss.findIdx (nearB D f)] = true := List.findIdx_getElem
    have hget : xss[stepK xss D f]? = some xss[xss.findIdx (nearB D f)] := List.getElem?_eq_getElem hlt
    obtain ⟨p, hp⟩ : ∃ p, xss[xss.findIdx (nearB D f)] = p := ⟨_, rfl⟩
    rw [hp] at hnb hget
    have hpm := mem_of_get? hget
    have hdn : dat D (at' p f) = dat D f - 1 := (near_iff hs hi h f0 f1 hpm).1 (of_decide_eq_true hnb)
    have hr := at'_rng (hs p hpm).1 (hs p hpm).2.2 f0 f1
    obtain ⟨h1, h2⟩ := ih (at' p f) hr.1 hr.2 (by omega)
    have e : fwL xss D (d + 1) f = (stepK xss D f : Int) :: fwL xss D d (at' p f) := fwL_step hget rfl
    rw [e]
    refine ⟨?_, fun g hg => ?_⟩
    · show runW xss (fwL xss D d (at' p f)) ((xss.getD ((stepK xss D f : Int)).toNat []).getD f.toNat 0) = x
      rw [Int.toNat_natCast, getD_some hget]
      exact h1
    · rcases List.mem_cons.1 hg with rfl | hg
      · have : stepK xss D f < xss.length := hlt
        omega
      · exact h2 g hg
theorem dia_ge {xss : List (List Int)} {n : Nat} : ∀ k f : Nat, f < k → ∀ v ∈ dist xss n (f : Int), v ≤ diaGo xss n k := by
  intro k
  induction k with
  | zero => intro f hf; omega
  | succ k ih =>
    intro f hf v hv
    rw [diaGo_succ]
    obtain ⟨h1, h2, _⟩ := maxFrom_spec (dist xss n (k : Int)) (diaGo xss n k)
    by_cases e : f = k
    · subst e
      exact h2 v hv
    · have := ih f (by omega) v hv
      omega
end Go.Proofs.Ytdaljeghdiknpaa
