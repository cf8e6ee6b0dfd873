/- The group of a system: l01Own2, l01Group of the reference. No condition but the sizes of memory. -/
import Derived.Test.YtcjnhiglfkcmiaaDoorGrpS
import Derived.Test.YtcjnhiglfkcmiaaDoorPow
import Derived.Test.YtcjnhiglfkcmiaaDoorLawS
namespace Go.Proofs.YtcjnhiglfkcmiaaDoor
open Go.RowKit
set_option linter.unusedVariables false
set_option maxRecDepth 100000
theorem same_drw {w : World} {lo hi : Nat} : Same lo hi w w.drew := fun _ _ _ => rfl
set_option maxHeartbeats 4000000 in
theorem l01Own2_any (A : Option Addr) (n c : Nat) (xss : List (List Int)) (w : World) {lo hi : Nat} (h : RS w lo hi A n xss) (hhi : hi ≤ w.heap.size) (hn : n ≤ 1048576) (hr : ∀ xs ∈ xss, xs.length ≤ 1048576) :
    Calls Tryd.prog 94 #[.slice A n c] w fun e w' => ∃ (A1 : Option Addr) (c1 : Nat), e = .returned (.slice A1 n c1) ∧ OwnS w' w.heap.size w'.heap.size 24 2 A1 n c1 xss ∧ Below w.heap.size w w' := by
  obtain ⟨s0, hs0, hu0, hu1, hu2⟩ := info_parts infoS
  have hl := h.len
  have h0 := World.ownsRow_lit (e := 24) (base := w.heap.size) (size := 1) w #[] 0 (Nat.le_refl _) (by omega) rfl
  have B0 : Below w.heap.size w (w.alloc (.cells #[] 24)) := (Below.refl _ _).alloc (Nat.le_refl _) _
  replace hr := Lib.hid hr
  replace hl := Lib.hid hl
  go_enter Tryd.func94, Tryd.ntmps94
  go_wp2_with fail
  obtain ⟨W1, hW⟩ : ∃ W1 : World, w.alloc (.cells #[] 24) = W1 := ⟨_, rfl⟩
  rw [hW] at h0 B0 ⊢
  clear hW
  go_loopw [4, 3] (fun kv sv wq => ∃ (k : Nat) (A1 : Option Addr) (c1 : Nat), k ≤ n ∧ kv = .int .i64 k ∧ sv = .slice A1 k c1 ∧ OwnS wq w.heap.size wq.heap.size 24 2 A1 k c1 (xss.take k) ∧ Below w.heap.size w wq) (fun kv _ _ => n - (intOf kv).toNat)
  case atStart => exact ⟨0, _, 0, by omega, rfl, rfl, ⟨[], Own.of_row h0, RowsOwn.nil⟩, B0⟩
  case round =>
    clear h0 B0
    obtain ⟨k, A1, c1, hk, rfl, rfl, hO, hB⟩ := hrel
    have yB := hB.size
    by_cases hkn : k < n
    · obtain ⟨b, o, Ap, np, cp, p, rfl, _, hb, hp, hpc, hpr⟩ := (h.below hB hhi).at_ hkn
      have hpl := hpr.len
      have hpn := hr.out p (mem_of_get? hp)
      have hK := own1_any Ap np cp p wr hpr (by omega) (by omega)
      have htk : xss.take (k + 1) = xss.take k ++ [p] := by rw [List.take_add_one, hp]; rfl
      replace hp := Lib.hid hp
      replace htk := Lib.hid htk
      replace hpl := Lib.hid hpl
      replace hpn := Lib.hid hpn
      obtain ⟨vs, ho, hrw⟩ := hO
      go_wp2_with fail
      ((with_reducible refine hK.mono ?_); rintro e w5 ⟨A5, c5, rfl, o5, f5⟩)
      clear hK hpr hpc
      have y5 := f5.size
      have hB5 := hB.trans (f5.mono yB)
      have ho5 := ho.below f5 (Nat.le_refl _)
      have hrw5 := hrw.keep (Same.of_below f5 (Nat.le_refl _))
      clear ho hrw hB
      go_wp2_with (at_builtin; refine wpList_append1 w5 rfl (.tmp 12) (.tmp 18) 33 rfl w.heap.size 24 s0 (.slice none 0 0) 24 Tryd.underlying33 hs0 hu0 hu1 hu2 rfl (by omega) A1 k c1 _ (.slice A5 np c5) rfl ho5.1 _ rfl rfl rfl (by omega) (by omega) ?_)
      intro g6 c6 w6 ho6 hg6 hlo6 hlt6 hor6
      have y6 := hg6.size
      have hB6 := hB5.grown hg6 (by omega) (fun q hq => by have := (ho5.1.lt q hq).1; omega)
      have hrw6 := (hrw5.kept_ty ho5.1 (by decide) hg6).snoc (o5.kept_ty ho5.1 (by decide) hg6) yB y5
      have hO6 : OwnS w6 w.heap.size w6.heap.size 24 2 (some ⟨g6, 0, none⟩) (k + 1) c6 (xss.take (k + 1)) := ⟨_, Own.of_row ho6, by rw [htk.out]; exact hrw6.more (Nat.le_refl _) y6⟩
      clear ho5 hrw5 ho6 hg6 hrw6 o5
      go_wp2_with fail
      go_roundw
      case measure => simp [intOf] <;> omega
      case rel => exact ⟨k + 1, _, c6, by omega, by go_num, rfl, hO6, hB6⟩
    · obtain rfl : k = n := by omega
      rw [List.take_of_length_le (by rw [hl.out]; exact Nat.le_refl _)] at hO
      go_wp2_with fail
      go_ret
      exact ⟨A1, c1, rfl, hO, hB⟩
/-- the memory of the reference's search: two rows of rows, that of the elements found and the sorted one, and their rows -/
structure GS (w : World) (wq : World) (A6 : Option Addr) (n6 c6 : Nat) (vsF : List Value) (A7 : Option Addr) (n7 c7 : Nat) (vsS : List Value) (u : Value) (n : Nat) (F S : List (List Int)) : Prop where
  bag : Bag wq w.heap.size wq.heap.size (⟨24, .slice A6 n6 c6, n6, vsF⟩ :: ⟨24, .slice A7 n7 c7, n7, vsS⟩ :: rowsE 2 (u :: vsF) (idL n :: F))
  fl : vsF.length = F.length
  fn : F.length = n6
  sl : vsS.length = S.length
  sn : S.length = n7
  per : S.Perm F
  srt : SrtL S
  mem : ∀ (j : Nat) (v : Value) (xs : List Int), vsS[j]? = some v → S[j]? = some xs → ∃ k : Nat, (u :: vsF)[k]? = some v ∧ (idL n :: F)[k]? = some xs
  bel : Below w.heap.size w wq
section
variable {w wq w2 : World} {A6 A7 : Option Addr} {n6 c6 n7 c7 n : Nat} {vsF vsS : List Value} {u : Value} {F S : List (List Int)}
theorem GS.hdr (g : GS w wq A6 n6 c6 vsF A7 n7 c7 vsS u n F S) : Own wq w.heap.size wq.heap.size 24 A6 n6 c6 vsF := g.bag.getO (j := 0) rfl
theorem GS.hdr2 (g : GS w wq A6 n6 c6 vsF A7 n7 c7 vsS u n F S) : Own wq w.heap.size wq.heap.size 24 A7 n7 c7 vsS := g.bag.getO (j := 1) rfl
theorem GS.row (g : GS w wq A6 n6 c6 vsF A7 n7 c7 vsS u n F S) {k : Nat} {v : Value} {xs : List Int} (h1 : (u :: vsF)[k]? = some v) (h2 : (idL n :: F)[k]? = some xs) : ∃ A1 n1 c1, v = .slice A1 n1 c1 ∧ Own wq w.heap.size wq.heap.size 2 A1 n1 c1 (xs.map (Value.int .i64)) :=
  g.bag.row (fun e he => List.mem_cons_of_mem _ (List.mem_cons_of_mem _ he)) h1 h2
theorem GS.rowS (g : GS w wq A6 n6 c6 vsF A7 n7 c7 vsS u n F S) (k : Nat) (v : Value) (xs : List Int) (h1 : vsS[k]? = some v) (h2 : S[k]? = some xs) : ∃ A1 n1 c1, v = .slice A1 n1 c1 ∧ RI wq w.heap.size wq.heap.size A1 n1 xs := by
  obtain ⟨j, e1, e2⟩ := g.mem k v xs h1 h2
  obtain ⟨A1, n1, c1, e, o⟩ := g.row e1 e2
  exact ⟨A1, n1, c1, e, o.ri⟩
theorem GS.below (g : GS w wq A6 n6 c6 vsF A7 n7 c7 vsS u n F S) (f : Below wq.heap.size wq w2) : GS w w2 A6 n6 c6 vsF A7 n7 c7 vsS u n F S :=
  ⟨(g.bag.below f (Nat.le_refl _)).more f.size, g.fl, g.fn, g.sl, g.sn, g.per, g.srt, g.mem, g.bel.trans (f.mono g.bel.size)⟩
theorem GS.same (g : GS w wq A6 n6 c6 vsF A7 n7 c7 vsS u n F S) (hg : wq.grownBy w2 (Value.slice A7 n7 c7).ownBlock) (ho : w2.ownsRow w.heap.size 24 1 (.slice A7 n7 c7) n7 vsS) : GS w w2 A6 n6 c6 vsF A7 n7 c7 vsS u n F S := by
  have b := g.bag.set (j := 1) (e' := ⟨24, .slice A7 n7 c7, n7, vsS⟩) rfl (Nat.le_refl _) ho hg (fun z hz => .inl hz)
  exact ⟨b, g.fl, g.fn, g.sl, g.sn, g.per, g.srt, g.mem, g.bel.grown hg g.bel.size (fun z hz => (g.hdr2.1.lt z hz).1)⟩
/-- a new element: its row is made, put into the sorted list, then behind those found -/
theorem GS.add (g : GS w wq A6 n6 c6 vsF A7 n7 c7 vsS u n F S) {w5 w6 w7 : World} (f : Below wq.heap.size wq w5) {A5 : Option Addr} {n5 c5 : Nat} {q : List Int} (o5 : Own w5 wq.heap.size w5.heap.size 2 A5 n5 c5 (q.map (Value.int .i64)))
    (hg : w5.grownBy w6 (Value.slice A7 n7 c7).ownBlock) {g8 c8 low : Nat} (hor : A7 = some ⟨g8, 0, none⟩ ∨ w5.heap.size ≤ g8) (hlow : low ≤ n7) (hP : PutB S q low low) (hq : q ∉ S)
    (ho : w6.ownsRow w.heap.size 24 1 (.slice (some ⟨g8, 0, none⟩) (n7 + 1) c8) (n7 + 1) (vsS.take low ++ .slice A5 n5 c5 :: vsS.drop low))
    {g9 c9 : Nat} (ho9 : w7.ownsRow w.heap.size 24 1 (.slice (some ⟨g9, 0, none⟩) (n6 + 1) c9) (n6 + 1) (vsF ++ [.slice A5 n5 c5])) (hg9 : w6.grownBy w7 (Value.slice A6 n6 c6).ownBlock) (hor9 : A6 = some ⟨g9, 0, none⟩ ∨ w6.heap.size ≤ g9) :
    GS w w7 (some ⟨g9, 0, none⟩) (n6 + 1) c9 (vsF ++ [.slice A5 n5 c5]) (some ⟨g8, 0, none⟩) (n7 + 1) c8 (vsS.take low ++ .slice A5 n5 c5 :: vsS.drop low) u n (F ++ [q]) (S.take low ++ q :: S.drop low) := by
  have hq5 : q.length = n5 := by have := o5.len; simpa using this
  subst hq5
  have z := f.size
  have z6 := hg.size
  have z7 := hg9.size
  have zb := g.bel.size
  have g5 := g.below f
  have hsn := g.sn
  have hsl := g.sl
  have b1 := g.bag.below f (Nat.le_refl _)
  have b2 : Bag w5 w.heap.size w5.heap.size ((⟨24, .slice A6 n6 c6, n6, vsF⟩ :: ⟨24, .slice A7 n7 c7, n7, vsS⟩ :: rowsE 2 (u :: vsF) (idL n :: F)) ++ ⟨2, .slice A5 q.length c5, q.length, q.map (Value.int .i64)⟩ :: []) := by
    refine Bag.ins (hi := wq.heap.size) (by simpa using b1) zb z o5.1 (fun y hy => (o5.1.lt y hy).2)
  have b3 := b2.set (j := 1) (e := ⟨24, .slice A7 n7 c7, n7, vsS⟩) (e' := ⟨24, .slice (some ⟨g8, 0, none⟩) (n7 + 1) c8, n7 + 1, vsS.take low ++ .slice A5 q.length c5 :: vsS.drop low⟩) rfl (Nat.le_refl _) ho hg (fun y hy => by
    have hy' : g8 = y := by simpa [Value.ownBlock] using hy
    subst hy'
    rcases hor with h | h
    · left; rw [h]; rfl
    · exact .inr h)
  have b4 := b3.set (j := 0) (e := ⟨24, .slice A6 n6 c6, n6, vsF⟩) (e' := ⟨24, .slice (some ⟨g9, 0, none⟩) (n6 + 1) c9, n6 + 1, vsF ++ [.slice A5 q.length c5]⟩) rfl (Nat.le_refl _) ho9 hg9 (fun y hy => by
    have hy' : g9 = y := by simpa [Value.ownBlock] using hy
    subst hy'
    rcases hor9 with h | h
    · left; rw [h]; rfl
    · exact .inr h)
  have hh6 : w6.ownsRow w.heap.size 24 1 (.slice A6 n6 c6) n6 vsF := b3.get (j := 0) rfl
  have hB : Below w.heap.size w w7 := (g5.bel.grown hg (by omega) (fun y hy => (g5.hdr2.1.lt y hy).1)).grown hg9 (by omega) (fun y hy => (hh6.lt y hy).1)
  have hper : (S.take low ++ q :: S.drop low).Perm (F ++ [q]) := by
    have h1 : (S.take low ++ q :: S.drop low).Perm (q :: (S.take low ++ S.drop low)) := List.perm_middle
    rw [List.take_append_drop] at h1
    exact h1.trans ((List.Perm.cons q g.per).trans (List.perm_append_singleton q F).symm)
  have hfl := g.fl
  refine ⟨?_, by simp [g.fl], by simp [g.fn], by simp [g.sl] <;> omega, by simp <;> omega, hper, hP.ins g.srt hq, fun j v xs h1 h2 => ?_, hB⟩
  · have e : rowsE 2 (u :: (vsF ++ [.slice A5 q.length c5])) (idL n :: (F ++ [q])) = rowsE 2 (u :: vsF) (idL n :: F) ++ [⟨2, .slice A5 q.length c5, q.length, q.map (Value.int .i64)⟩] := by
      have := rowsE_snoc (T := 2) (vs := u :: vsF) (xss := idL n :: F) (v := .slice A5 q.length c5) (ys := q) (by simp [g.fl])
      simpa using this
    rw [e]
    simpa using b4
  · rcases Nat.lt_trichotomy j low with hj | rfl | hj
    · rw [List.getElem?_append_left (by rw [List.length_take]; omega), List.getElem?_take_of_lt hj] at h1 h2
      obtain ⟨k, e1, e2⟩ := g.mem j v xs h1 h2
      refine ⟨k, ?_, ?_⟩
      · have hk := (List.getElem?_eq_some_iff.1 e1).1
        rw [← List.cons_append, List.getElem?_append_left hk]; exact e1
      · have hk := (List.getElem?_eq_some_iff.1 e2).1
        rw [← List.cons_append, List.getElem?_append_left hk]; exact e2
    · rw [List.getElem?_append_right (by rw [List.length_take]; omega), List.length_take, show j - min j vsS.length = 0 by omega] at h1
      rw [List.getElem?_append_right (by rw [List.length_take]; omega), List.length_take, show j - min j S.length = 0 by omega] at h2
      refine ⟨F.length + 1, ?_, ?_⟩
      · rw [List.getElem?_cons_succ, List.getElem?_append_right (by omega), hfl, Nat.sub_self]; exact h1
      · rw [List.getElem?_cons_succ, List.getElem?_append_right (by omega), Nat.sub_self]; exact h2
    · obtain ⟨t, rfl⟩ : ∃ t, j = low + 1 + t := ⟨j - low - 1, by omega⟩
      rw [List.getElem?_append_right (by rw [List.length_take]; omega), List.length_take, show low + 1 + t - min low vsS.length = t + 1 by omega, List.getElem?_cons_succ, List.getElem?_drop] at h1
      rw [List.getElem?_append_right (by rw [List.length_take]; omega), List.length_take, show low + 1 + t - min low S.length = t + 1 by omega, List.getElem?_cons_succ, List.getElem?_drop] at h2
      obtain ⟨k, e1, e2⟩ := g.mem (low + t) v xs h1 h2
      refine ⟨k, ?_, ?_⟩
      · have hk := (List.getElem?_eq_some_iff.1 e1).1
        rw [← List.cons_append, List.getElem?_append_left hk]; exact e1
      · have hk := (List.getElem?_eq_some_iff.1 e2).1
        rw [← List.cons_append, List.getElem?_append_left hk]; exact e2
end
end Go.Proofs.YtcjnhiglfkcmiaaDoor
