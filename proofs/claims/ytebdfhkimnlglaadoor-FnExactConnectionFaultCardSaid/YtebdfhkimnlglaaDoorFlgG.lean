/- Walks: the flags of a poset: the program's closure that grows them. No condition but that it is a poset. -/
import Derived.Test.YtebdfhkimnlglaaDoorFlgE
namespace Go.Proofs.YtebdfhkimnlglaaDoor
open Go.RowKit
set_option linter.unusedVariables false
set_option maxRecDepth 100000
open Classical
theorem growT_app (r : Int) (ps : List Int) (xss : List (List Int)) (k : Nat) (s a b : List Int) : growT r ps xss k s (a ++ b) = growT r ps xss k s a ++ growT r ps xss k s b := by unfold growT; rw [List.flatMap_append]
theorem cloneI_any (A : Option Addr) (n c : Nat) (xs : List Int) (w : World) {lo hi : Nat} (h : RI w lo hi A n xs) (hhi : hi ≤ w.heap.size) (hn2 : n ≤ 1048576) :
    Calls Tryd.prog 31 #[.slice A n c] w fun e w' => ∃ (A1 : Option Addr) (c1 : Nat), e = .returned (.slice A1 n c1) ∧ Own w' w.heap.size w'.heap.size 2 A1 n c1 (xs.map (Value.int .i64)) ∧ Below w.heap.size w w' := by
  obtain ⟨j0, hj0, hy0, hy1, hy2⟩ := info_parts infoI
  have hl := h.len
  have h0 := World.ownsRow_lit (e := 2) (base := w.heap.size) (size := 1) w #[] 0 (Nat.le_refl _) (by omega) rfl
  have hr : RI (w.alloc (.cells #[] 2)) lo hi A n xs := h.keep (same_alloc w (.cells #[] 2) lo hi hhi)
  rcases A with _ | ⟨b, o, q⟩
  · have hn0 : n = 0 := by
      rcases Nat.eq_zero_or_pos n with h1 | h1
      · exact h1
      · obtain ⟨b, o, e, _⟩ := h.2.2 h1
        cases e
    subst hn0
    have hx : xs = [] := List.eq_nil_of_length_eq_zero hl
    subst hx
    have heq : ∀ w' : World, (binOp .eql 22 (.slice none 0 c) (.slice none 0 0)).run Tryd.prog w' = .ok (.bool true) w' := fun w' => Lib.run_eql_slice_nil w' _ _ _ _ _ _ _ Tryd.underlying22
    go_enter Tryd.func31, Tryd.ntmps31
    go_wp2_with fail
    go_ret
    exact ⟨none, 0, rfl, Own.nil, Below.refl _ _⟩
  · have heq : ∀ w' : World, (binOp .eql 22 (.slice (some ⟨b, o, q⟩) n c) (.slice none 0 0)).run Tryd.prog w' = .ok (.bool false) w' := fun w' => Lib.run_eql_slice_nil w' _ _ _ _ _ _ _ Tryd.underlying22
    replace hl := Lib.hid hl
    go_enter Tryd.func31, Tryd.ntmps31
    go_wp2_with (at_builtin; refine wpList_appendL (w.alloc (.cells #[] 2)) rfl (.tmp 5) (.tmp 6) 22 rfl w.heap.size 2 j0 (.int .i64 0) 8 Tryd.underlying22 hj0 hy0 hy1 hy2 rfl (by omega) _ 0 0 [] rfl h0 _ n c (xs.map (Value.int .i64)) lo hi rfl hr (ints_oneCell _ _) (by omega) (by simp) ?_)
    intro A2 c2 w2 ho hg hor
    have hb : Below w.heap.size w w2 := ((Below.refl _ _).alloc (Nat.le_refl _) _).grown hg (by simp) (fun q hq => by have := (h0.lt q hq).1; omega)
    go_wp2_with fail
    go_ret
    exact ⟨A2, c2, by simp, Own.of_row (by simpa using ho), hb⟩
/-- w' is w but for the cell of the block gf, the header's block and new blocks -/
structure GrewB (gf : Nat) (w w' : World) (v v' : Value) : Prop where
  os : w'.os = w.os
  tape : w'.tape = w.tape
  output : w'.output = w.output
  size : w.heap.size ≤ w'.heap.size
  block : ∀ z, z < w.heap.size → z ≠ gf → v.ownBlock ≠ some z → w'.heap[z]? = w.heap[z]?
  blk : ∀ z, v'.ownBlock = some z → v.ownBlock = some z ∨ w.heap.size ≤ z
section
variable {gf : Nat} {w w' w'' : World} {v v' v'' : Value}
theorem GrewB.refl (gf : Nat) (w : World) (v : Value) : GrewB gf w w v v := ⟨rfl, rfl, rfl, Nat.le_refl _, fun _ _ _ _ => rfl, fun _ h => .inl h⟩
theorem GrewB.trans (h : GrewB gf w w' v v') (k : GrewB gf w' w'' v' v'') : GrewB gf w w'' v v'' := by
  refine ⟨k.os.trans h.os, k.tape.trans h.tape, k.output.trans h.output, Nat.le_trans h.size k.size, fun z hz hg hne => ?_, fun z hz => ?_⟩
  · rw [k.block z (Nat.lt_of_lt_of_le hz h.size) hg (fun e => ?_)]
    · exact h.block z hz hg hne
    · rcases h.blk z e with e2 | e2
      · exact hne e2
      · omega
  · rcases k.blk z hz with e | e
    · exact h.blk z e
    · exact .inr (Nat.le_trans h.size e)
theorem GrewB.below (h : GrewB gf w w' v v') (k : Below w'.heap.size w' w'') : GrewB gf w w'' v v' :=
  ⟨k.os.trans h.os, k.tape.trans h.tape, k.output.trans h.output, Nat.le_trans h.size k.size, fun z hz hg hne => (k.block z (Nat.lt_of_lt_of_le hz h.size)).trans (h.block z hz hg hne), h.blk⟩
theorem GrewB.same {lo hi : Nat} (h : GrewB gf w w' v v') (hh : hi ≤ w.heap.size) (hg : gf < lo ∨ hi ≤ gf) (hv : ∀ z, v.ownBlock = some z → z < lo ∨ hi ≤ z) : Same lo hi w w' := fun z h1 h2 => h.block z (by omega) (by omega) (fun e => by have := hv z e; omega)
/-- the header grown and the cell of the block gf written -/
theorem GrewB.of_grew (h : Grew w w' v v') (u : Value) : GrewB gf w (w'.setCell ⟨gf, 0, none⟩ u) v v' :=
  ⟨h.g.os, h.g.tape, h.g.output, by rw [World.size_setCell]; exact h.g.size, fun z hz hg hne => (Below.heap_setCell _ _ _ _ (by simpa using hg)).trans (h.g.block z hz (fun e => hne e.symm)), h.blk⟩
end
theorem Lst.far {w : World} {base m n c : Nat} {A : Option Addr} {xss : List (List Int)} {p : Addr} (h : Lst w base m A n c xss) (hp : p.block < base) (u : Value) : Lst (w.setCell p u) base m A n c xss := by
  obtain ⟨vs, h1, h2⟩ := h
  exact ⟨vs, by rw [World.size_setCell]; exact h1.far (.inl hp) u, h2.keep (same_set _ _ _ _ _ (.inl hp))⟩
/-- the value of the closure -/
def gV (gf pb gb ub : Nat) : Value := .func (.func 30) #[] #[.pointer (some ⟨gf, 0, none⟩), .pointer (some ⟨pb, 0, none⟩), .pointer (some ⟨gb, 0, none⟩), .pointer (some ⟨ub, 0, none⟩)]
set_option maxHeartbeats 8000000 in
theorem grow_any (R n : Nat) (ps : List Int) (xss : List (List Int)) (gf pb gb ub : Nat) (U : Option Addr) (cu : Nat) {lu hu : Nat} (hp : PosP (R : Int) ps xss) (hpl : ps.length = n) (hgp : pb ≠ gf) (hgg : gb ≠ gf) (hgu : ub ≠ gf) (hgl : gf < lu ∨ hu ≤ gf) : ∀ (k : Nat) (w : World) (base : Nat) (F : Option Addr) (nf cf : Nat) (s : List Int) (Nx : Option Addr) (nn cn : Nat) (nxs : List Int) (L : Option Addr) (nl cl : Nat) (list : List (List Int)) (lf hf ln hn : Nat),
    w.heap[gf]? = some (.cells #[.slice L nl cl] 23 (0, 0)) → w.cell? ⟨pb, 0, none⟩ = some (.int .i64 (R : Int)) → w.cell? ⟨gb, 0, none⟩ = some (gV gf pb gb ub) → w.cell? ⟨ub, 0, none⟩ = some (.slice U n cu) →
    RS w lu hu U n ((List.range n).map fun f => upL (R : Int) ps xss f n) → hu ≤ base → gf < base → pb < base → gb < base → ub < base → base ≤ w.heap.size →
    RI w lf hf F nf s → hf ≤ w.heap.size → (gf < lf ∨ hf ≤ gf) → (∀ z, (Value.slice L nl cl).ownBlock = some z → z < lf ∨ hf ≤ z) →
    RI w ln hn Nx nn nxs → hn ≤ w.heap.size → (gf < ln ∨ hn ≤ gf) → (∀ z, (Value.slice L nl cl).ownBlock = some z → z < ln ∨ hn ≤ z) →
    Chn ps s → s.length + (k + 1) = R → (∀ x ∈ nxs, x ∈ nxL (R : Int) ps xss s n) → nn ≤ 500 → Lst w base w.heap.size L nl cl list → list.length ≤ 401 →
    Calls Tryd.prog 30 #[.slice F nf cf, .slice Nx nn cn, .pointer (some ⟨gf, 0, none⟩), .pointer (some ⟨pb, 0, none⟩), .pointer (some ⟨gb, 0, none⟩), .pointer (some ⟨ub, 0, none⟩)] w fun e w' => e = .returned (.tuple #[]) ∧ ∃ (L' : Option Addr) (nl' cl' : Nat), w'.heap[gf]? = some (.cells #[.slice L' nl' cl'] 23 (0, 0)) ∧ Lst w' base w'.heap.size L' nl' cl' (cut4 (list ++ growT (R : Int) ps xss k s nxs)) ∧ GrewB gf w w' (.slice L nl cl) (.slice L' nl' cl') := by
  obtain ⟨j0, hj0, hy0, hy1, hy2⟩ := info_parts infoI
  obtain ⟨s0, hs0, hu0, hu1, hu2⟩ := info_parts infoS
  have hR5 : R ≤ 5 := by have := hp.r5; omega
  have hn5 : n ≤ 500 := by have := hp.n5; omega
  replace hpl := Lib.hid hpl
  replace hp := Lib.hid hp
  intro k
  induction k with
  | zero =>
    intro w base F nf cf s Nx nn cn nxs L nl cl list lf hf ln hn g0 p0 q0 u0 hU hub hgb1 hpb1 hgb2 hub2 hbw hF hfs hgF hlF hN hns hgN hlN hc hsk hnx hnn hL h401
    have hhd := hL.header
    have hsl := hF.len
    have hnl := hN.len
    have hc4 : cut4 (list ++ growT (R : Int) ps xss 0 s (nxs.take 0)) = list := by rw [List.take_zero, growT_nil, List.append_nil]; exact cut4_small h401
    replace g0 := Lib.hid g0
    replace hsl := Lib.hid hsl
    replace hnl := Lib.hid hnl
    replace hc4 := Lib.hid hc4
    replace hnx := Lib.hid hnx
    go_enter Tryd.func30, Tryd.ntmps30
    go_wp2_with fail
    go_loopw [13] (fun iv wq => ∃ (i : Nat) (Lx : Option Addr) (nx cx : Nat) (lst : List (List Int)), i ≤ nn ∧ iv = .int .i64 i ∧ Hid (wq.heap[gf]? = some (.cells #[.slice Lx nx cx] 23 (0, 0))) ∧ Lst wq base wq.heap.size Lx nx cx lst ∧ Hid (cut4 (list ++ growT (R : Int) ps xss 0 s (nxs.take i)) = lst) ∧ GrewB gf w wq (.slice L nl cl) (.slice Lx nx cx)) (fun iv _ => nn - (intOf iv).toNat)
    case atStart => exact ⟨0, L, nl, cl, list, by omega, rfl, g0, hL, hc4, GrewB.refl _ _ _⟩
    case round =>
      obtain ⟨i, Lx, nx, cx, lst, hin, rfl, g1, hLx, hlst, hgw⟩ := hrel
      have hyz := hgw.size
      have hxl := hLx.len
      have hhx := hLx.header
      have hl401 : lst.length ≤ 401 := by rw [← hlst.out]; exact cut4_len _
      have P1 : wr.cell? ⟨pb, 0, none⟩ = some (.int .i64 (R : Int)) := (World.cell?_of_block (w := w) (a := ⟨pb, 0, none⟩) (hgw.block pb (by omega) hgp (fun e => by have := hhd _ e; omega))).trans p0
      have Q1 : wr.cell? ⟨gb, 0, none⟩ = some (gV gf pb gb ub) := (World.cell?_of_block (w := w) (a := ⟨gb, 0, none⟩) (hgw.block gb (by omega) hgg (fun e => by have := hhd _ e; omega))).trans q0
      have U1 : wr.cell? ⟨ub, 0, none⟩ = some (.slice U n cu) := (World.cell?_of_block (w := w) (a := ⟨ub, 0, none⟩) (hgw.block ub (by omega) hgu (fun e => by have := hhd _ e; omega))).trans u0
      have G1 : wr.cell? ⟨gf, 0, none⟩ = some (.slice Lx nx cx) := by rw [cell_of_row _ _ _ _ _ _ g1.out]; rfl
      have hU1 := hU.keep (hgw.same (by omega) hgl (fun z hz => .inr (by have := (hhd z hz).1; omega)))
      have hF1 := hF.keep (hgw.same hfs hgF hlF)
      have hN1 := hN.keep (hgw.same hns hgN hlN)
      by_cases hlt : i < nn
      · obtain ⟨bN, oN, e, rfl, _, _, he, hce⟩ := hN1.at_ hlt
        have hem := hnx.out e (mem_of_get? he)
        obtain ⟨hch, he0, he1⟩ := chn_snoc hc (by rw [hpl.out]; exact hem)
        obtain ⟨e, rfl⟩ : ∃ z : Nat, e = z := ⟨e.toNat, by omega⟩
        have hen : e < n := by have := hpl.out; omega
        have htk := take_succ_of he
        have hns5 : nf ≤ 5 := by have := hsl.out; omega
        replace he := Lib.hid he
        clear hem he0 he1
        go_wp2_with fail
        ((with_reducible refine (cloneI_any F nf cf s _ hF1 (by omega) (by omega)).mono ?_); rintro e2 w2 ⟨A2, c2, rfl, o2, f2⟩)
        have y2 := f2.size
        go_wp2_with (at_builtin; refine wpList_append1 w2 rfl (.tmp 18) (.tmp 20) 22 rfl wr.heap.size 2 j0 (.int .i64 0) 8 Tryd.underlying22 hj0 hy0 hy1 hy2 rfl (by omega) A2 nf c2 _ (.int .i64 (e : Int)) rfl o2.1 _ rfl rfl rfl (by omega) y2 ?_)
        intro g3 c3 w3 ho3 hg3 hlo3 hlt3 hor3
        have f3 : Below wr.heap.size wr w3 := f2.grown hg3 y2 (fun q hq => (o2.1.lt q hq).1)
        have y3 := f3.size
        have o3 : Own w3 wr.heap.size w3.heap.size 2 (some ⟨g3, 0, none⟩) (nf + 1) c3 ((s ++ [(e : Int)]).map (Value.int .i64)) := by rw [List.map_append]; exact Own.of_row ho3
        clear ho3 hg3 o2 f2
        have P3 := (f3.cell (p := ⟨pb, 0, none⟩) (by simp; omega)).trans P1
        have Q3 := (f3.cell (p := ⟨gb, 0, none⟩) (by simp; omega)).trans Q1
        have U3 := (f3.cell (p := ⟨ub, 0, none⟩) (by simp; omega)).trans U1
        have g3' := (f3.block gf (by omega)).trans g1.out
        have G3 : w3.cell? ⟨gf, 0, none⟩ = some (.slice Lx nx cx) := by rw [cell_of_row _ _ _ _ _ _ g3']; rfl
        replace g3' := Lib.hid g3'
        have hL3 := hLx.keep f3 (Nat.le_refl _)
        have hU3 : RS w3 lu hu U n ((List.range n).map fun f => upL (R : Int) ps xss f n) := hU1.below f3 (by omega)
        have hgw3 := hgw.below f3
        clear P1 Q1 U1 G1
        by_cases h4 : 400 < nx
        · have hF : cut4 (list ++ growT (R : Int) ps xss 0 s nxs) = lst := by
            have e1 : nxs = nxs.take i ++ nxs.drop i := (List.take_append_drop i nxs).symm
            rw [e1, growT_app, ← List.append_assoc]
            have h5 := hlst.out
            rw [cut4_full (by rw [h5]; omega), h5]
          replace hF := Lib.hid hF
          replace htk := Lib.hid htk
          have hd : decide ((nx : Int) > 400) = true := by simp; omega
          go_wp2_with fail
          first
            | go_end0
            | ((try simp only [Exit.inBlock, Exit.then]); refine bodyPost_ret (results_none rfl _ _ _) rfl ?_)
          exact ⟨rfl, Lx, nx, cx, g3'.out, by rw [hF.out]; exact hL3.more y3, hgw3⟩
        · have hd : decide ((nx : Int) > 400) = false := by simp; omega
          have hne : (((nf : Int) + 1) == (R : Int)) = true := by have := hsl.out; simp; omega
          have hszc : ∀ wq : World, Calls Tryd.prog 28 #[.slice (some ⟨g3, 0, none⟩) (nf + 1) c3] wq fun e w' => e = .returned (.int .i64 ((nf : Int) + 1)) ∧ wq = w' := fun wq => sizeI_any (some ⟨g3, 0, none⟩) (nf + 1) c3 wq (by omega)
          obtain ⟨vs, hH, hRw⟩ := hL3
          have hnx1 : nx < 1099511627776 := by have := hl401; omega
          have hHq : ∀ q, (w3.drewN q).ownsRow base 22 1 (.slice Lx nx cx) nx vs := fun q => hH.1
          replace htk := Lib.hid htk
          replace hszc := Lib.hid hszc
          clear hch
          go_wp2_with fail
          go_quiet ((go_at_call 28; exact quiet_left (hszc.out _)))
          have hHq9 := hHq nq
          clear hHq
          go_wp2_with (at_builtin; refine wpList_append1 (w3.drewN nq) rfl (.tmp 39) (.tmp 41) 23 rfl base 22 s0 (.slice none 0 0) 24 Tryd.underlying23 hs0 hu0 hu1 hu2 rfl (by omega) Lx nx cx _ (.slice (some ⟨g3, 0, none⟩) (nf + 1) c3) rfl hHq9 _ rfl rfl rfl hnx1 (show base ≤ w3.heap.size by omega) ?_)
          intro g5 c5 w5 ho5 hg5 hlo5 hlt5 hor5
          have hbq : Below w3.heap.size w3 (w3.drewN nq) := below_dn (Below.refl _ _) nq
          have g5' := (hg5.block gf (show gf < w3.heap.size by omega) (fun ee => by have := (hhx _ ee.symm).1; omega)).trans g3'.out
          have G5 : w5.cell? ⟨gf, 0, none⟩ = some (.slice Lx nx cx) := by rw [cell_of_row _ _ _ _ _ _ g5']; rfl
          have F5 : w5.frozen? ⟨gf, 0, none⟩ = false := frozen_of_row _ _ _ _ _ g5'
          have g6' := heap_setCell_same _ _ 0 _ _ (Value.slice (some ⟨g5, 0, none⟩) (nx + 1) c5) g5'
          have hgrew : Grew (w3.drewN nq) w5 (.slice Lx nx cx) (.slice (some ⟨g5, 0, none⟩) (nx + 1) c5) := by
            refine ⟨hg5, fun z hz => ?_⟩
            simp [Value.ownBlock] at hz
            subst hz
            rcases hor5 with h | h
            · exact .inl (by rw [h]; rfl)
            · exact .inr h
          have hL5 : Lst w5 base w5.heap.size (some ⟨g5, 0, none⟩) (nx + 1) c5 (lst ++ [s ++ [(e : Int)]]) := Lst.snoc (w := w3.drewN nq) (m := wr.heap.size) hH hRw o3 (by omega) (show wr.heap.size ≤ w3.heap.size from y3) ho5 hg5
          have hgb5 := (hgw3.below hbq).trans (GrewB.of_grew (gf := gf) hgrew (.slice (some ⟨g5, 0, none⟩) (nx + 1) c5))
          have hL6 := hL5.far (p := ⟨gf, 0, none⟩) (show gf < base from hgb1) (.slice (some ⟨g5, 0, none⟩) (nx + 1) c5)
          have hnext : Hid (cut4 (list ++ growT (R : Int) ps xss 0 s (nxs.take (i + 1))) = lst ++ [s ++ [(e : Int)]]) := Lib.hid (by
            rw [htk.out, growT_snoc, ← List.append_assoc, ← cut4_app, hlst.out, growF_zero]
            exact cut4_small (by simp; omega))
          replace g5' := Lib.hid g5'
          replace g6' := Lib.hid g6'
          clear hH hRw ho5 hg5 hHq9 hL5 hgrew o3
          go_wp2_with fail
          go_roundw
          case measure => simp [intOf]; omega
          case rel => exact ⟨i + 1, _, _, _, _, by omega, by go_num, Lib.hid (by simpa using g6'.out), by rw [World.size_setCell]; exact hL6, hnext, hgb5⟩
      · have hin' : i = nn := by omega
        subst hin'
        have hF : cut4 (list ++ growT (R : Int) ps xss 0 s nxs) = lst := by
          have h5 := hlst.out
          rwa [List.take_of_length_le (by have := hnl.out; omega)] at h5
        go_wp2_with fail
        go_end0
        exact ⟨rfl, Lx, nx, cx, g1.out, by rw [hF]; exact hLx, hgw⟩
  | succ k ih =>
    intro w base F nf cf s Nx nn cn nxs L nl cl list lf hf ln hn g0 p0 q0 u0 hU hub hgb1 hpb1 hgb2 hub2 hbw hF hfs hgF hlF hN hns hgN hlN hc hsk hnx hnn hL h401
    have hhd := hL.header
    have hsl := hF.len
    have hnl := hN.len
    have hc4 : cut4 (list ++ growT (R : Int) ps xss (k + 1) s (nxs.take 0)) = list := by rw [List.take_zero, growT_nil, List.append_nil]; exact cut4_small h401
    replace g0 := Lib.hid g0
    replace hsl := Lib.hid hsl
    replace hnl := Lib.hid hnl
    replace hc4 := Lib.hid hc4
    replace hnx := Lib.hid hnx
    go_enter Tryd.func30, Tryd.ntmps30
    go_wp2_with fail
    go_loopw [13] (fun iv wq => ∃ (i : Nat) (Lx : Option Addr) (nx cx : Nat) (lst : List (List Int)), i ≤ nn ∧ iv = .int .i64 i ∧ Hid (wq.heap[gf]? = some (.cells #[.slice Lx nx cx] 23 (0, 0))) ∧ Lst wq base wq.heap.size Lx nx cx lst ∧ Hid (cut4 (list ++ growT (R : Int) ps xss (k + 1) s (nxs.take i)) = lst) ∧ GrewB gf w wq (.slice L nl cl) (.slice Lx nx cx)) (fun iv _ => nn - (intOf iv).toNat)
    case atStart => exact ⟨0, L, nl, cl, list, by omega, rfl, g0, hL, hc4, GrewB.refl _ _ _⟩
    case round =>
      obtain ⟨i, Lx, nx, cx, lst, hin, rfl, g1, hLx, hlst, hgw⟩ := hrel
      have hyz := hgw.size
      have hxl := hLx.len
      have hhx := hLx.header
      have hl401 : lst.length ≤ 401 := by rw [← hlst.out]; exact cut4_len _
      have P1 : wr.cell? ⟨pb, 0, none⟩ = some (.int .i64 (R : Int)) := (World.cell?_of_block (w := w) (a := ⟨pb, 0, none⟩) (hgw.block pb (by omega) hgp (fun e => by have := hhd _ e; omega))).trans p0
      have Q1 : wr.cell? ⟨gb, 0, none⟩ = some (gV gf pb gb ub) := (World.cell?_of_block (w := w) (a := ⟨gb, 0, none⟩) (hgw.block gb (by omega) hgg (fun e => by have := hhd _ e; omega))).trans q0
      have U1 : wr.cell? ⟨ub, 0, none⟩ = some (.slice U n cu) := (World.cell?_of_block (w := w) (a := ⟨ub, 0, none⟩) (hgw.block ub (by omega) hgu (fun e => by have := hhd _ e; omega))).trans u0
      have G1 : wr.cell? ⟨gf, 0, none⟩ = some (.slice Lx nx cx) := by rw [cell_of_row _ _ _ _ _ _ g1.out]; rfl
      have hU1 := hU.keep (hgw.same (by omega) hgl (fun z hz => .inr (by have := (hhd z hz).1; omega)))
      have hF1 := hF.keep (hgw.same hfs hgF hlF)
      have hN1 := hN.keep (hgw.same hns hgN hlN)
      by_cases hlt : i < nn
      · obtain ⟨bN, oN, e, rfl, _, _, he, hce⟩ := hN1.at_ hlt
        have hem := hnx.out e (mem_of_get? he)
        obtain ⟨hch, he0, he1⟩ := chn_snoc hc (by rw [hpl.out]; exact hem)
        obtain ⟨e, rfl⟩ : ∃ z : Nat, e = z := ⟨e.toNat, by omega⟩
        have hen : e < n := by have := hpl.out; omega
        have htk := take_succ_of he
        have hns5 : nf ≤ 5 := by have := hsl.out; omega
        replace he := Lib.hid he
        clear hem he0 he1
        go_wp2_with fail
        ((with_reducible refine (cloneI_any F nf cf s _ hF1 (by omega) (by omega)).mono ?_); rintro e2 w2 ⟨A2, c2, rfl, o2, f2⟩)
        have y2 := f2.size
        go_wp2_with (at_builtin; refine wpList_append1 w2 rfl (.tmp 18) (.tmp 20) 22 rfl wr.heap.size 2 j0 (.int .i64 0) 8 Tryd.underlying22 hj0 hy0 hy1 hy2 rfl (by omega) A2 nf c2 _ (.int .i64 (e : Int)) rfl o2.1 _ rfl rfl rfl (by omega) y2 ?_)
        intro g3 c3 w3 ho3 hg3 hlo3 hlt3 hor3
        have f3 : Below wr.heap.size wr w3 := f2.grown hg3 y2 (fun q hq => (o2.1.lt q hq).1)
        have y3 := f3.size
        have o3 : Own w3 wr.heap.size w3.heap.size 2 (some ⟨g3, 0, none⟩) (nf + 1) c3 ((s ++ [(e : Int)]).map (Value.int .i64)) := by rw [List.map_append]; exact Own.of_row ho3
        clear ho3 hg3 o2 f2
        have P3 := (f3.cell (p := ⟨pb, 0, none⟩) (by simp; omega)).trans P1
        have Q3 := (f3.cell (p := ⟨gb, 0, none⟩) (by simp; omega)).trans Q1
        have U3 := (f3.cell (p := ⟨ub, 0, none⟩) (by simp; omega)).trans U1
        have g3' := (f3.block gf (by omega)).trans g1.out
        have G3 : w3.cell? ⟨gf, 0, none⟩ = some (.slice Lx nx cx) := by rw [cell_of_row _ _ _ _ _ _ g3']; rfl
        replace g3' := Lib.hid g3'
        have hL3 := hLx.keep f3 (Nat.le_refl _)
        have hU3 : RS w3 lu hu U n ((List.range n).map fun f => upL (R : Int) ps xss f n) := hU1.below f3 (by omega)
        have hgw3 := hgw.below f3
        clear P1 Q1 U1 G1
        by_cases h4 : 400 < nx
        · have hF : cut4 (list ++ growT (R : Int) ps xss (k + 1) s nxs) = lst := by
            have e1 : nxs = nxs.take i ++ nxs.drop i := (List.take_append_drop i nxs).symm
            rw [e1, growT_app, ← List.append_assoc]
            have h5 := hlst.out
            rw [cut4_full (by rw [h5]; omega), h5]
          replace hF := Lib.hid hF
          replace htk := Lib.hid htk
          have hd : decide ((nx : Int) > 400) = true := by simp; omega
          go_wp2_with fail
          first
            | go_end0
            | ((try simp only [Exit.inBlock, Exit.then]); refine bodyPost_ret (results_none rfl _ _ _) rfl ?_)
          exact ⟨rfl, Lx, nx, cx, g3'.out, by rw [hF.out]; exact hL3.more y3, hgw3⟩
        · have hd : decide ((nx : Int) > 400) = false := by simp; omega
          have hne : (((nf : Int) + 1) == (R : Int)) = false := by have := hsl.out; simp; omega
          have hszc : ∀ wq : World, Calls Tryd.prog 28 #[.slice (some ⟨g3, 0, none⟩) (nf + 1) c3] wq fun e w' => e = .returned (.int .i64 ((nf : Int) + 1)) ∧ wq = w' := fun wq => sizeI_any (some ⟨g3, 0, none⟩) (nf + 1) c3 wq (by omega)
          obtain ⟨bU, oU, Ae, ne, ce, ups, rfl, hbU1, hbU2, hups, hcu, hru⟩ := hU3.at_ hen
          have hupe : ups = upL (R : Int) ps xss e n := by
            rw [List.getElem?_map, List.getElem?_range hen] at hups
            exact (Option.some.inj hups).symm
          subst hupe
          replace hups := Lib.hid hups
          have hupl := upL_len (R : Int) ps xss e n
          have hrul := hru.len
          have hrec : ∀ q, Calls Tryd.prog 30 #[.slice (some ⟨g3, 0, none⟩) (nf + 1) c3, .slice Ae ne ce, .pointer (some ⟨gf, 0, none⟩), .pointer (some ⟨pb, 0, none⟩), .pointer (some ⟨gb, 0, none⟩), .pointer (some ⟨ub, 0, none⟩)] (w3.drewN q) fun e' w' => e' = .returned (.tuple #[]) ∧ ∃ (L' : Option Addr) (nl' cl' : Nat), w'.heap[gf]? = some (.cells #[.slice L' nl' cl'] 23 (0, 0)) ∧ Lst w' base w'.heap.size L' nl' cl' (cut4 (lst ++ growF (R : Int) ps xss (k + 1) (s ++ [(e : Int)]))) ∧ GrewB gf w w' (.slice L nl cl) (.slice L' nl' cl') := by
            intro q
            have hbq : Below w3.heap.size w3 (w3.drewN q) := below_dn (Below.refl _ _) q
            refine (ih (w3.drewN q) base (some ⟨g3, 0, none⟩) (nf + 1) c3 (s ++ [(e : Int)]) Ae ne ce (upL (R : Int) ps xss e n) Lx nx cx lst wr.heap.size w3.heap.size lu hu g3'.out P3 Q3 U3 hU3 hub hgb1 hpb1 hgb2 hub2 (show base ≤ w3.heap.size by omega) o3.ri (Nat.le_refl _) (.inl (by omega)) (fun z hz => .inl (hhx z hz).2) hru (show hu ≤ w3.heap.size by omega) hgl (fun z hz => .inr (by have := (hhx z hz).1; omega)) hch (by simp; omega) (fun x hx => by rw [nx_snoc]; exact hx) (by omega) (hL3.keep hbq y3 |>.more (show wr.heap.size ≤ w3.heap.size by omega)) hl401).mono ?_
            rintro e' w' ⟨rfl, L', nl', cl', h1, h2, h3⟩
            refine ⟨rfl, L', nl', cl', h1, ?_, (hgw3.below hbq).trans h3⟩
            rw [growF_eq, nx_snoc, hpl.out]
            exact h2
          replace htk := Lib.hid htk
          replace hrec := Lib.hid hrec
          replace hszc := Lib.hid hszc
          clear hch
          simp only [gV] at Q3
          go_wp2_with fail
          go_quiet ((go_at_call 28; exact quiet_left (hszc.out _)))
          go_wp2_with fail
          go_region_with (go_at_call 30; refine (hrec.out _).mono ?_; rintro e' w8 ⟨rfl, L8, n8, c8, h8, l8, gr8⟩)
          all_goals
            have hnext : Hid (cut4 (list ++ growT (R : Int) ps xss (k + 1) s (nxs.take (i + 1))) = cut4 (lst ++ growF (R : Int) ps xss (k + 1) (s ++ [(e : Int)]))) := Lib.hid (by rw [htk.out, growT_snoc, ← List.append_assoc, ← hlst.out, cut4_app])
            replace h8 := Lib.hid h8
            go_wp2_with fail
            go_roundw
            case measure => simp [intOf]; omega
            case rel => exact ⟨i + 1, L8, n8, c8, _, by omega, by go_num, h8, l8, hnext, gr8⟩
      · have hin' : i = nn := by omega
        subst hin'
        have hF : cut4 (list ++ growT (R : Int) ps xss (k + 1) s nxs) = lst := by
          have h5 := hlst.out
          rwa [List.take_of_length_le (by have := hnl.out; omega)] at h5
        go_wp2_with fail
        go_end0
        exact ⟨rfl, Lx, nx, cx, g1.out, by rw [hF]; exact hLx, hgw⟩
end Go.Proofs.YtebdfhkimnlglaaDoor
