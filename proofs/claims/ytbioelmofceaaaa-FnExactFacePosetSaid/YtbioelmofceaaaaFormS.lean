/- Walks: the form of a maniplex from a flag, the reference's: it is renumbered. Up to 400 flags. -/
import Derived.Test.YtbioelmofceaaaaRenP
import Derived.Test.YtbioelmofceaaaaForm
import Derived.Test.YtbioelmofceaaaaOrbS
import Derived.Test.YtbioelmofceaaaaPerm2
import Derived.Laws.ResultCell
import Derived.BigRegion
namespace Go.Proofs.Ytbioelmofceaaaa
open Go.RowKit
set_option linter.unusedVariables false
set_option maxRecDepth 100000
theorem results_cell_row2 {P : Program} {fn : Func} {p u : Tmp} {ty : TypeId} (h : fn.results = #[.cell p ty, .tmp u]) (tmps : Array Value) (w : World) (g : Nat) (t : TypeId) (cs : Array Value) (fr : Nat × Nat) (d : TypeDesc)
    (hp : tmps.getD p undef = .pointer (some ⟨g, 0, none⟩)) (hg : w.heap[g]? = some (.cells cs t fr))
    (hu : P.underlying ty = some d) (hd : (match d with | .struct _ | .array _ _ => true | _ => false) = true) (hi : (P.info? ty).map (·.size) = some cs.size) (v : Value) (hv : tmps.getD u undef = v) :
    (results fn tmps).run P w = .ok (.tuple #[.agg cs, v]) w := by
  rw [results_cell_tmp h, hp, hv]
  simp [asAddr, run_loadVar_row w g t ty cs fr d hg hu hd hi, Result.andThen]
set_option maxHeartbeats 8000000 in
theorem l02Renumber_any (A : Option Addr) (m c : Nat) (xss : List (List Int)) (A' : Option Addr) (n c' : Nat) (p : List Int) (w : World) {lo hi lo' hi' : Nat} (h : RS w lo hi A m xss) (hhi : hi ≤ w.heap.size) (h' : RI w lo' hi' A' n p) (hhi' : hi' ≤ w.heap.size) (hm5 : m ≤ 20) (hs : SysOf xss n) (hp : isPermP p) :
    Calls Try.prog 144 #[.agg #[.slice A m c], .slice A' n c'] w fun e w' => ∃ (A1 : Option Addr) (c1 : Nat), e = .returned (.agg #[.slice A1 m c1]) ∧ OwnS w' w.heap.size w'.heap.size 22 2 A1 m c1 (xss.map (renL p)) ∧ Below w.heap.size w w' := by
  obtain ⟨j0, hj0, hy0, hy1, hy2⟩ := info_parts infoI
  obtain ⟨s0, hs0, hu0, hu1, hu2⟩ := info_parts infoS
  have hl := h.len
  have hpl := h'.len
  have hnums := perm_nums hp hpl
  have hn4 := hp.le
  rw [hpl] at hn4
  replace hnums := Lib.hid hnums
  replace hp := Lib.hid hp
  replace hs := Lib.hid hs
  replace hpl := Lib.hid hpl
  go_enter Try.func144, Try.ntmps144
  go_wp2_with fail
  go_loopw [6] (fun kv wq => ∃ (k : Nat) (vs : List Value) (A2 : Option Addr) (c2 : Nat), k ≤ m ∧ vs.length = k ∧ kv = .int .i64 k ∧ wq.heap[w.heap.size]? = some (.cells #[.slice A m c] 38 (0, 0)) ∧ wq.heap[w.heap.size + 1]? = some (.cells #[.slice none 0 0] 38 (0, 0)) ∧ wq.heap[w.heap.size + 1 + 1]? = some (.cells #[.slice A2 k c2] 38 (0, 0)) ∧
      Own wq (w.heap.size + 3) wq.heap.size 22 A2 k c2 vs ∧ RowsOwn wq (w.heap.size + 3) wq.heap.size 2 vs ((xss.take k).map (renL p)) ∧ w.heap.size + 3 ≤ wq.heap.size ∧ Below w.heap.size w wq) (fun kv _ => m - (intOf kv).toNat)
  case atStart =>
    refine ⟨0, [], none, 0, by omega, rfl, rfl, ?_, ?_, ?_, Own.nil, by simpa using RowsOwn.nil, by simp, ?_⟩
    · exact ((Below.heap_alloc _ _ _ (by simp; omega)).trans (Below.heap_alloc _ _ _ (by simp))).trans (heap_new _ _ _ rfl)
    · exact (Below.heap_alloc _ _ _ (by simp)).trans (heap_new _ _ _ (by simp))
    · exact heap_new _ _ _ (by simp)
    · exact (((Below.refl _ _).alloc (Nat.le_refl _) _).alloc (by simp) _).alloc (by simp; omega) _
  case round =>
    obtain ⟨k, vs, A2, c2, hk, hvk, rfl, g0, g1, g9, ho9, hrows, hz9, hb9⟩ := hrel
    have C0 : wr.cell? ⟨w.heap.size, 0, none⟩ = some (.slice A m c) := by rw [cell_of_row _ _ _ _ _ _ g0]; rfl
    have C9 : wr.cell? ⟨w.heap.size + 1 + 1, 0, none⟩ = some (.slice A2 k c2) := by rw [cell_of_row _ _ _ _ _ _ g9]; rfl
    have F9 : wr.frozen? ⟨w.heap.size + 1 + 1, 0, none⟩ = false := frozen_of_row _ _ _ _ _ g9
    have hm1 := h.max
    have hn1 := h'.max
    by_cases hkm : k < m
    · obtain ⟨bb, oo, Ak, nk, ck, M, rfl, _, _, hM, hMc, hMr⟩ := (h.below hb9 hhi).at_ hkm
      have hMm := mem_of_get? hM
      obtain ⟨hM0, hMn, hMl⟩ := hs.out M hMm
      have hnk := hMr.len
      have hkk : nk = n := by omega
      subst hkk
      have htk := take_succ_of hM
      replace hM := Lib.hid hM
      replace htk := Lib.hid htk
      replace hM0 := Lib.hid hM0
      replace hMl := Lib.hid hMl
      replace g0 := Lib.hid g0
      replace g1 := Lib.hid g1
      replace g9 := Lib.hid g9
      obtain ⟨wo, rfl⟩ : ∃ wo : World, wo = wr := ⟨_, rfl⟩
      go_wp2_with (at_make; refine wpList_make_full _ rfl _ _ 22 rfl wo.heap.size 2 j0 (.int .i64 0) 1 Try.underlying22 hj0 hy0 hy1 _ _ _ _ nk rfl rfl rfl rfl ?c1 ?c2 (Nat.le_refl _) ?_)
      case c1 => rw [hy2]; omega
      case c2 => simp only [maxLen]; omega
      intro w2 hown hg
      have B2 : Below wo.heap.size wo w2 := (Below.refl _ _).grown hg (Nat.le_refl _) (by simp)
      have z2 : wo.heap.size < w2.heap.size := (hown.lt wo.heap.size (by simp [Value.ownBlock])).2
      have o6 : Own w2 wo.heap.size w2.heap.size 2 (some ⟨wo.heap.size, 0, none⟩) nk nk ((List.replicate nk 0).map (Value.int .i64)) := by
        have := Own.of_row hown
        simpa [toList_madeCells_one, Value.cells] using this
      clear hown hg
      go_wp2_with fail
      go_loopw [8] (fun kv wq => ∃ (f : Nat) (mv : List Int), f ≤ nk ∧ kv = .int .i64 f ∧ Hid (RenI p M nk f mv) ∧ Own wq wo.heap.size w2.heap.size 2 (some ⟨wo.heap.size, 0, none⟩) nk nk (mv.map (Value.int .i64)) ∧ w2.heap.size ≤ wq.heap.size ∧ Below wo.heap.size wo wq) (fun kv _ => nk - (intOf kv).toNat)
      case atStart => exact ⟨0, _, by omega, rfl, Lib.hid (RenI.zero p M nk), o6, Nat.le_refl _, B2⟩
      case round =>
        clear o6 B2
        obtain ⟨f, mv, hf, rfl, hmv, ho6, hz6, hb6⟩ := hrel
        have hbw := hb9.trans (hb6.mono (by omega))
        by_cases hlt : f < nk
        · have C0' := (hb6.cell (p := ⟨w.heap.size, 0, none⟩) (by simp; omega)).trans C0
          have hMc' := (hb6.cell (p := ⟨bb, oo + k, none⟩) (by simp; omega)).trans hMc
          obtain ⟨bp, oq, v, rfl, _, _, hv, hvc⟩ := (hMr.below hb6 (by omega)).at_ hlt
          have hva : at' M f = v := by unfold at'; rw [Int.toNat_natCast]; exact getD_some hv
          obtain ⟨hv0, hv1⟩ := hM0.out v (mem_of_get? hv)
          obtain ⟨v, rfl⟩ : ∃ q : Nat, v = q := ⟨v.toNat, by omega⟩
          have hvn : v < nk := by omega
          obtain ⟨b7, o7, g, rfl, _, _, hg, hgc⟩ := (h'.below hbw hhi').at_ hlt
          have hgr := hp.out.rng g (mem_of_get? hg)
          rw [hpl.out] at hgr
          obtain ⟨g, rfl⟩ : ∃ q : Nat, g = q := ⟨g.toNat, by omega⟩
          have hgn : g < nk := by omega
          obtain ⟨b8, o8, u, e8, _, _, hu, huc⟩ := (h'.below hbw hhi').at_ hvn
          injection e8 with e8
          injection e8 with e1 e2 _
          subst e1; subst e2
          have hua : at' p v = u := by unfold at'; rw [Int.toNat_natCast]; exact getD_some hu
          have hst := hmv.out.step hp.out.nd hnums.out hg hgn
          rw [hva, hua] at hst
          have hcm := ho6.cellI (hmv.out.2 g hgn)
          have hfm := ho6.frz g
          replace hst := Lib.hid hst
          replace hg := Lib.hid hg
          replace hv := Lib.hid hv
          replace hu := Lib.hid hu
          replace hva := Lib.hid hva
          replace hua := Lib.hid hua
          generalize (if p.idxOf (g : Int) < f then at' p (at' M (p.idxOf (g : Int) : Int)) else 0) = old at *
          go_wp2_with fail
          go_region
          go_wp2_with fail
          go_roundw
          case measure => simp [intOf]; omega
          case rel => exact ⟨f + 1, mv.set g u, by omega, by go_num, hst, (ho6.setI u).keep (fun _ _ _ => rfl), by simp; omega, below_drew (hb6.setCell (p := ⟨wo.heap.size, g, none⟩) (by simp) _)⟩
        · have hfn : f = nk := by omega
          subst hfn
          have hmf := hmv.out.end_ hpl.out hnums.out
          have g9' := (hb6.block (w.heap.size + 1 + 1) (by omega)).trans g9.out
          have C9' : wr.cell? ⟨w.heap.size + 1 + 1, 0, none⟩ = some (.slice A2 k c2) := by rw [cell_of_row _ _ _ _ _ _ g9']; rfl
          have F9' : wr.frozen? ⟨w.heap.size + 1 + 1, 0, none⟩ = false := frozen_of_row _ _ _ _ _ g9'
          have ho9' := ho9.below hb6 (Nat.le_refl _)
          have hrows' := hrows.keep (Same.of_below hb6 (Nat.le_refl _))
          replace g9' := Lib.hid g9'
          replace hmf := Lib.hid hmf
          go_wp2_with (at_builtin; refine wpList_append1 wr rfl (.tmp 44) (.tmp 46) 23 rfl (w.heap.size + 3) 22 s0 (.slice none 0 0) 24 Try.underlying23 hs0 hu0 hu1 hu2 rfl (by omega) A2 k c2 _ (.slice (some ⟨wo.heap.size, 0, none⟩) f f) rfl ho9'.1 _ rfl rfl rfl (by omega) (by omega) ?_)
          intro g4 c4 w5 ho5 hg5 hlo5 hlt5 hor5
          have g5 := (hg5.block (w.heap.size + 1 + 1) (by omega) (fun e => by have := (ho9'.1.lt _ e.symm).1; omega)).trans g9'.out
          have C5 : w5.cell? ⟨w.heap.size + 1 + 1, 0, none⟩ = some (.slice A2 k c2) := by rw [cell_of_row _ _ _ _ _ _ g5]; rfl
          have F5 : w5.frozen? ⟨w.heap.size + 1 + 1, 0, none⟩ = false := frozen_of_row _ _ _ _ _ g5
          have hrw5 := (hrows'.kept_ty ho9'.1 (by decide) hg5).snoc (ho6.kept_ty ho9'.1 (by decide) hg5) (by omega) (by omega)
          have hz5 := hg5.size
          have hb5 : Below w.heap.size w w5 := hbw.grown hg5 (by omega) (fun q hq => by have := (ho9'.1.lt q hq).1; omega)
          have g05 := (hg5.block w.heap.size (by omega) (fun e => by have := (ho9'.1.lt _ e.symm).1; omega)).trans ((hb6.block w.heap.size (by omega)).trans g0.out)
          have g15 := (hg5.block (w.heap.size + 1) (by omega) (fun e => by have := (ho9'.1.lt _ e.symm).1; omega)).trans ((hb6.block (w.heap.size + 1) (by omega)).trans g1.out)
          have ho5' := Own.of_row ho5
          replace g5 := Lib.hid g5
          replace g05 := Lib.hid g05
          replace g15 := Lib.hid g15
          clear C9 F9 C9' F9' ho9 ho9' hrows hrows' hg5 ho5
          go_wp2_with fail
          go_roundw
          case measure => simp [intOf]; omega
          case rel =>
            refine ⟨k + 1, vs ++ [.slice (some ⟨wo.heap.size, 0, none⟩) f f], _, c4, by omega, by simp; omega, by go_num, ?_, ?_, ?_, (ho5'.far (.inl (by simp)) _).more (Nat.le_refl _) (by simp), ?_, by simp; omega, hb5.setCell (by simp; omega) _⟩
            · exact (heap_setCell_other _ _ _ _ (by simp; omega)).trans g05.out
            · exact (heap_setCell_other _ _ _ _ (by simp)).trans g15.out
            · have := heap_setCell_same _ _ 0 _ _ (Value.slice (some ⟨g4, 0, none⟩) (k + 1) c4) g5.out
              simpa using this
            · rw [htk.out, List.map_append, List.map_singleton, ← hmf.out]
              exact (hrw5.keep (same_set _ _ _ _ _ (.inl (by simp)))).more (Nat.le_refl _) (by simp; omega)
    · have hkm' : k = m := by omega
      subst hkm'
      have C1 : wr.cell? ⟨w.heap.size + 1, 0, none⟩ = some (.slice none 0 0) := by rw [cell_of_row _ _ _ _ _ _ g1]; rfl
      have F1 : wr.frozen? ⟨w.heap.size + 1, 0, none⟩ = false := frozen_of_row _ _ _ _ _ g1
      replace g1 := Lib.hid g1
      replace g9 := Lib.hid g9
      replace g0 := Lib.hid g0
      go_wp2_with fail
      have g2 := heap_setCell_same _ _ 0 _ _ (Value.slice A2 k c2) g1.out
      (try simp only [Exit.inBlock, Exit.then])
      refine bodyPost_ret (v := .agg #[.slice A2 k c2]) ?_ rfl ?_
      · exact results_cell_row rfl _ _ (w.heap.size + 1) 38 #[.slice A2 k c2] (0, 0) _ rfl (by simpa using g2) Try.underlying38 rfl (by kernel_rfl)
      · have e : xss.take k = xss := List.take_of_length_le (by omega)
        rw [e] at hrows
        refine ⟨A2, c2, rfl, ⟨vs, ?_, ?_⟩, hb9.setCell (by simp) _⟩
        · exact (ho9.keep (same_set _ _ _ _ _ (.inl (by simp)))).more (by omega) (by simp)
        · exact (hrows.keep (same_set _ _ _ _ _ (.inl (by simp)))).more (by omega) (by simp)
theorem l02Numbers_any (A : Option Addr) (n c : Nat) (xss : List (List Int)) (x : Int) (w : World) {lo hi : Nat} (h : RS w lo hi A n xss) (hhi : hi ≤ w.heap.size) (N : Nat) (h4 : N ≤ 400) (hs : SysOf xss N) (hcon : Conn xss N) (hx0 : 0 ≤ x) (hx1 : x < N) :
    Calls Try.prog 145 #[.agg #[.slice A n c], .int .i64 x] w fun e w' => ∃ A1, e = .returned (.slice A1 N N) ∧ Own w' w.heap.size w'.heap.size 2 A1 N N ((invL (bfs xss N x)).map (Value.int .i64)) ∧ Below w.heap.size w w' := by
  have hR := rs_alloc h hhi (.cells #[.slice A n c] 38)
  have hB : Below w.heap.size w (w.alloc (.cells #[.slice A n c] 38)) := (Below.refl _ _).alloc (Nat.le_refl _) _
  obtain ⟨hpp, hpl⟩ := ord_perm hs hcon h4 hx0 hx1
  have ho := l01Orbit_any N A n c xss x _ hR (by simp; omega) h4 hs hx0 hx1
  have hrg := hpp.rng
  have hnd := hpp.nd
  rw [hpl] at hrg
  generalize bfs xss N x = ord at *
  replace hs := Lib.hid hs
  replace hpp := Lib.hid hpp
  replace hrg := Lib.hid hrg
  replace hnd := Lib.hid hnd
  go_enter Try.func145, Try.ntmps145
  go_wp2_with fail
  ((with_reducible refine ho.mono ?_); rintro e w2 ⟨A2, n2, c2, rfl, o2, f2⟩)
  have B2 : Below w.heap.size w w2 := hB.trans (f2.mono (by simp))
  have e2 : n2 = N := by rw [← o2.lenI]; exact hpl
  subst e2
  replace hpl := Lib.hid hpl
  have z2 := B2.size
  clear ho
  go_wp2_with fail
  ((with_reducible refine (l01Back_any A2 n2 c2 ord _ _ _ o2.ri (Nat.le_refl _) (by omega) hrg.out hnd.out).mono ?_); rintro e w3 ⟨A3, rfl, o3, f3⟩)
  go_wp2_with fail
  go_ret
  exact ⟨A3, rfl, o3.more z2 (Nat.le_refl _), below_then B2 f3 z2⟩
set_option maxHeartbeats 4000000 in
theorem l02Form_any (A : Option Addr) (n c : Nat) (xss : List (List Int)) (x : Int) (w : World) {lo hi : Nat} (h : RS w lo hi A n xss) (hhi : hi ≤ w.heap.size) (hn : 0 < n) (hn5 : n ≤ 20) (N : Nat) (hN : flg xss = N) (h4 : N ≤ 400) (hs : SysOf xss N) (hcon : Conn xss N) (hx0 : 0 ≤ x) (hx1 : x < N) :
    Calls Try.prog 128 #[.agg #[.slice A n c], .int .i64 x] w fun e w' => ∃ (A1 : Option Addr) (c1 : Nat), e = .returned (.agg #[.slice A1 n c1]) ∧ OwnS w' w.heap.size w'.heap.size 22 2 A1 n c1 (formL xss N x) ∧ Below w.heap.size w w' := by
  have hR := rs_alloc (rs_alloc h hhi (.cells #[.slice A n c] 38)) (by simp; omega) (.cells #[.slice none 0 0] 38)
  have hC : ((w.alloc (.cells #[.slice A n c] 38)).alloc (.cells #[.slice none 0 0] 38)).cell? ⟨w.heap.size, 0, none⟩ = some (.slice A n c) := (al_old _ _ _ _ (by simp)).trans (al_new _ _ _ _ rfl)
  have hQ : ((w.alloc (.cells #[.slice A n c] 38)).alloc (.cells #[.slice none 0 0] 38)).heap[w.heap.size + 1]? = some (.cells #[.slice none 0 0] 38 (0, 0)) := heap_new _ _ _ (by simp)
  have hB : Below w.heap.size w ((w.alloc (.cells #[.slice A n c] 38)).alloc (.cells #[.slice none 0 0] 38)) := ((Below.refl _ _).alloc (Nat.le_refl _) _).alloc (by simp) _
  obtain ⟨hpp, hpl⟩ := ord_perm hs hcon h4 hx0 hx1
  have hip := invL_perm hpp
  rw [form_ren hs hcon h4 hx0 hx1]
  have hnums := fun (w' : World) R1 hh => l02Numbers_any A n c xss x (lo := lo) (hi := hi) w' R1 hh N h4 hs hcon hx0 hx1
  generalize invL (bfs xss N x) = inv at *
  replace hs := Lib.hid hs
  replace hip := Lib.hid hip
  replace hpp := Lib.hid hpp
  replace hpl := Lib.hid hpl
  replace hcon := Lib.hid hcon
  go_enter Try.func128, Try.ntmps128
  go_wp2_with fail
  obtain ⟨W1, hW⟩ : ∃ W1 : World, (w.alloc (.cells #[.slice A n c] 38)).alloc (.cells #[.slice none 0 0] 38) = W1 := ⟨_, rfl⟩
  have hz1 : W1.heap.size = w.heap.size + 2 := by rw [← hW]; simp
  rw [hW] at hR hC hQ hB ⊢
  replace hQ := Lib.hid hQ
  clear hW h
  have hT := hnums W1.drew (rs_drew hR) (show _ ≤ W1.heap.size by omega)
  replace hnums := Lib.hid hnums
  go_region_with (first
    | (go_at_call 145; refine hT.mono ?_; rintro e w3 ⟨A3, rfl, o3, f3⟩; have f3 : Below W1.heap.size W1 w3 := ⟨f3.os, f3.tape, f3.output, f3.size, f3.block⟩; have y3 := f3.size; have D3 := (f3.cell (p := ⟨w.heap.size, 0, none⟩) (by simp; omega)).trans hC; have qa := l02Renumber_any A n c xss A3 N N inv w3 (hR.below f3 (by omega)) (by omega) o3.ri (Nat.le_refl _) hn5 hs.out hip.out)
    | (go_at_call 144; refine qa.mono ?_; rintro e w4 ⟨A4, c4, rfl, o4, f4⟩; have B4 : Below W1.heap.size W1 w4 := below_then f3 f4 (by omega); have Q4 := (B4.block (w.heap.size + 1) (by omega)).trans hQ.out; have C4 : w4.cell? ⟨w.heap.size + 1, 0, none⟩ = some (.slice none 0 0) := (cell_of_row _ _ _ _ _ _ Q4).trans rfl; have F4 : w4.frozen? ⟨w.heap.size + 1, 0, none⟩ = false := frozen_of_row _ _ _ _ _ Q4; replace Q4 := Lib.hid Q4))
  all_goals
    go_wp2_with fail
    have g2 := heap_setCell_same _ _ 0 _ _ (Value.slice A4 n c4) Q4.out
    (try simp only [Exit.inBlock, Exit.then])
    refine bodyPost_ret (v := .agg #[.slice A4 n c4]) ?_ rfl ?_
    · exact results_cell_row rfl _ _ (w.heap.size + 1) 38 #[.slice A4 n c4] (0, 0) _ rfl (by simpa using g2) Try.underlying38 rfl (by kernel_rfl)
    · exact ⟨A4, c4, rfl, (o4.keep (same_set _ _ _ _ _ (.inl (by simp; omega)))).more (by omega) (by simp), (hB.trans (B4.mono (by omega))).setCell (by simp) _⟩
end Go.Proofs.Ytbioelmofceaaaa
