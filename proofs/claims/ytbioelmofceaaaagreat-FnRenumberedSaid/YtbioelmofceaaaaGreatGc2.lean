/- Merged texts, part 3: walks and plain lemmas of the functions that the statements reach (Bes .. Dra). No condition but those that each lemma names. -/
import Derived.Deep.Cut
import Derived.Deep.CutRange
import Derived.Deep.CutBlock
import Derived.Test.YtbioelmofceaaaaGreatGb
/- Bes -/
namespace Go.Proofs.YtbioelmofceaaaaGreat
open Go.RowKit
set_option linter.unusedVariables false
set_option maxRecDepth 100000
set_option maxHeartbeats 8000000 in
theorem l02Beside_any (A : Option Addr) (m c : Nat) (xss : List (List Int)) (A' : Option Addr) (m' c' : Nat) (yss : List (List Int)) (w : World) {lo hi lo' hi' : Nat} (h : RS w lo hi A m xss) (hhi : hi ≤ w.heap.size) (h' : RS w lo' hi' A' m' yss) (hhi' : hi' ≤ w.heap.size)
    (hm : 0 < m) (hm' : 0 < m') (hm5 : m + m' ≤ 20) (a b : Nat) (hx : SysOf xss a) (hy : SysOf yss b) (ha : 1 ≤ a) (hb : 1 ≤ b) (hab : a * b ≤ 400) :
    Calls Tryz.prog 80 #[.agg #[.slice A m c], .agg #[.slice A' m' c']] w fun e w' => ∃ (A1 : Option Addr) (c1 : Nat), e = .returned (.agg #[.slice A1 (m + m') c1]) ∧ OwnS w' w.heap.size w'.heap.size 35 2 A1 (m + m') c1 (besL xss yss a b) ∧ Below w.heap.size w w' := by
  obtain ⟨j0, hj0, hy0, hy1, hy2⟩ := info_parts infoI
  obtain ⟨s0, hs0, hu0, hu1, hu2⟩ := info_parts infoS
  have hl := h.len
  have hl' := h'.len
  have hfa : flg xss = a := by obtain ⟨p, hp⟩ : ∃ p, xss[0]? = some p := ⟨_, List.getElem?_eq_getElem (by omega)⟩; rw [flg_of hp]; exact (hx p (List.mem_of_getElem? hp)).2.2
  have hfb : flg yss = b := by obtain ⟨p, hp⟩ : ∃ p, yss[0]? = some p := ⟨_, List.getElem?_eq_getElem (by omega)⟩; rw [flg_of hp]; exact (hy p (List.mem_of_getElem? hp)).2.2
  replace hx := Lib.hid hx
  replace hy := Lib.hid hy
  replace hfa := Lib.hid hfa
  replace hfb := Lib.hid hfb
  have hR := rs_alloc (rs_alloc (rs_alloc h hhi (.cells #[.slice A m c] 26)) (by simp; omega) (.cells #[.slice A' m' c'] 26)) (by simp; omega) (.cells #[.slice none 0 0] 26)
  have hR' := rs_alloc (rs_alloc (rs_alloc h' hhi' (.cells #[.slice A m c] 26)) (by simp; omega) (.cells #[.slice A' m' c'] 26)) (by simp; omega) (.cells #[.slice none 0 0] 26)
  have hB : Below w.heap.size w (((w.alloc (.cells #[.slice A m c] 26)).alloc (.cells #[.slice A' m' c'] 26)).alloc (.cells #[.slice none 0 0] 26)) := (((Below.refl _ _).alloc (Nat.le_refl _) _).alloc (by simp) _).alloc (by simp; omega) _
  have p0 : (((w.alloc (.cells #[.slice A m c] 26)).alloc (.cells #[.slice A' m' c'] 26)).alloc (.cells #[.slice none 0 0] 26)).heap[w.heap.size]? = some (.cells #[.slice A m c] 26 (0, 0)) := ((Below.heap_alloc _ _ _ (by simp; omega)).trans (Below.heap_alloc _ _ _ (by simp))).trans (heap_new _ _ _ rfl)
  have p1 : (((w.alloc (.cells #[.slice A m c] 26)).alloc (.cells #[.slice A' m' c'] 26)).alloc (.cells #[.slice none 0 0] 26)).heap[w.heap.size + 1]? = some (.cells #[.slice A' m' c'] 26 (0, 0)) := (Below.heap_alloc _ _ _ (by simp)).trans (heap_new _ _ _ (by simp))
  have p2 : (((w.alloc (.cells #[.slice A m c] 26)).alloc (.cells #[.slice A' m' c'] 26)).alloc (.cells #[.slice none 0 0] 26)).heap[w.heap.size + 1 + 1]? = some (.cells #[.slice none 0 0] 26 (0, 0)) := heap_new _ _ _ (by simp)
  go_enter Tryz.func80, Tryz.ntmps80
  go_wp2_with fail
  obtain ⟨W1, hW⟩ : ∃ W1 : World, (((w.alloc (.cells #[.slice A m c] 26)).alloc (.cells #[.slice A' m' c'] 26)).alloc (.cells #[.slice none 0 0] 26)) = W1 := ⟨_, rfl⟩
  have hz1 : W1.heap.size = w.heap.size + 3 := by rw [← hW]; simp
  rw [hW] at hR hR' hB p0 p1 p2 ⊢
  clear hW h h'
  haveI := Since.ne W1
  have hh1 : hi ≤ W1.heap.size := by omega
  have hh2 : hi' ≤ W1.heap.size := by omega
  have u1 : ∀ u : Since W1, u.val.cell? ⟨w.heap.size, 0, none⟩ = some (.slice A m c) := fun u => (u.ok.cell (p := ⟨w.heap.size, 0, none⟩) (by simp; omega)).trans (by rw [cell_of_row _ _ _ _ _ _ p0]; rfl)
  have u2 : ∀ u : Since W1, u.val.cell? ⟨w.heap.size + 1, 0, none⟩ = some (.slice A' m' c') := fun u => (u.ok.cell (p := ⟨w.heap.size + 1, 0, none⟩) (by simp; omega)).trans (by rw [cell_of_row _ _ _ _ _ _ p1]; rfl)
  refine wp_region_since_lit (by kernel_rfl) (by kernel_rfl) ?_
  repeat (go_big_quiet_step ((go_at_call 43; first | (refine since_call (hfa.out ▸ l02Flags_any A m c xss _ (hR.below (Since.ok _) hh1) ?_ hm); exact Nat.le_trans hh1 (Since.ok _).size) | (refine since_call (hfb.out ▸ l02Flags_any A' m' c' yss _ (hR'.below (Since.ok _) hh2) ?_ hm'); exact Nat.le_trans hh2 (Since.ok _).size))))
  refine wpQuiet_nil ?_
  intro w2 hw2
  have hb2 : Below W1.heap.size W1 w2 := by obtain ⟨u, hu⟩ := hw2; rw [hu]; exact u.ok
  clear hw2 u1 u2
  have hz2 := hb2.size
  have hR2 := hR.below hb2 hh1
  have hR2' := hR'.below hb2 hh2
  have q0 := (hb2.block w.heap.size (by omega)).trans p0
  have q1 := (hb2.block (w.heap.size + 1) (by omega)).trans p1
  have q2 := (hb2.block (w.heap.size + 1 + 1) (by omega)).trans p2
  have C0 : w2.cell? ⟨w.heap.size, 0, none⟩ = some (.slice A m c) := by rw [cell_of_row _ _ _ _ _ _ q0]; rfl
  have C1 : w2.cell? ⟨w.heap.size + 1, 0, none⟩ = some (.slice A' m' c') := by rw [cell_of_row _ _ _ _ _ _ q1]; rfl
  have hBw : Below w.heap.size w w2 := hB.trans (hb2.mono (by omega))
  obtain ⟨N, hN⟩ : ∃ N, a * b = N := ⟨_, rfl⟩
  rw [hN] at hab
  have haN : a ≤ N := by rw [← hN]; exact Nat.le_mul_of_pos_right a (by omega)
  have hbN : b ≤ N := by rw [← hN]; exact Nat.le_mul_of_pos_left b (by omega)
  have hmul : (a : Int) * (b : Int) = (N : Int) := by rw [← hN, Int.natCast_mul]
  have hbl := besL_length xss yss a b
  rw [hl, hl'] at hbl
  replace hN := Lib.hid hN
  replace hbl := Lib.hid hbl
  replace q0 := Lib.hid q0
  replace q1 := Lib.hid q1
  replace q2 := Lib.hid q2
  replace hR2 := Lib.hid hR2
  replace hR2' := Lib.hid hR2'
  clear hR hR' p0 p1 p2 hB hb2
  have hh1 : hi ≤ w2.heap.size := by omega
  have hh2 : hi' ≤ w2.heap.size := by omega
  have hzw : w.heap.size + 3 ≤ w2.heap.size := by omega
  have hpos : (0 : Int) < (b : Int) := by omega
  have hb0 : ¬ b = 0 := by omega
  clear hz1
  go_wp2_with fail
  go_loopw [8] (fun kv wq => ∃ (k : Nat) (vs : List Value) (A2 : Option Addr) (c2 : Nat), k ≤ m + m' ∧ Hid (vs.length = k) ∧ kv = .int .i64 k ∧ Hid (wq.heap[w2.heap.size]? = some (.cells #[.slice A2 k c2] 26 (0, 0))) ∧
      Own wq (w2.heap.size + 1) wq.heap.size 35 A2 k c2 vs ∧ RowsOwn wq (w2.heap.size + 1) wq.heap.size 2 vs ((besL xss yss a b).take k) ∧ w2.heap.size + 1 ≤ wq.heap.size ∧ Below w2.heap.size w2 wq) (fun kv _ => m + m' - (intOf kv).toNat)
  case atStart => exact ⟨0, [], none, 0, by omega, Lib.hid rfl, rfl, Lib.hid (heap_new _ _ _ rfl), Own.nil, by simpa using RowsOwn.nil, by simp, (Below.refl _ _).alloc (Nat.le_refl _) _⟩
  case round =>
    obtain ⟨k, vs, A2, c2, hk, hvk, rfl, g9, ho9, hrows, hz9, hb9⟩ := hrel
    have D0 := (hb9.cell (p := ⟨w.heap.size, 0, none⟩) (by simp; omega)).trans C0
    have D1 := (hb9.cell (p := ⟨w.heap.size + 1, 0, none⟩) (by simp; omega)).trans C1
    have hw1 : IntKind.i64.wrap ((m : Int) + (m' : Int)) = (m : Int) + (m' : Int) := by rw [IntKind.wrap_i64]; omega
    by_cases hkm : k < m + m'
    · have d0 : decide ((k : Int) < (m : Int) + (m' : Int)) = true := by simp; omega
      have hm1 := hR2.out.max
      have hm2 := hR2'.out.max
      obtain ⟨wo, rfl⟩ : ∃ wo : World, wo = wr := ⟨_, rfl⟩
      have b0 := own_lit0 wo 2 (Nat.le_refl wo.heap.size)

      by_cases hka : k < m
      · skip
        obtain ⟨bA, oA, Ak, nk, ck, pr, rfl, _, hbA, hpr, hcp, hrp⟩ := hR2.out.at_ hka
        have hprm := List.mem_of_getElem? hpr
        obtain ⟨r1, r2, r3⟩ := hx.out pr hprm
        have hnk : nk = a := by have := hrp.len; omega
        subst hnk
        have hrow : Hid ((besL xss yss nk b)[k]? = some ((List.range N).map (besA pr b))) := Lib.hid (by unfold besL; rw [List.getElem?_append_left (by simp; omega), List.getElem?_map, hpr, hN.out]; rfl)
        replace r1 := Lib.hid r1
        replace r3 := Lib.hid r3
        replace hpr := Lib.hid hpr
        replace hprm := Lib.hid hprm
        clear r2
        go_wp2_with fail
        go_loopw [9, 10] (fun rv fv wq => ∃ (f : Nat) (A3 : Option Addr) (c3 : Nat), f ≤ N ∧ rv = .slice A3 f c3 ∧ fv = .int .i64 f ∧ wq.ownsRow wo.heap.size 2 1 (.slice A3 f c3) f (((List.range f).map (besA pr b)).map (Value.int .i64)) ∧ wo.heap.size ≤ wq.heap.size ∧ Below wo.heap.size wo wq) (fun _ fv _ => N - (intOf fv).toNat)
        case atStart => exact ⟨0, _, 0, by omega, rfl, rfl, by simpa using b0.1, by simp, (Below.refl _ _).alloc (Nat.le_refl _) _⟩
        case round =>
          obtain ⟨f, A3, c3, hf, rfl, rfl, ho, hzi, hbi⟩ := hrel
          have hbw := hb9.trans (hbi.mono (by omega))
          have E0 := (hbw.cell (p := ⟨w.heap.size, 0, none⟩) (by simp; omega)).trans C0
          have E1 := (hbw.cell (p := ⟨w.heap.size + 1, 0, none⟩) (by simp; omega)).trans C1
          by_cases hlt : f < N
          · have hlt2 : f < nk * b := by have := hN.out; omega
            obtain ⟨x, htd, hxe⟩ : ∃ x : Nat, Int.tdiv (f : Int) (b : Int) = (x : Int) ∧ x = f / b := ⟨f / b, rfl, rfl⟩
            obtain ⟨y, htm, hye⟩ : ∃ y : Nat, Int.tmod (f : Int) (b : Int) = (y : Int) ∧ y = f % b := ⟨f % b, rfl, rfl⟩
            have hxa : x < nk := by rw [hxe, Nat.div_lt_iff_lt_mul (by omega)]; exact hlt2
            have hyb : y < b := by rw [hye]; exact Nat.mod_lt _ (by omega)
            have hcp2 := (hbw.cell (p := ⟨bA, oA + k, none⟩) (by simp; omega)).trans hcp
            obtain ⟨bp, op, uv, rfl, _, hbp, huv, hcu⟩ := (hrp.below hbw (by omega)).at_ (show x < nk by omega)
            obtain ⟨hu0, huN⟩ := r1.out uv (List.mem_of_getElem? huv)
            obtain ⟨u, rfl⟩ := Int.eq_ofNat_of_zero_le hu0
            have i0 : (0 : Int) ≤ (x : Int) := by omega
            have i1 : (x : Int) < (nk : Int) := by omega
            obtain ⟨z, hz, hzz⟩ : ∃ z : Nat, (u : Int) * (b : Int) = (z : Int) ∧ z = u * b := ⟨u * b, by rw [Int.natCast_mul], rfl⟩
            have hval : besA pr b f = (z : Int) + (y : Int) := by unfold besA; rw [← hxe, ← hye, List.getD_eq_getElem?_getD, huv]; simp [hzz]
            have hzN : z + y < N := by have := pair_lt (a := nk) (b := b) (x := u) (y := y) (by omega) hyb; rw [← hzz, hN.out] at this; exact this
            obtain ⟨v, hv, hvv⟩ : ∃ v : Nat, (z : Int) + (y : Int) = (v : Int) ∧ v < N := ⟨z + y, by omega, hzN⟩
            rw [hv] at hval
            have hrs : ((List.range (f + 1)).map (besA pr b)).map (Value.int .i64) = (((List.range f).map (besA pr b)).map (Value.int .i64)) ++ [.int .i64 ((z : Int) + (y : Int))] := by rw [hv, List.range_succ, List.map_append, List.map_append, List.map_singleton, hval]; rfl
            have hown' : Hid ((wr.alloc (.cells #[.int .i64 ((z : Int) + (y : Int))] 2)).drew.ownsRow wo.heap.size 2 1 (.slice A3 f c3) f (((List.range f).map (besA pr b)).map (Value.int .i64))) := Lib.hid (ho.alloc _)
            have hnew' : Hid (∀ q v, [Value.int .i64 ((z : Int) + (y : Int))][q]? = some v → (wr.alloc (.cells #[.int .i64 ((z : Int) + (y : Int))] 2)).drew.cell? ((⟨wr.heap.size, 0, none⟩ : Addr).add q) = some v) := Lib.hid (cell_one_of (heap_new _ _ _ rfl))
            have hml : Hid (f + 1 ≤ maxLen) := Lib.hid (by simp only [maxLen]; omega)
            have hbs : Hid (wo.heap.size ≤ (wr.alloc (.cells #[.int .i64 ((z : Int) + (y : Int))] 2)).drew.heap.size) := Lib.hid (by simp; omega)
            have hBa : Hid (Below wo.heap.size wo (wr.alloc (.cells #[.int .i64 ((z : Int) + (y : Int))] 2)).drew) := Lib.hid (below_drw (hbi.alloc hzi _))
            have hlo6 : Hid (∀ q, (Value.slice A3 f c3).ownBlock = some q → wo.heap.size ≤ q) := Lib.hid (fun q hq => (ho.lt q hq).1)
            replace hrs := Lib.hid hrs
            replace hxe := Lib.hid hxe
            replace hye := Lib.hid hye
            replace huv := Lib.hid huv
            replace hzz := Lib.hid hzz
            replace hval := Lib.hid hval
            have hwx : IntKind.i64.wrap (x : Int) = (x : Int) := by rw [IntKind.wrap_i64]; omega
            have hwy : IntKind.i64.wrap (y : Int) = (y : Int) := by rw [IntKind.wrap_i64]; omega
            have hwz : IntKind.i64.wrap (z : Int) = (z : Int) := by rw [IntKind.wrap_i64]; omega
            have hwv : IntKind.i64.wrap ((z : Int) + (y : Int)) = (z : Int) + (y : Int) := by rw [IntKind.wrap_i64]; omega
            clear ho hv hlt2 hzN
            have dka : decide ((k : Int) < (m : Int)) = true := by simp; omega
            go_wp2_with fail
            go_region_law? (refine step_append_lies _ (by rfl) (.tmp 40) (.tmp 57) 35 (by rfl) wo.heap.size 2 j0 (.int .i64 0) 1 8 Tryz.underlying35 hj0 hy0 hy1 hy2 rfl (by decide) (.slice A3 f c3) f (((List.range f).map (besA pr b)).map (Value.int .i64)) (by rfl) hown'.out ⟨wr.heap.size, 0, none⟩ 1 1 [.int .i64 ((z : Int) + (y : Int))] (by rfl) rfl hnew'.out (by simp [Value.oneCell']) (by decide) hml.out (by omega) hbs.out (wr.heap.size + 1) (by simp) ?_; intro g4 c4 w7 ho7 hg7 hor7 hlt7; have f7 : Below wo.heap.size wo w7 := hBa.out.grown hg7 hbs.out hlo6.out; rw [← hrs.out] at ho7)
            all_goals
              have z7 := f7.size
              clear hown' hnew' hbs hBa hlo6 hg7 hor7
              go_wp2_with fail
              go_roundw
              case measure => simp [intOf]; omega
              case rel => exact ⟨f + 1, _, c4, by omega, rfl, by go_num, ho7, z7, f7⟩
          · obtain rfl : N = f := by omega
            have g9w := (hbi.block w2.heap.size (by omega)).trans g9.out
            have C9 : wr.cell? ⟨w2.heap.size, 0, none⟩ = some (.slice A2 k c2) := by rw [cell_of_row _ _ _ _ _ _ g9w]; rfl
            have F9 : wr.frozen? ⟨w2.heap.size, 0, none⟩ = false := frozen_of_row _ _ _ _ _ g9w
            have o9 := ho9.below hbi (Nat.le_refl _)
            have r9 := hrows.keep (Same.of_below hbi (Nat.le_refl _))
            have orow := Own.of_row ho
            have htk := take_succ_of hrow.out
            replace htk := Lib.hid htk
            have hz3 := hb9.size
            replace g9w := Lib.hid g9w
            clear ho b0 hrows ho9 g9
            go_wp2_with (at_builtin; refine wpList_append1 wr rfl (.tmp 83) (.tmp 85) 24 rfl (w2.heap.size + 1) 35 s0 (.slice none 0 0) 24 Tryz.underlying24 hs0 hu0 hu1 hu2 rfl (by omega) A2 k c2 _ (.slice A3 N c3) rfl o9.1 _ rfl rfl rfl (by omega) (by omega) ?_)
            intro g4 c4 w5 ho5 hg5 hlo5 hlt5 hor5
            have g5 := (hg5.block w2.heap.size (by omega) (fun e => by have := (o9.1.lt _ e.symm).1; omega)).trans g9w.out
            have C5 : w5.cell? ⟨w2.heap.size, 0, none⟩ = some (.slice A2 k c2) := by rw [cell_of_row _ _ _ _ _ _ g5]; rfl
            have F5 : w5.frozen? ⟨w2.heap.size, 0, none⟩ = false := frozen_of_row _ _ _ _ _ g5
            have hrw5 := (r9.kept_ty o9.1 (by decide) hg5).snoc (orow.kept_ty o9.1 (by decide) hg5) (by omega) (by omega)
            have hz5 := hg5.size
            have hb5 : Below w2.heap.size w2 w5 := hbw.grown hg5 (by omega) (fun q hq => by have := (o9.1.lt q hq).1; omega)
            have ho5p := Own.of_row ho5
            replace g5 := Lib.hid g5
            clear C9 F9 o9 r9 orow hg5 ho5 E0 E1 D0 D1
            go_wp2_with fail
            go_roundw
            case measure => simp [intOf]; omega
            case rel =>
              refine ⟨k + 1, vs ++ [.slice A3 N c3], _, c4, by omega, Lib.hid (by simp [hvk.out]), by go_num, Lib.hid ?_, (ho5p.far (.inl (by simp)) _).more (Nat.le_refl _) (by simp), ?_, by simp; omega, hb5.setCell (by simp) _⟩
              · have := heap_setCell_same _ _ 0 _ _ (Value.slice (some ⟨g4, 0, none⟩) (k + 1) c4) g5.out
                simpa using this
              · rw [htk.out]
                exact (hrw5.keep (same_set _ _ _ _ _ (.inl (by simp)))).more (Nat.le_refl _) (by simp; omega)
      · skip
        obtain ⟨k2, hk2⟩ : ∃ k2, k2 + m = k := ⟨k - m, by omega⟩
        have hk2m : k2 < m' := by omega
        have hw2 : IntKind.i64.wrap ((k : Int) - (m : Int)) = (k2 : Int) := by rw [IntKind.wrap_i64]; omega
        obtain ⟨bA, oA, Ak, nk, ck, pr, rfl, _, hbA, hpr, hcp, hrp⟩ := hR2'.out.at_ (show k2 < m' by omega)
        have hprm := List.mem_of_getElem? hpr
        obtain ⟨r1, r2, r3⟩ := hy.out pr hprm
        have hnk : nk = b := by have := hrp.len; omega
        subst hnk
        have hrow : Hid ((besL xss yss a nk)[k]? = some ((List.range N).map (besB pr nk))) := Lib.hid (by unfold besL; rw [List.getElem?_append_right (by simp; omega), List.getElem?_map, List.length_map, hl, show k - m = k2 by omega, hpr, hN.out]; rfl)
        replace r1 := Lib.hid r1
        replace r3 := Lib.hid r3
        replace hpr := Lib.hid hpr
        replace hprm := Lib.hid hprm
        clear r2
        go_wp2_with fail
        go_loopw [9, 10] (fun rv fv wq => ∃ (f : Nat) (A3 : Option Addr) (c3 : Nat), f ≤ N ∧ rv = .slice A3 f c3 ∧ fv = .int .i64 f ∧ wq.ownsRow wo.heap.size 2 1 (.slice A3 f c3) f (((List.range f).map (besB pr nk)).map (Value.int .i64)) ∧ wo.heap.size ≤ wq.heap.size ∧ Below wo.heap.size wo wq) (fun _ fv _ => N - (intOf fv).toNat)
        case atStart => exact ⟨0, _, 0, by omega, rfl, rfl, by simpa using b0.1, by simp, (Below.refl _ _).alloc (Nat.le_refl _) _⟩
        case round =>
          obtain ⟨f, A3, c3, hf, rfl, rfl, ho, hzi, hbi⟩ := hrel
          have hbw := hb9.trans (hbi.mono (by omega))
          have E0 := (hbw.cell (p := ⟨w.heap.size, 0, none⟩) (by simp; omega)).trans C0
          have E1 := (hbw.cell (p := ⟨w.heap.size + 1, 0, none⟩) (by simp; omega)).trans C1
          by_cases hlt : f < N
          · have hlt2 : f < a * nk := by have := hN.out; omega
            obtain ⟨x, htd, hxe⟩ : ∃ x : Nat, Int.tdiv (f : Int) (nk : Int) = (x : Int) ∧ x = f / nk := ⟨f / nk, rfl, rfl⟩
            obtain ⟨y, htm, hye⟩ : ∃ y : Nat, Int.tmod (f : Int) (nk : Int) = (y : Int) ∧ y = f % nk := ⟨f % nk, rfl, rfl⟩
            have hxa : x < a := by rw [hxe, Nat.div_lt_iff_lt_mul (by omega)]; exact hlt2
            have hyb : y < nk := by rw [hye]; exact Nat.mod_lt _ (by omega)
            have hcp2 := (hbw.cell (p := ⟨bA, oA + k2, none⟩) (by simp; omega)).trans hcp
            obtain ⟨bp, op, uv, rfl, _, hbp, huv, hcu⟩ := (hrp.below hbw (by omega)).at_ (show y < nk by omega)
            obtain ⟨hu0, huN⟩ := r1.out uv (List.mem_of_getElem? huv)
            obtain ⟨u, rfl⟩ := Int.eq_ofNat_of_zero_le hu0
            have i0 : (0 : Int) ≤ (y : Int) := by omega
            have i1 : (y : Int) < (nk : Int) := by omega
            obtain ⟨z, hz, hzz⟩ : ∃ z : Nat, (x : Int) * (nk : Int) = (z : Int) ∧ z = x * nk := ⟨x * nk, by rw [Int.natCast_mul], rfl⟩
            have hval : besB pr nk f = (z : Int) + (u : Int) := by unfold besB; rw [← hxe, ← hye, List.getD_eq_getElem?_getD, huv]; simp [hzz]
            have hzN : z + u < N := by have := pair_lt (a := a) (b := nk) (x := x) (y := u) hxa (by omega); rw [← hzz, hN.out] at this; exact this
            obtain ⟨v, hv, hvv⟩ : ∃ v : Nat, (z : Int) + (u : Int) = (v : Int) ∧ v < N := ⟨z + u, by omega, hzN⟩
            rw [hv] at hval
            have hrs : ((List.range (f + 1)).map (besB pr nk)).map (Value.int .i64) = (((List.range f).map (besB pr nk)).map (Value.int .i64)) ++ [.int .i64 ((z : Int) + (u : Int))] := by rw [hv, List.range_succ, List.map_append, List.map_append, List.map_singleton, hval]; rfl
            have hown' : Hid ((wr.alloc (.cells #[.int .i64 ((z : Int) + (u : Int))] 2)).drew.ownsRow wo.heap.size 2 1 (.slice A3 f c3) f (((List.range f).map (besB pr nk)).map (Value.int .i64))) := Lib.hid (ho.alloc _)
            have hnew' : Hid (∀ q v, [Value.int .i64 ((z : Int) + (u : Int))][q]? = some v → (wr.alloc (.cells #[.int .i64 ((z : Int) + (u : Int))] 2)).drew.cell? ((⟨wr.heap.size, 0, none⟩ : Addr).add q) = some v) := Lib.hid (cell_one_of (heap_new _ _ _ rfl))
            have hml : Hid (f + 1 ≤ maxLen) := Lib.hid (by simp only [maxLen]; omega)
            have hbs : Hid (wo.heap.size ≤ (wr.alloc (.cells #[.int .i64 ((z : Int) + (u : Int))] 2)).drew.heap.size) := Lib.hid (by simp; omega)
            have hBa : Hid (Below wo.heap.size wo (wr.alloc (.cells #[.int .i64 ((z : Int) + (u : Int))] 2)).drew) := Lib.hid (below_drw (hbi.alloc hzi _))
            have hlo6 : Hid (∀ q, (Value.slice A3 f c3).ownBlock = some q → wo.heap.size ≤ q) := Lib.hid (fun q hq => (ho.lt q hq).1)
            replace hrs := Lib.hid hrs
            replace hxe := Lib.hid hxe
            replace hye := Lib.hid hye
            replace huv := Lib.hid huv
            replace hzz := Lib.hid hzz
            replace hval := Lib.hid hval
            have hwx : IntKind.i64.wrap (x : Int) = (x : Int) := by rw [IntKind.wrap_i64]; omega
            have hwy : IntKind.i64.wrap (y : Int) = (y : Int) := by rw [IntKind.wrap_i64]; omega
            have hwz : IntKind.i64.wrap (z : Int) = (z : Int) := by rw [IntKind.wrap_i64]; omega
            have hwv : IntKind.i64.wrap ((z : Int) + (u : Int)) = (z : Int) + (u : Int) := by rw [IntKind.wrap_i64]; omega
            clear ho hv hlt2 hzN
            have dka : decide ((k : Int) < (m : Int)) = false := by simp; omega
            go_wp2_with fail
            go_region_law? (refine step_append_lies _ (by rfl) (.tmp 59) (.tmp 80) 35 (by rfl) wo.heap.size 2 j0 (.int .i64 0) 1 8 Tryz.underlying35 hj0 hy0 hy1 hy2 rfl (by decide) (.slice A3 f c3) f (((List.range f).map (besB pr nk)).map (Value.int .i64)) (by rfl) hown'.out ⟨wr.heap.size, 0, none⟩ 1 1 [.int .i64 ((z : Int) + (u : Int))] (by rfl) rfl hnew'.out (by simp [Value.oneCell']) (by decide) hml.out (by omega) hbs.out (wr.heap.size + 1) (by simp) ?_; intro g4 c4 w7 ho7 hg7 hor7 hlt7; have f7 : Below wo.heap.size wo w7 := hBa.out.grown hg7 hbs.out hlo6.out; rw [← hrs.out] at ho7)
            all_goals
              have z7 := f7.size
              clear hown' hnew' hbs hBa hlo6 hg7 hor7
              go_wp2_with fail
              go_roundw
              case measure => simp [intOf]; omega
              case rel => exact ⟨f + 1, _, c4, by omega, rfl, by go_num, ho7, z7, f7⟩
          · obtain rfl : N = f := by omega
            have g9w := (hbi.block w2.heap.size (by omega)).trans g9.out
            have C9 : wr.cell? ⟨w2.heap.size, 0, none⟩ = some (.slice A2 k c2) := by rw [cell_of_row _ _ _ _ _ _ g9w]; rfl
            have F9 : wr.frozen? ⟨w2.heap.size, 0, none⟩ = false := frozen_of_row _ _ _ _ _ g9w
            have o9 := ho9.below hbi (Nat.le_refl _)
            have r9 := hrows.keep (Same.of_below hbi (Nat.le_refl _))
            have orow := Own.of_row ho
            have htk := take_succ_of hrow.out
            replace htk := Lib.hid htk
            have hz3 := hb9.size
            replace g9w := Lib.hid g9w
            clear ho b0 hrows ho9 g9
            go_wp2_with (at_builtin; refine wpList_append1 wr rfl (.tmp 83) (.tmp 85) 24 rfl (w2.heap.size + 1) 35 s0 (.slice none 0 0) 24 Tryz.underlying24 hs0 hu0 hu1 hu2 rfl (by omega) A2 k c2 _ (.slice A3 N c3) rfl o9.1 _ rfl rfl rfl (by omega) (by omega) ?_)
            intro g4 c4 w5 ho5 hg5 hlo5 hlt5 hor5
            have g5 := (hg5.block w2.heap.size (by omega) (fun e => by have := (o9.1.lt _ e.symm).1; omega)).trans g9w.out
            have C5 : w5.cell? ⟨w2.heap.size, 0, none⟩ = some (.slice A2 k c2) := by rw [cell_of_row _ _ _ _ _ _ g5]; rfl
            have F5 : w5.frozen? ⟨w2.heap.size, 0, none⟩ = false := frozen_of_row _ _ _ _ _ g5
            have hrw5 := (r9.kept_ty o9.1 (by decide) hg5).snoc (orow.kept_ty o9.1 (by decide) hg5) (by omega) (by omega)
            have hz5 := hg5.size
            have hb5 : Below w2.heap.size w2 w5 := hbw.grown hg5 (by omega) (fun q hq => by have := (o9.1.lt q hq).1; omega)
            have ho5p := Own.of_row ho5
            replace g5 := Lib.hid g5
            clear C9 F9 o9 r9 orow hg5 ho5 E0 E1 D0 D1
            go_wp2_with fail
            go_roundw
            case measure => simp [intOf]; omega
            case rel =>
              refine ⟨k + 1, vs ++ [.slice A3 N c3], _, c4, by omega, Lib.hid (by simp [hvk.out]), by go_num, Lib.hid ?_, (ho5p.far (.inl (by simp)) _).more (Nat.le_refl _) (by simp), ?_, by simp; omega, hb5.setCell (by simp) _⟩
              · have := heap_setCell_same _ _ 0 _ _ (Value.slice (some ⟨g4, 0, none⟩) (k + 1) c4) g5.out
                simpa using this
              · rw [htk.out]
                exact (hrw5.keep (same_set _ _ _ _ _ (.inl (by simp)))).more (Nat.le_refl _) (by simp; omega)
    · have d0 : decide ((k : Int) < (m : Int) + (m' : Int)) = false := by simp; omega
      have hkm' : k = m + m' := by omega
      have hm1 := hR2.out.max
      have hm2 := hR2'.out.max
      have hz3 := hb9.size
      have g1 := (hb9.block (w.heap.size + 1 + 1) (by omega)).trans q2.out
      have C2 : wr.cell? ⟨w.heap.size + 1 + 1, 0, none⟩ = some (.slice none 0 0) := by rw [cell_of_row _ _ _ _ _ _ g1]; rfl
      have F2 : wr.frozen? ⟨w.heap.size + 1 + 1, 0, none⟩ = false := frozen_of_row _ _ _ _ _ g1
      have C9 : wr.cell? ⟨w2.heap.size, 0, none⟩ = some (.slice A2 k c2) := by rw [cell_of_row _ _ _ _ _ _ g9.out]; rfl
      replace g1 := Lib.hid g1
      replace hkm' := Lib.hid hkm'
      go_wp2_with fail
      have g2 := heap_setCell_same _ _ 0 _ _ (Value.slice A2 k c2) g1.out
      (try simp only [Exit.inBlock, Exit.then])
      refine bodyPost_ret (v := .agg #[.slice A2 k c2]) ?_ rfl ?_
      · exact results_cell_row rfl _ _ (w.heap.size + 1 + 1) 26 #[.slice A2 k c2] (0, 0) _ rfl (by simpa using g2) Tryz.underlying26 rfl (by kernel_rfl)
      · have e : (besL xss yss a b).take k = besL xss yss a b := List.take_of_length_le (by have := hbl.out; have := hkm'.out; omega)
        rw [e] at hrows
        rw [← hkm'.out]
        refine ⟨A2, c2, rfl, ⟨vs, ?_, ?_⟩, (hBw.trans (hb9.mono (by omega))).setCell (by simp; omega) _⟩
        · exact (ho9.keep (same_set _ _ _ _ _ (.inl (by simp; omega)))).more (by omega) (by simp)
        · exact (hrows.keep (same_set _ _ _ _ _ (.inl (by simp; omega)))).more (by omega) (by simp)
end Go.Proofs.YtbioelmofceaaaaGreat
/- DrwZ -/
namespace Go.Proofs.YtbioelmofceaaaaGreat
open Go.RowKit
set_option linter.unusedVariables false
set_option maxRecDepth 100000
/-- a number v with v <= most has been drawn -/
def StepP (w w' : World) (lo g : Nat) (T : TypeId) (A : Option Addr) (n c : Nat) (bs : List Int) (most v : Nat) : Prop :=
  v ≤ most ∧ ∃ (i' h' : Nat), Src w' lo g T A n c bs i' h' ∧ Chg g (g + 1) w w'
theorem next_nat (w : World) (lo g : Nat) (A : Option Addr) (n c : Nat) (bs : List Int) (i h : Nat) (s : Src w lo g 74 A n c bs i h) (x : Int) (h1 : 1 ≤ x) (hx : x ≤ 1099511627776) :
    Calls Tryz.prog 44 #[.pointer (some ⟨g, 0, none⟩), .int .i64 x] w fun e w' => ∃ (v : Nat), e = .returned (.int .i64 v) ∧ StepP w w' lo g 74 A n c bs (x - 1).toNat v := by
  refine (next_any w lo g A n c bs i h s x h1 hx).mono ?_
  rintro e w' ⟨v, i', rfl, P⟩
  obtain ⟨V, rfl⟩ := Int.eq_ofNat_of_zero_le P.ge
  have := P.lt
  exact ⟨V, rfl, by omega, i', _, P.src, P.chg⟩
end Go.Proofs.YtbioelmofceaaaaGreat
/- Any -/
namespace Go.Proofs.YtbioelmofceaaaaGreat
open Go.RowKit
set_option linter.unusedVariables false
set_option maxRecDepth 100000
/-- what a draw of a maniplex leaves: rows of its own that are permutations of an even number of flags -/
def DrawnM (w w' : World) (lo g : Nat) (TS T2 T1 : TypeId) (A : Option Addr) (n c : Nat) (bs : List Int) (M : Nat) (A1 : Option Addr) (m c1 : Nat) : Prop :=
  ∃ (zss : List (List Int)) (K i' h' : Nat), OwnS w' w.heap.size w'.heap.size T2 T1 A1 m c1 zss ∧ SysOf zss (2 * K) ∧ 1 ≤ K ∧ 2 * K ≤ M ∧ 1 ≤ m ∧ m ≤ 5 ∧ Src w' lo g TS A n c bs i' h' ∧ Chg g (g + 1) w w'
/-- the length of the slice that the cell at b holds -/
def mLen (w : World) (b : Nat) : Nat := match w.cell? ⟨b, 0, none⟩ with | some (.slice _ n _) => n | _ => 0
theorem mLen_eq {w : World} {b n c : Nat} {A : Option Addr} {T : TypeId} (h : w.heap[b]? = some (.cells #[.slice A n c] T (0, 0))) : mLen w b = n := by
  unfold mLen
  rw [cell_of_row _ _ _ _ _ _ h]
  rfl
/-- the walk's frame: the result's block, the edge, the source -/
structure AnyS (w : World) (lo g b3 : Nat) (TS TM T2 T1 : TypeId) (A : Option Addr) (n c : Nat) (bs : List Int) (wq : World) : Prop where
  hb : b3 = w.heap.size + 3
  hg : g < w.heap.size
  g0 : wq.heap[w.heap.size]? = some (.cells #[.slice none 0 0] TM (0, 0))
  ge : wq.heap[b3]? = some (.cells #[.slice (some ⟨w.heap.size + 1 + 1, 0, none⟩) 1 1] TM (0, 0))
  eo : OwnS wq (w.heap.size + 1) b3 T2 T1 (some ⟨w.heap.size + 1 + 1, 0, none⟩) 1 1 [[1, 0]]
  src : ∃ i h, Src wq lo g TS A n c bs i h
  chg : Chg g (g + 1) w wq
  size : b3 + 2 ≤ wq.heap.size
section
variable {w : World} {lo g b3 : Nat} {TS TM T2 T1 : TypeId} {A : Option Addr} {n c : Nat} {bs : List Int} {wq w2 : World}
theorem AnyS.step (S : AnyS w lo g b3 TS TM T2 T1 A n c bs wq) {i h : Nat} (s : Src w2 lo g TS A n c bs i h) (C : Chg g (g + 1) wq w2) : AnyS w lo g b3 TS TM T2 T1 A n c bs w2 := by
  have h1 := S.hb
  have h2 := S.hg
  have h3 := S.size
  have h4 := C.size
  exact ⟨h1, h2, (C.block _ (by omega) (by omega)).trans S.g0, (C.block _ (by omega) (by omega)).trans S.ge, S.eo.keep (Same.of_chg C (by omega) (.inr (by omega))), ⟨_, _, s⟩, S.chg.trans C ⟨Nat.le_refl _, Nat.le_refl _⟩ ⟨Nat.le_refl _, Nat.le_refl _⟩, by omega⟩
theorem AnyS.below (S : AnyS w lo g b3 TS TM T2 T1 A n c bs wq) (B : Below wq.heap.size wq w2) : AnyS w lo g b3 TS TM T2 T1 A n c bs w2 := by
  obtain ⟨i, h, s⟩ := S.src
  have h2 := S.hg
  have h3 := S.size
  have h1 := S.hb
  exact S.step (s.below B (by omega)) (Chg.of_below _ _ B)
theorem AnyS.setM (S : AnyS w lo g b3 TS TM T2 T1 A n c bs wq) (v : Value) : AnyS w lo g b3 TS TM T2 T1 A n c bs (wq.setCell ⟨b3 + 1, 0, none⟩ v) := by
  obtain ⟨i, h, s⟩ := S.src
  have h1 := S.hb
  have h2 := S.hg
  have h3 := s.above
  exact ⟨h1, h2, (Below.heap_setCell _ _ _ _ (by simp; omega)).trans S.g0, (Below.heap_setCell _ _ _ _ (by simp)).trans S.ge, S.eo.keep (same_set _ _ _ _ _ (.inr (by simp))), ⟨_, _, s.far (by simp; omega) (by simp; omega) _⟩, S.chg.setNew (by simp; omega) _, by have := S.size; simpa using this⟩
theorem AnyS.cellE (S : AnyS w lo g b3 TS TM T2 T1 A n c bs wq) : wq.cell? ⟨b3, 0, none⟩ = some (.slice (some ⟨w.heap.size + 1 + 1, 0, none⟩) 1 1) := by rw [cell_of_row _ _ _ _ _ _ S.ge]; rfl
theorem AnyS.cell0 (S : AnyS w lo g b3 TS TM T2 T1 A n c bs wq) : wq.cell? ⟨w.heap.size, 0, none⟩ = some (.slice none 0 0) := by rw [cell_of_row _ _ _ _ _ _ S.g0]; rfl
theorem AnyS.frz0 (S : AnyS w lo g b3 TS TM T2 T1 A n c bs wq) : wq.frozen? ⟨w.heap.size, 0, none⟩ = false := frozen_of_row _ _ _ _ _ S.g0
end
/-- the maniplex drawn so far, in the block behind the edge's -/
structure AnyM (b3 : Nat) (TM T2 T1 : TypeId) (M : Nat) (wq : World) (A1 : Option Addr) (m c1 : Nat) (zss : List (List Int)) (K : Nat) : Prop where
  gm : wq.heap[b3 + 1]? = some (.cells #[.slice A1 m c1] TM (0, 0))
  own : OwnS wq (b3 + 2) wq.heap.size T2 T1 A1 m c1 zss
  sys : SysOf zss (2 * K)
  k1 : 1 ≤ K
  kM : 2 * K ≤ M
  m1 : 1 ≤ m
  m5 : m ≤ 5
  hz : b3 + 2 ≤ wq.heap.size
section
variable {b3 : Nat} {TM T2 T1 : TypeId} {M : Nat} {wq w2 : World} {A1 : Option Addr} {m c1 : Nat} {zss : List (List Int)} {K : Nat}
theorem AnyM.step (S : AnyM b3 TM T2 T1 M wq A1 m c1 zss K) {g : Nat} (hg : g < b3) (C : Chg g (g + 1) wq w2) : AnyM b3 TM T2 T1 M w2 A1 m c1 zss K := by
  have h3 := S.hz
  have h4 := C.size
  exact ⟨(C.block _ (by omega) (by omega)).trans S.gm, (S.own.keep (Same.of_chg C (Nat.le_refl _) (.inr (by omega)))).more (Nat.le_refl _) h4, S.sys, S.k1, S.kM, S.m1, S.m5, by omega⟩
theorem AnyM.below (S : AnyM b3 TM T2 T1 M wq A1 m c1 zss K) (B : Below wq.heap.size wq w2) : AnyM b3 TM T2 T1 M w2 A1 m c1 zss K := by
  have h3 := S.hz
  have h4 := B.size
  exact ⟨(B.block _ (by omega)).trans S.gm, (S.own.below B (Nat.le_refl _)).more (Nat.le_refl _) h4, S.sys, S.k1, S.kM, S.m1, S.m5, by omega⟩
theorem AnyM.cellM (S : AnyM b3 TM T2 T1 M wq A1 m c1 zss K) : wq.cell? ⟨b3 + 1, 0, none⟩ = some (.slice A1 m c1) := by rw [cell_of_row _ _ _ _ _ _ S.gm]; rfl
theorem AnyM.frzM (S : AnyM b3 TM T2 T1 M wq A1 m c1 zss K) : wq.frozen? ⟨b3 + 1, 0, none⟩ = false := frozen_of_row _ _ _ _ _ S.gm
/-- another maniplex is stored -/
theorem AnyM.set {A2 : Option Addr} {m2 c2 lo2 : Nat} {yss : List (List Int)} {K2 : Nat} {cs : Array Value} (hg : w2.heap[b3 + 1]? = some (.cells cs TM (0, 0))) (hc : cs.size = 1) (o : OwnS w2 lo2 w2.heap.size T2 T1 A2 m2 c2 yss) (hlo : b3 + 2 ≤ lo2) (hs : SysOf yss (2 * K2)) (k1 : 1 ≤ K2) (kM : 2 * K2 ≤ M) (m1 : 1 ≤ m2) (m5 : m2 ≤ 5) (hz : b3 + 2 ≤ w2.heap.size) :
    AnyM b3 TM T2 T1 M (w2.setCell ⟨b3 + 1, 0, none⟩ (.slice A2 m2 c2)) A2 m2 c2 yss K2 := by
  obtain ⟨⟨x⟩⟩ := cs
  · simp at hc
  rename_i x t
  obtain rfl : t = [] := by simpa using hc
  have := heap_setCell_same _ _ 0 _ _ (Value.slice A2 m2 c2) hg
  refine ⟨by simpa using this, ((o.keep (same_set _ _ _ _ _ (.inl (by simp; omega)))).more hlo (by simp)), hs, k1, kM, m1, m5, by simpa using hz⟩
end
section
variable {w : World} {lo g b3 : Nat} {TS TM T2 T1 : TypeId} {A : Option Addr} {n c : Nat} {bs : List Int} {wq : World}
theorem AnyS.retE (S : AnyS w lo g b3 TS TM T2 T1 A n c bs wq) (he : SysOf [[1, 0]] 2) {M : Nat} (hM : 8 ≤ M) (v : Value) : DrawnM w (wq.setCell ⟨w.heap.size, 0, none⟩ v) lo g TS T2 T1 A n c bs M (some ⟨w.heap.size + 1 + 1, 0, none⟩) 1 1 := by
  obtain ⟨i, h, s⟩ := S.src
  have h1 := S.hb
  have h2 := S.hg
  have h3 := s.above
  have h4 := S.size
  exact ⟨_, 1, i, h, (S.eo.keep (same_set _ _ _ _ _ (.inl (by simp)))).more (by omega) (by simp; omega), he, by omega, by omega, by omega, by omega, s.far (by simp; omega) (by simp; omega) _, S.chg.setNew (by simp) _⟩
theorem AnyS.ret (S : AnyS w lo g b3 TS TM T2 T1 A n c bs wq) {M : Nat} {A1 : Option Addr} {m c1 : Nat} {zss : List (List Int)} {K : Nat} (N : AnyM b3 TM T2 T1 M wq A1 m c1 zss K) (v : Value) : DrawnM w (wq.setCell ⟨w.heap.size, 0, none⟩ v) lo g TS T2 T1 A n c bs M A1 m c1 := by
  obtain ⟨i, h, s⟩ := S.src
  have h1 := S.hb
  have h2 := S.hg
  have h3 := s.above
  have h4 := S.size
  exact ⟨zss, K, i, h, (N.own.keep (same_set _ _ _ _ _ (.inl (by simp; omega)))).more (by omega) (by simp), N.sys, N.k1, N.kM, N.m1, N.m5, s.far (by simp; omega) (by simp; omega) _, S.chg.setNew (by simp) _⟩
end
theorem edge_sys : SysOf [[1, 0]] 2 := by
  intro p hp
  obtain rfl := List.mem_singleton.1 hp
  refine ⟨fun x hx => ?_, by decide, rfl⟩
  simp at hx
  rcases hx with rfl | rfl <;> omega
theorem next_one (w : World) (lo g : Nat) (A : Option Addr) (n c : Nat) (bs : List Int) (i h : Nat) (s : Src w lo g 74 A n c bs i h) (r : Nat) (h1 : 1 ≤ r) (hx : r ≤ 400) :
    Calls Tryz.prog 44 #[.pointer (some ⟨g, 0, none⟩), .int .i64 (r : Int)] w fun e w' => ∃ (v p i' h' : Nat), e = .returned (.int .i64 v) ∧ (1 : Int) + (v : Int) = (p : Int) ∧ 1 ≤ p ∧ p ≤ r ∧ Src w' lo g 74 A n c bs i' h' ∧ Chg g (g + 1) w w' := by
  refine (next_nat w lo g A n c bs i h s (r : Int) (by omega) (by omega)).mono ?_
  rintro e w' ⟨v, rfl, hv, i', h', s', C⟩
  exact ⟨v, 1 + v, i', h', rfl, by omega, by omega, by omega, s', C⟩
set_option maxHeartbeats 8000000 in
theorem l02Any_any (w : World) (lo g : Nat) (A : Option Addr) (n c : Nat) (bs : List Int) (i h : Nat) (s : Src w lo g 74 A n c bs i h) (M : Nat) (hM8 : 8 ≤ M) (hM4 : M ≤ 400) :
    Calls Tryz.prog 65 #[.pointer (some ⟨g, 0, none⟩), .int .i64 (M : Int)] w fun e w' => ∃ (A1 : Option Addr) (m c1 : Nat), e = .returned (.agg #[.slice A1 m c1]) ∧ DrawnM w w' lo g 74 35 2 A n c bs M A1 m c1 := by
  have hgl := s.lt
  go_enter Tryz.func65, Tryz.ntmps65
  go_wp2_with fail
  obtain ⟨b3, hb3⟩ : ∃ b3, w.heap.size + 1 + 1 + 1 = b3 := ⟨_, rfl⟩
  rw [hb3]
  obtain ⟨W0, hW⟩ : ∃ W0 : World, (((((w.alloc (.cells #[.slice none 0 0] 26)).alloc (.cells #[.int .i64 1, .int .i64 0] 2)).alloc (.cells #[.slice (some ⟨w.heap.size + 1, 0, none⟩) 2 2] 35)).alloc (.cells #[.slice (some ⟨w.heap.size + 1 + 1, 0, none⟩) 1 1] 26)).alloc (.cells #[.slice (some ⟨w.heap.size + 1 + 1, 0, none⟩) 1 1] 26)) = W0 := ⟨_, rfl⟩
  have S0 : AnyS w lo g b3 74 26 35 2 A n c bs W0 := by
    subst hb3
    rw [← hW]
    have E1 := World.ownsRow_lit (e := 2) (base := w.heap.size + 1) (size := 1) (w.alloc (.cells #[.slice none 0 0] 26)) #[.int .i64 1, .int .i64 0] 2 (by simp) (by simp only [maxLen]; omega) rfl
    have E2 := World.ownsRow_lit (e := 35) (base := w.heap.size + 1) (size := 1) ((w.alloc (.cells #[.slice none 0 0] 26)).alloc (.cells #[.int .i64 1, .int .i64 0] 2)) #[.slice (some ⟨w.heap.size + 1, 0, none⟩) 2 2] 1 (by simp) (by simp only [maxLen]; omega) rfl
    have z1 : (w.alloc (.cells #[.slice none 0 0] 26)).heap.size = w.heap.size + 1 := by simp
    have z2 : ((w.alloc (.cells #[.slice none 0 0] 26)).alloc (.cells #[.int .i64 1, .int .i64 0] 2)).heap.size = w.heap.size + 1 + 1 := by simp
    rw [z1] at E1
    rw [z2] at E2
    have o1 := Own.of_row E1
    have o2 := Own.of_row E2
    have B : Below w.heap.size w (((((w.alloc (.cells #[.slice none 0 0] 26)).alloc (.cells #[.int .i64 1, .int .i64 0] 2)).alloc (.cells #[.slice (some ⟨w.heap.size + 1, 0, none⟩) 2 2] 35)).alloc (.cells #[.slice (some ⟨w.heap.size + 1 + 1, 0, none⟩) 1 1] 26)).alloc (.cells #[.slice (some ⟨w.heap.size + 1 + 1, 0, none⟩) 1 1] 26)) := ((((((Below.refl _ _).alloc (Nat.le_refl _) _).alloc (by simp) _).alloc (by simp; omega) _).alloc (by simp; omega) _).alloc (by simp; omega) _)
    refine ⟨rfl, hgl, ?_, ?_, ⟨[.slice (some ⟨w.heap.size + 1, 0, none⟩) 2 2], ?_, ?_⟩, ⟨i, h, s.below B hgl⟩, Chg.of_below _ _ B, by simp⟩
    · exact (Below.heap_alloc _ _ _ (by simp; omega)).trans ((Below.heap_alloc _ _ _ (by simp; omega)).trans ((Below.heap_alloc _ _ _ (by simp; omega)).trans ((Below.heap_alloc _ _ _ (by simp)).trans (heap_new _ _ _ rfl))))
    · exact (Below.heap_alloc _ _ _ (by simp)).trans (heap_new _ _ _ (by simp))
    · exact ((o2.keep (same_alloc _ _ _ _ (by first | (simp; done) | (simp; omega)))).keep (same_alloc _ _ _ _ (by first | (simp; done) | (simp; omega)))).more (Nat.le_refl _) (by simp)
    · have r1 : RowsOwn ((w.alloc (.cells #[.slice none 0 0] 26)).alloc (.cells #[.int .i64 1, .int .i64 0] 2)) (w.heap.size + 1) (w.heap.size + 1 + 1) 2 [.slice (some ⟨w.heap.size + 1, 0, none⟩) 2 2] [[1, 0]] := RowsOwn.snoc (hi := w.heap.size + 1) (hi' := w.heap.size + 1 + 1) (vs := []) (xss := []) (xs := [1, 0]) RowsOwn.nil (by simpa using o1) (Nat.le_refl _) (by omega)
      exact ((((r1.keep (same_alloc _ _ _ _ (by first | (simp; done) | (simp; omega)))).keep (same_alloc _ _ _ _ (by first | (simp; done) | (simp; omega)))).keep (same_alloc _ _ _ _ (by first | (simp; done) | (simp; omega))))).more (Nat.le_refl _) (by omega)
  have G0 : W0.heap[b3 + 1]? = some (.cells #[.slice (some ⟨w.heap.size + 1 + 1, 0, none⟩) 1 1] 26 (0, 0)) := by rw [← hW]; exact heap_new _ _ _ (by simp; omega)
  rw [hW]
  clear hW
  have hb : w.heap.size + 3 ≤ b3 ∧ b3 ≤ w.heap.size + 3 := by have := S0.hb; omega
  clear hb3
  obtain ⟨i0, h0, s0⟩ := S0.src
  have hn := next_any W0 lo g A n c bs i0 h0 s0 7 (by omega) (by omega)
  ((with_reducible refine hn.mono ?_); rintro e w2 ⟨v, i2, rfl, P⟩)
  have v0 := P.ge
  have v7 := P.lt
  have S2 := S0.step P.src P.chg
  have hz2 := S2.size
  have G2 := (P.chg.block (b3 + 1) (by have := S0.size; omega) (by omega)).trans G0
  obtain ⟨i2', h2', s2⟩ := S2.src
  clear hn P s0 G0 S0 s
  have hz2 := S2.size
  have D3 := S2.cellE
  have D4 : w2.cell? ⟨b3 + 1, 0, none⟩ = some (.slice (some ⟨w.heap.size + 1 + 1, 0, none⟩) 1 1) := by rw [cell_of_row _ _ _ _ _ _ G2]; rfl
  have F4 : w2.frozen? ⟨b3 + 1, 0, none⟩ = false := frozen_of_row _ _ _ _ _ G2
  have D0 := S2.cell0
  have F0 := S2.frz0
  obtain ⟨M2, hM2⟩ : ∃ M2 : Nat, Int.tdiv (M : Int) 2 = (M2 : Int) := ⟨M / 2, rfl⟩
  obtain ⟨M4, hM4'⟩ : ∃ M4 : Nat, Int.tdiv (M : Int) 4 = (M4 : Int) := ⟨M / 4, rfl⟩
  have hM2b : 2 * M2 ≤ M ∧ 4 ≤ M2 := by
    have : (M2 : Int) = ((M / 2 : Nat) : Int) := hM2.symm
    omega
  have hM4b : 4 * M4 ≤ M ∧ 2 ≤ M4 := by
    have : (M4 : Int) = ((M / 4 : Nat) : Int) := hM4'.symm
    omega
  go_upto_block 0 with fail
  go_cut [] from 7 to 62 (fun wx => ∃ (A1 : Option Addr) (m c1 : Nat) (zss : List (List Int)) (K : Nat), AnyS w lo g b3 74 26 35 2 A n c bs wx ∧ AnyM b3 26 35 2 M wx A1 m c1 zss K)
  case first =>
    have hcase : v = 0 ∨ v = 1 ∨ v = 2 ∨ v = 3 ∨ 4 ≤ v := by omega
    rcases hcase with rfl | rfl | rfl | rfl | hv4
    · clear D3 D4 F4 D0 F0
      have hn3 := next_nat w2 lo g A n c bs _ _ s2 (M2 : Int) (by omega) (by omega)
      go_wp2_with fail
      ((with_reducible refine hn3.mono ?_); rintro e w3 ⟨u, rfl, hu3, i3, h3, s3, C3⟩)
      have S3 := S2.step s3 C3
      clear hn3
      have hu3 : u + 1 ≤ M2 := by omega
      obtain ⟨p, hp⟩ : ∃ p : Nat, (1 : Int) + (u : Int) = (p : Int) := ⟨1 + u, by omega⟩
      have hp1 : 1 ≤ p ∧ p ≤ M2 := by omega
      have G3 := (C3.block (b3 + 1) (by omega) (by omega)).trans G2
      have hz3 := S3.size
      go_wp2_with fail
      ((with_reducible refine (l02Polygon_any p (by omega) (by omega) w3).mono ?_); rintro e w4 ⟨A4, c4, rfl, o4, f4⟩)
      have S4 := S3.below f4
      have hz4 := S4.size
      have G4 := (f4.block (b3 + 1) (by omega)).trans G3
      have D4 : w4.cell? ⟨b3 + 1, 0, none⟩ = some (.slice (some ⟨w.heap.size + 1 + 1, 0, none⟩) 1 1) := by rw [cell_of_row _ _ _ _ _ _ G4]; rfl
      have F4 : w4.frozen? ⟨b3 + 1, 0, none⟩ = false := frozen_of_row _ _ _ _ _ G4
      go_wp2_with fail
      go_meet
      exact ⟨_, _, _, _, p, S4.setM _, AnyM.set G4 rfl o4 (by have := S3.size; omega) (ply_sys (by omega)) (by omega) (by omega) (by omega) (by omega) hz4⟩
    · have g9 := heap_setCell_same _ _ 0 _ _ (Value.slice (some ⟨w.heap.size + 1 + 1, 0, none⟩) 1 1) S2.g0
      go_wp2_with fail
      (try simp only [Exit.inBlock, Exit.then])
      refine bodyPost_ret (v := .agg #[.slice (some ⟨w.heap.size + 1 + 1, 0, none⟩) 1 1]) ?_ rfl ?_
      · exact results_cell_row rfl _ _ w.heap.size 26 #[.slice (some ⟨w.heap.size + 1 + 1, 0, none⟩) 1 1] (0, 0) _ rfl (by simpa using g9) Tryz.underlying26 rfl (by kernel_rfl)
      · exact ⟨_, _, _, rfl, S2.retE edge_sys hM8 _⟩
    · clear D3 D4 F4 D0 F0
      have hn3 := next_nat w2 lo g A n c bs _ _ s2 (M4 : Int) (by omega) (by omega)
      go_wp2_with fail
      ((with_reducible refine hn3.mono ?_); rintro e w3 ⟨u, rfl, hu3, i3, h3, s3, C3⟩)
      have S3 := S2.step s3 C3
      clear hn3
      have hu3 : u + 1 ≤ M4 := by omega
      obtain ⟨p, hp⟩ : ∃ p : Nat, (1 : Int) + (u : Int) = (p : Int) := ⟨1 + u, by omega⟩
      have hp1 : 1 ≤ p ∧ p ≤ M4 := by omega
      have G3 := (C3.block (b3 + 1) (by omega) (by omega)).trans G2
      have hz3 := S3.size
      go_wp2_with fail
      ((with_reducible refine (l02Polygon_any p (by omega) (by omega) w3).mono ?_); rintro e w4 ⟨A4, c4, rfl, o4, f4⟩)
      have S4 := S3.below f4
      have hz4 := S4.size
      have G4 := (f4.block (b3 + 1) (by omega)).trans G3
      have D4 : w4.cell? ⟨b3 + 1, 0, none⟩ = some (.slice (some ⟨w.heap.size + 1 + 1, 0, none⟩) 1 1) := by rw [cell_of_row _ _ _ _ _ _ G4]; rfl
      have F4 : w4.frozen? ⟨b3 + 1, 0, none⟩ = false := frozen_of_row _ _ _ _ _ G4
      have S5 := S4.setM (.slice A4 2 c4)
      have N5 : AnyM b3 26 35 2 M (w4.setCell ⟨b3 + 1, 0, none⟩ (.slice A4 2 c4)) A4 2 c4 _ p := AnyM.set G4 rfl o4 (by have := S3.size; omega) (ply_sys (by omega)) (by omega) (by omega) (by omega) (by omega) hz4
      obtain ⟨pss, hpss⟩ : ∃ pss, [(List.range (2 * p)).map plyA, (List.range (2 * p)).map (plyB (2 * p))] = pss := ⟨_, rfl⟩
      rw [hpss] at N5
      have E3 := S5.cellE
      have E4 := N5.cellM
      go_wp2_with fail
      obtain ⟨w5, hw5⟩ : ∃ w5, w4.setCell ⟨b3 + 1, 0, none⟩ (.slice A4 2 c4) = w5 := ⟨_, rfl⟩
      rw [hw5] at S5 N5 E3 E4 ⊢
      clear hw5
      have hz5 := S5.size
      ((with_reducible refine (l02Beside_any A4 2 c4 pss _ 1 1 [[1, 0]] w5 N5.own.rs (Nat.le_refl _) S5.eo.rs (by omega) (by omega) (by omega) (by omega) (2 * p) 2 N5.sys edge_sys (by omega) (by omega) (by omega)).mono ?_); rintro e w6 ⟨A6, c6, rfl, o6, f6⟩)
      have S6 := S5.below f6
      have N6 := N5.below f6
      have E4 := N6.cellM
      have F4 := N6.frzM
      have hys : SysOf (besL pss [[1, 0]] (2 * p) 2) (2 * (2 * p)) := by
        have := bes_sys N5.sys edge_sys
        rwa [Nat.mul_comm (2 * p) 2] at this
      go_wp2_with fail
      go_meet
      exact ⟨_, _, _, _, 2 * p, S6.setM _, AnyM.set N6.gm rfl o6 (by omega) hys (by omega) (by omega) (by omega) (by omega) S6.size⟩
    · clear D3 D4 F4 D0 F0
      have hn3 := next_nat w2 lo g A n c bs _ _ s2 4 (by omega) (by omega)
      go_wp2_with fail
      ((with_reducible refine hn3.mono ?_); rintro e w3 ⟨u, rfl, hu3, i3, h3, s3, C3⟩)
      have S3 := S2.step s3 C3
      clear hn3
      have hu3 : u ≤ 3 := by omega
      obtain ⟨p, hp⟩ : ∃ p : Nat, (1 : Int) + (u : Int) = (p : Int) := ⟨1 + u, by omega⟩
      have hp1 : 1 ≤ p ∧ p ≤ 4 := by omega
      have G3 := (C3.block (b3 + 1) (by omega) (by omega)).trans G2
      have hz3 := S3.size
      obtain ⟨p4, hp4⟩ : ∃ p4 : Nat, (4 : Int) * (p : Int) = (p4 : Int) := ⟨4 * p, by omega⟩
      go_upto_if 51 with fail
      go_cut [7] from 44 to 51 (fun v7 wx => ∃ q : Nat, v7 = .int .i64 q ∧ 1 ≤ q ∧ 4 * q ≤ M ∧ q ≤ 4 ∧ wx = w3)
      case first =>
        by_cases hq : M < p4
        · have d1 : decide ((M : Int) < (p4 : Int)) = true := by simp; omega
          go_wp2_with fail
          go_meet
          exact ⟨2, rfl, by omega, by omega, by omega, rfl⟩
        · have d1 : decide ((M : Int) < (p4 : Int)) = false := by simp; omega
          go_wp2_with fail
          go_meet
          exact ⟨p, rfl, by omega, by omega, by omega, rfl⟩
      case rest =>
        obtain ⟨q, rfl, hq1, hq2, hq4, rfl⟩ := hcut
        clear hp4 hp hp1 hM2 hM2b hM4'
        obtain ⟨q4, hq4'⟩ : ∃ q4 : Nat, (4 : Int) * (q : Int) = (q4 : Int) := ⟨4 * q, by omega⟩
        have hq4v : q4 = 4 * q := by omega
        obtain ⟨r, hr⟩ : ∃ r : Nat, Int.tdiv (M : Int) (q4 : Int) = (r : Int) := ⟨M / q4, rfl⟩
        have hrv : M / q4 = r := Int.ofNat.inj hr
        have hr1 : 1 ≤ r := by rw [← hrv]; exact Nat.div_pos (by omega) (by omega)
        have hrM : r * q4 ≤ M := by rw [← hrv]; exact Nat.div_mul_le_self M q4
        have hr4 : r ≤ M := Nat.le_trans (Nat.le_mul_of_pos_right r (by omega)) hrM
        have hpos : (0 : Int) < (q4 : Int) := by omega
        have hq0 : ¬ q4 = 0 := by omega
        have hwq : IntKind.i64.wrap (q4 : Int) = (q4 : Int) := by rw [IntKind.wrap_i64]; omega
        have hr2 : (M : Int) / (q4 : Int) = (r : Int) := by rw [← hrv]; simp
        have hwr : IntKind.i64.wrap (r : Int) = (r : Int) := by rw [IntKind.wrap_i64]; omega
        have S3d : AnyS w lo g b3 74 26 35 2 A n c bs wc.drew := S3.below (below_drw (Below.refl _ _))
        have G3d : wc.drew.heap[b3 + 1]? = some (.cells #[.slice (some ⟨w.heap.size + 1 + 1, 0, none⟩) 1 1] 26 (0, 0)) := G3
        have hz3d : b3 + 2 ≤ wc.drew.heap.size := hz3
        have hP2 : Hid (∀ p2, p2 ≤ r → 2 * p2 ≤ M) := Lib.hid (fun p2 hp => by
          have h1 := Nat.mul_le_mul_right q4 hp
          have h3 : p2 * 4 ≤ p2 * q4 := Nat.mul_le_mul_left p2 (by omega)
          omega)
        have hP3 : Hid (∀ p2, p2 ≤ r → 2 * q * (2 * p2) ≤ M) := Lib.hid (fun p2 hp => by
          have h1 := Nat.mul_le_mul_right q4 hp
          have h3 : 2 * q * (2 * p2) = p2 * q4 := by rw [hq4v, Nat.mul_comm (2 * q), Nat.mul_comm 2 p2, Nat.mul_assoc, ← Nat.mul_assoc 2 2 q]
          omega)
        have hPw : Hid (∀ p2, p2 ≤ r → IntKind.i64.wrap (p2 : Int) = (p2 : Int)) := Lib.hid (fun p2 hp => by rw [IntKind.wrap_i64]; omega)
        replace hrv := Lib.hid hrv
        replace hrM := Lib.hid hrM
        replace hq4v := Lib.hid hq4v
        replace S3d := Lib.hid S3d
        replace G3d := Lib.hid G3d
        clear S3 G3 s3 C3
        go_wp2_with fail
        go_region_law? (first
          | (refine step_call rfl 79 #[.int .i64 (q : Int)] (by go_simp) (l02Polygon_any q (by omega) (by omega) _) ?_; rintro e w6 ⟨A6, c6, rfl, o6, f6⟩; refine ⟨_, rfl, ?_⟩; have S6 := S3d.out.below f6; have G6 := (f6.block (b3 + 1) (by omega)).trans G3d.out; have hz6 := S6.size; obtain ⟨i6, h6, s6⟩ := S6.src; replace S6 := Lib.hid S6; replace G6 := Lib.hid G6)
          | (refine step_call rfl 44 #[.pointer (some ⟨g, 0, none⟩), .int .i64 (r : Int)] (by go_simp) (next_one _ lo g A n c bs _ _ s6 r (by omega) (by omega)) ?_; rintro e w7 ⟨u2, p2, i7, h7, rfl, hp2, hp20, hp21, s7, C7⟩; refine ⟨_, rfl, ?_⟩; have S7 := S6.out.step s7 C7; have G7 := (C7.block (b3 + 1) (by omega) (by omega)).trans G6.out; have hz7 := S7.size; have o6 := (o6.keep (Same.of_chg C7 (Nat.le_refl _) (.inr (by omega)))); have hz67 := C7.size; have hp2M := hP2.out p2 hp21; have hpq := hP3.out p2 hp21; have hwp2 := hPw.out p2 hp21; replace S7 := Lib.hid S7; replace G7 := Lib.hid G7)
          | (refine step_call rfl 79 #[.int .i64 (p2 : Int)] (by go_simp) (l02Polygon_any p2 (by omega) (by omega) _) ?_; rintro e w8 ⟨A8, c8, rfl, o8, f8⟩; refine ⟨_, rfl, ?_⟩; have S8 := S7.out.below f8; have G8 := (f8.block (b3 + 1) (by omega)).trans G7.out; have hz8 := S8.size; have o6 := o6.below f8 hz67; have hz78 := f8.size; replace S8 := Lib.hid S8; replace G8 := Lib.hid G8)
          | (refine step_call rfl 80 #[.agg #[.slice A6 2 c6], .agg #[.slice A8 2 c8]] (by go_simp) (l02Beside_any A6 2 c6 _ A8 2 c8 _ _ o6.rs (by omega) o8.rs (Nat.le_refl _) (by omega) (by omega) (by omega) (2 * q) (2 * p2) (ply_sys hq1) (ply_sys hp20) (by omega) (by omega) (by omega)) ?_; rintro e w9 ⟨A9, c9, rfl, o9, f9⟩; refine ⟨_, rfl, ?_⟩; have S9 := S8.out.below f9; have G9 := (f9.block (b3 + 1) (by omega)).trans G8.out; have F9 : w9.frozen? ⟨b3 + 1, 0, none⟩ = false := frozen_of_row _ _ _ _ _ G9; have D9 : w9.cell? ⟨b3 + 1, 0, none⟩ = some (.slice (some ⟨w.heap.size + 1 + 1, 0, none⟩) 1 1) := by { rw [cell_of_row _ _ _ _ _ _ G9]; rfl }; replace S9 := Lib.hid S9; replace G9 := Lib.hid G9))
        all_goals
          have hys : SysOf (besL [(List.range (2 * q)).map plyA, (List.range (2 * q)).map (plyB (2 * q))] [(List.range (2 * p2)).map plyA, (List.range (2 * p2)).map (plyB (2 * p2))] (2 * q) (2 * p2)) (2 * (q * (2 * p2))) := by
            have := bes_sys (ply_sys hq1) (ply_sys hp20)
            rwa [Nat.mul_assoc] at this
          rw [Nat.mul_assoc] at hpq
          have hK1 : 1 ≤ q * (2 * p2) := Nat.mul_pos (by omega) (by omega)
          go_wp2_with fail
          go_meet
          exact ⟨_, _, _, _, q * (2 * p2), S9.out.setM _, AnyM.set G9.out rfl o9 hz8 hys hK1 hpq (by omega) (by omega) S9.out.size⟩
    · clear D3 D4 F4 D0 F0
      have e0 : (v == 0) = false := by simp; omega
      have e1 : (v == 1) = false := by simp; omega
      have e2 : (v == 2) = false := by simp; omega
      have e3 : (v == 3) = false := by simp; omega
      have hn3 := next_nat w2 lo g A n c bs _ _ s2 (M4 : Int) (by omega) (by omega)
      go_wp2_with fail
      ((with_reducible refine hn3.mono ?_); rintro e w3 ⟨u, rfl, hu3, i3, h3, s3, C3⟩)
      have S3 := S2.step s3 C3
      clear hn3
      have hu3 : u + 1 ≤ M4 := by omega
      obtain ⟨p, hp⟩ : ∃ p : Nat, (1 : Int) + (u : Int) = (p : Int) := ⟨1 + u, by omega⟩
      have hp1 : 1 ≤ p ∧ p ≤ M4 := by omega
      have G3 := (C3.block (b3 + 1) (by omega) (by omega)).trans G2
      have hz3 := S3.size
      have hMp := l02Map_any w3 lo g A n c bs _ _ s3 p (by omega) (by omega)
      go_wp2_with fail
      ((with_reducible refine hMp.mono ?_); rintro e w4 ⟨A4, c4, zss, F, i4, h4, rfl, o4, hsF, hF1, hF2, ⟨K, rfl⟩, s4, C4⟩)
      have S4 := S3.step s4 C4
      have hz4 := S4.size
      have G4 := (C4.block (b3 + 1) (by omega) (by omega)).trans G3
      have D4 : w4.cell? ⟨b3 + 1, 0, none⟩ = some (.slice (some ⟨w.heap.size + 1 + 1, 0, none⟩) 1 1) := by rw [cell_of_row _ _ _ _ _ _ G4]; rfl
      have F4 : w4.frozen? ⟨b3 + 1, 0, none⟩ = false := frozen_of_row _ _ _ _ _ G4
      go_wp2_with fail
      go_meet
      exact ⟨_, _, _, _, K, S4.setM _, AnyM.set G4 rfl o4 (by have := S3.size; omega) hsF (by omega) (by omega) (by omega) (by omega) hz4⟩
  case rest =>
    obtain ⟨A1, m, c1, zss, K, S, N⟩ := hcut
    replace S := Lib.hid S
    replace N := Lib.hid N
    clear S2 G2 s2 D3 D4 F4 D0 F0 hz2
    go_wp2_with fail
    go_loopw [] (fun wq => ∃ (A1 : Option Addr) (m c1 : Nat) (zss : List (List Int)) (K : Nat), Hid (AnyS w lo g b3 74 26 35 2 A n c bs wq) ∧ Hid (AnyM b3 26 35 2 M wq A1 m c1 zss K)) (fun wq => 5 - mLen wq (b3 + 1))
    case atStart => exact ⟨A1, m, c1, zss, K, S, N⟩
    case round =>
      clear S N
      clear A1 m c1 zss K
      obtain ⟨A1, m, c1, zss, K, S, N⟩ := hrel
      have D3 := S.out.cellE
      have D4 := N.out.cellM
      have D0 := S.out.cell0
      have F0 := S.out.frz0
      have m1 := N.out.m1
      have m5 := N.out.m5
      by_cases hm5 : m < 5
      · have d1 : decide ((m : Int) < 5) = true := by simp; omega
        obtain ⟨F, hF⟩ : ∃ F, 2 * K = F := ⟨_, rfl⟩
        have hfl : flg zss = F := by
          have hl := N.out.own.len
          obtain ⟨p, hp⟩ : ∃ p, zss[0]? = some p := ⟨_, List.getElem?_eq_getElem (by omega)⟩
          rw [flg_of hp, ← hF]
          exact (N.out.sys p (List.mem_of_getElem? hp)).2.2
        have hFM : F ≤ M := by have := N.out.kM; omega
        have hK1 := N.out.k1
        have hfa := hfl ▸ l02Flags_any A1 m c1 zss wr N.out.own.rs (Nat.le_refl _) (by omega)
        obtain ⟨F2, hF2⟩ : ∃ F2 : Nat, (F : Int) * 2 = (F2 : Int) := ⟨2 * F, by omega⟩
        by_cases hG : F2 ≤ M
        · have d2 : decide ((F2 : Int) ≤ (M : Int)) = true := by simp; omega
          go_wp2_with fail
          ((with_reducible refine hfa.mono ?_); rintro e w3 ⟨rfl, f3⟩)
          have S3 := S.out.below f3
          have N3 := N.out.below f3
          obtain ⟨i3, h3, s3⟩ := S3.src
          have hn4 := next_any w3 lo g A n c bs _ _ s3 3 (by omega) (by omega)
          clear hfa
          go_wp2_with fail
          ((with_reducible refine hn4.mono ?_); rintro e w4 ⟨v, i4, rfl, P4⟩)
          have S4 := S3.step P4.src P4.chg
          have N4 := N3.step (g := g) (by omega) P4.chg
          obtain ⟨i4', h4', s4⟩ := S4.src
          clear hn4 P4 s3
          by_cases hv0 : v = 0
          · subst hv0
            have hn5 := next_any w4 lo g A n c bs _ _ s4 2 (by omega) (by omega)
            go_wp2_with fail
            ((with_reducible refine hn5.mono ?_); rintro e w5 ⟨v2, i5, rfl, P5⟩)
            have S5 := S4.step P5.src P5.chg
            have N5 := N4.step (g := g) (by omega) P5.chg
            have hz5 := S5.size
            have E3 := S5.cellE
            have E4 := N5.cellM
            clear hn5 P5 s4 D3 D4 D0 F0
            have hsz : mLen wr (b3 + 1) = m := mLen_eq N.out.gm
            have hFF : F * 2 ≤ 400 := by omega
            have hsF : SysOf zss F := by rw [← hF]; exact N.out.sys
            by_cases hv2 : v2 = 0
            · subst hv2
              go_wp2_with fail
              ((with_reducible refine (l02Beside_any A1 m c1 zss _ 1 1 [[1, 0]] w5 N5.own.rs (Nat.le_refl _) S5.eo.rs (by omega) (by omega) (by omega) (by omega) F 2 hsF edge_sys (by omega) (by omega) hFF).mono ?_); rintro e w6 ⟨A6, c6, rfl, o6, f6⟩)
              have S6 := S5.below f6
              have N6 := N5.below f6
              have E4 := N6.cellM
              have F4 := N6.frzM
              have hys : SysOf (besL zss [[1, 0]] F 2) (2 * F) := by
                have := bes_sys hsF edge_sys
                rwa [Nat.mul_comm F 2] at this
              have N7 : AnyM b3 26 35 2 M (w6.setCell ⟨b3 + 1, 0, none⟩ (.slice A6 (m + 1) c6)) A6 (m + 1) c6 _ F := AnyM.set N6.gm rfl o6 (by omega) hys (by omega) (by omega) (by omega) (by omega) S6.size
              have hsz2 : mLen (w6.setCell ⟨b3 + 1, 0, none⟩ (.slice A6 (m + 1) c6)) (b3 + 1) = m + 1 := mLen_eq N7.gm
              have S7 := S6.setM (.slice A6 (m + 1) c6)
              replace S7 := Lib.hid S7
              replace N7 := Lib.hid N7
              go_wp2_with fail
              go_roundw
              case measure => simp only [hsz, hsz2]; omega
              case rel => exact ⟨_, _, _, _, F, S7, N7⟩
            · have dv : (v2 == 0) = false := by simpa using hv2
              go_wp2_with fail
              ((with_reducible refine (l02Beside_any _ 1 1 [[1, 0]] A1 m c1 zss w5 S5.eo.rs (by omega) N5.own.rs (Nat.le_refl _) (by omega) (by omega) (by omega) 2 F edge_sys hsF (by omega) (by omega) (by omega)).mono ?_); rintro e w6 ⟨A6, c6, rfl, o6, f6⟩)
              have S6 := S5.below f6
              have N6 := N5.below f6
              have E4 := N6.cellM
              have F4 := N6.frzM
              have hys : SysOf (besL [[1, 0]] zss 2 F) (2 * F) := bes_sys edge_sys hsF
              have N7 : AnyM b3 26 35 2 M (w6.setCell ⟨b3 + 1, 0, none⟩ (.slice A6 (1 + m) c6)) A6 (1 + m) c6 _ F := AnyM.set N6.gm rfl o6 (by omega) hys (by omega) (by omega) (by omega) (by omega) S6.size
              have hsz2 : mLen (w6.setCell ⟨b3 + 1, 0, none⟩ (.slice A6 (1 + m) c6)) (b3 + 1) = 1 + m := mLen_eq N7.gm
              have S7 := S6.setM (.slice A6 (1 + m) c6)
              replace S7 := Lib.hid S7
              replace N7 := Lib.hid N7
              go_wp2_with fail
              go_roundw
              case measure => simp only [hsz, hsz2]; omega
              case rel => exact ⟨_, _, _, _, F, S7, N7⟩
          · have dv : (v == 0) = false := by simpa using hv0
            have g9 := heap_setCell_same _ _ 0 _ _ (Value.slice A1 m c1) S4.g0
            have D4 := N4.cellM
            have D0 := S4.cell0
            have F0 := S4.frz0
            replace g9 := Lib.hid g9
            go_wp2_with fail
            (try simp only [Exit.inBlock, Exit.then])
            refine bodyPost_ret (v := .agg #[.slice A1 m c1]) ?_ rfl ?_
            · exact results_cell_row rfl _ _ w.heap.size 26 #[.slice A1 m c1] (0, 0) _ rfl (by simpa using g9.out) Tryz.underlying26 rfl (by kernel_rfl)
            · exact ⟨_, _, _, rfl, S4.ret N4 _⟩
        · have d2 : decide ((F2 : Int) ≤ (M : Int)) = false := by simp; omega
          go_wp2_with fail
          ((with_reducible refine hfa.mono ?_); rintro e w3 ⟨rfl, f3⟩)
          have S3 := S.out.below f3
          have N3 := N.out.below f3
          clear hfa
          have g9 := heap_setCell_same _ _ 0 _ _ (Value.slice A1 m c1) S3.g0
          have D4 := N3.cellM
          have D0 := S3.cell0
          have F0 := S3.frz0
          replace g9 := Lib.hid g9
          go_wp2_with fail
          (try simp only [Exit.inBlock, Exit.then])
          refine bodyPost_ret (v := .agg #[.slice A1 m c1]) ?_ rfl ?_
          · exact results_cell_row rfl _ _ w.heap.size 26 #[.slice A1 m c1] (0, 0) _ rfl (by simpa using g9.out) Tryz.underlying26 rfl (by kernel_rfl)
          · exact ⟨_, _, _, rfl, S3.ret N3 _⟩
      · have d1 : decide ((m : Int) < 5) = false := by simp; omega
        have g9 := heap_setCell_same _ _ 0 _ _ (Value.slice A1 m c1) S.out.g0
        have D4 := N.out.cellM
        have D0 := S.out.cell0
        have F0 := S.out.frz0
        replace g9 := Lib.hid g9
        go_wp2_with fail
        (try simp only [Exit.inBlock, Exit.then])
        refine bodyPost_ret (v := .agg #[.slice A1 m c1]) ?_ rfl ?_
        · exact results_cell_row rfl _ _ w.heap.size 26 #[.slice A1 m c1] (0, 0) _ rfl (by simpa using g9.out) Tryz.underlying26 rfl (by kernel_rfl)
        · exact ⟨_, _, _, rfl, S.out.ret N.out _⟩
end Go.Proofs.YtbioelmofceaaaaGreat
/- Dra -/
namespace Go.Proofs.YtbioelmofceaaaaGreat
open Go.RowKit
set_option linter.unusedVariables false
set_option maxRecDepth 100000
theorem ren_sys {xss : List (List Int)} {n : Nat} {p : List Int} (hs : SysOf xss n) (hp : isPermP p) (hl : p.length = n) : SysOf (xss.map (renL p)) n := by
  intro r hr
  obtain ⟨M, hM, rfl⟩ := List.mem_map.1 hr
  obtain ⟨m1, m2, m3⟩ := hs M hM
  have hMP : isPermP M := ⟨by have := hp.le; omega, by rw [m3]; exact m1, m2⟩
  have h1 := thenL_perm (invL_perm hp) hMP (by rw [invL_length]; omega)
  have h2 := thenL_perm h1 hp (by rw [thenL_length, invL_length])
  have h3 : (renL p M).length = n := by rw [renL_length]; exact hl
  refine ⟨fun x hx => ?_, h2.nd, h3⟩
  have := h2.rng x hx
  rwa [show (thenL (thenL (invL p) M) p).length = n from h3] at this
theorem perm_of_id {xs : List Int} {N : Nat} (h : xs.Perm (idL N)) (hN : N ≤ 400) : isPermP xs := by
  obtain ⟨h1, h2, h3, _⟩ := perm_id h
  exact ⟨by omega, by rw [h2]; exact h3, h1⟩
/-- the frame of a call that holds a drawn maniplex in the block b -/
structure DrS (w : World) (lo g b : Nat) (TS TM T2 T1 : TypeId) (A : Option Addr) (n c : Nat) (bs : List Int) (M : Nat) (wq : World) (A1 : Option Addr) (m c1 : Nat) (zss : List (List Int)) (K : Nat) : Prop where
  hg : g < w.heap.size
  hb : w.heap.size + 1 ≤ b
  g0 : wq.heap[w.heap.size]? = some (.cells #[.slice none 0 0] TM (0, 0))
  gm : wq.heap[b]? = some (.cells #[.slice A1 m c1] TM (0, 0))
  own : OwnS wq (w.heap.size + 1) b T2 T1 A1 m c1 zss
  sys : SysOf zss (2 * K)
  k1 : 1 ≤ K
  kM : 2 * K ≤ M
  m1 : 1 ≤ m
  m5 : m ≤ 5
  src : ∃ i h, Src wq lo g TS A n c bs i h
  chg : Chg g (g + 1) w wq
  size : b + 1 ≤ wq.heap.size
section
variable {w : World} {lo g b : Nat} {TS TM T2 T1 : TypeId} {A : Option Addr} {n c : Nat} {bs : List Int} {M : Nat} {wq w2 : World} {A1 : Option Addr} {m c1 : Nat} {zss : List (List Int)} {K : Nat}
theorem DrS.start {o : Obj} (ho : o = .cells #[.slice none 0 0] TM (0, 0)) (hg : g < w.heap.size) (D : DrawnM (w.alloc o) w2 lo g TS T2 T1 A n c bs M A1 m c1) : ∃ zss K, DrS w lo g w2.heap.size TS TM T2 T1 A n c bs M (w2.alloc (.cells #[.slice A1 m c1] TM)) A1 m c1 zss K := by
  subst ho
  obtain ⟨zss, K, i, h, o, hs, k1, kM, m1, m5, s, C⟩ := D
  have hz := C.size
  have e : (w.alloc (.cells #[.slice none 0 0] TM)).heap.size = w.heap.size + 1 := by simp
  rw [e] at o hz
  have B : Below w2.heap.size w2 (w2.alloc (.cells #[.slice A1 m c1] TM)) := (Below.refl _ _).alloc (Nat.le_refl _) _
  have C1 : Chg g (g + 1) w w2 := (Chg.of_below g (g + 1) ((Below.refl _ _).alloc (Nat.le_refl _) _)).trans C ⟨Nat.le_refl _, Nat.le_refl _⟩ ⟨Nat.le_refl _, Nat.le_refl _⟩
  refine ⟨zss, K, hg, hz, ?_, heap_new _ _ _ rfl, o.below B (Nat.le_refl _), hs, k1, kM, m1, m5, ⟨i, h, s.below B s.lt⟩, C1.trans_below B, by simp⟩
  exact (B.block _ (by omega)).trans ((C.block _ (by simp) (by omega)).trans (heap_new _ _ _ rfl))
theorem DrS.step (S : DrS w lo g b TS TM T2 T1 A n c bs M wq A1 m c1 zss K) {i h : Nat} (s : Src w2 lo g TS A n c bs i h) (C : Chg g (g + 1) wq w2) : DrS w lo g b TS TM T2 T1 A n c bs M w2 A1 m c1 zss K := by
  have h1 := S.hb
  have h2 := S.hg
  have h3 := S.size
  have h4 := C.size
  exact ⟨h2, h1, (C.block _ (by omega) (by omega)).trans S.g0, (C.block _ (by omega) (by omega)).trans S.gm, S.own.keep (Same.of_chg C (by omega) (.inr (by omega))), S.sys, S.k1, S.kM, S.m1, S.m5, ⟨_, _, s⟩, S.chg.trans C ⟨Nat.le_refl _, Nat.le_refl _⟩ ⟨Nat.le_refl _, Nat.le_refl _⟩, by omega⟩
theorem DrS.below (S : DrS w lo g b TS TM T2 T1 A n c bs M wq A1 m c1 zss K) (B : Below wq.heap.size wq w2) : DrS w lo g b TS TM T2 T1 A n c bs M w2 A1 m c1 zss K := by
  obtain ⟨i, h, s⟩ := S.src
  exact S.step (s.below B s.lt) (Chg.of_below _ _ B)
theorem DrS.cellM (S : DrS w lo g b TS TM T2 T1 A n c bs M wq A1 m c1 zss K) : wq.cell? ⟨b, 0, none⟩ = some (.slice A1 m c1) := by rw [cell_of_row _ _ _ _ _ _ S.gm]; rfl
theorem DrS.frzM (S : DrS w lo g b TS TM T2 T1 A n c bs M wq A1 m c1 zss K) : wq.frozen? ⟨b, 0, none⟩ = false := frozen_of_row _ _ _ _ _ S.gm
theorem DrS.cell0 (S : DrS w lo g b TS TM T2 T1 A n c bs M wq A1 m c1 zss K) : wq.cell? ⟨w.heap.size, 0, none⟩ = some (.slice none 0 0) := by rw [cell_of_row _ _ _ _ _ _ S.g0]; rfl
theorem DrS.frz0 (S : DrS w lo g b TS TM T2 T1 A n c bs M wq A1 m c1 zss K) : wq.frozen? ⟨w.heap.size, 0, none⟩ = false := frozen_of_row _ _ _ _ _ S.g0
theorem DrS.flg_ (S : DrS w lo g b TS TM T2 T1 A n c bs M wq A1 m c1 zss K) : flg zss = 2 * K := by
  have hl := S.own.len
  have := S.m1
  obtain ⟨p, hp⟩ : ∃ p, zss[0]? = some p := ⟨_, List.getElem?_eq_getElem (by omega)⟩
  rw [flg_of hp]
  exact (S.sys p (List.mem_of_getElem? hp)).2.2
theorem DrS.ret (S : DrS w lo g b TS TM T2 T1 A n c bs M wq A1 m c1 zss K) (v : Value) : DrawnM w (wq.setCell ⟨w.heap.size, 0, none⟩ v) lo g TS T2 T1 A n c bs M A1 m c1 := by
  obtain ⟨i, h, s⟩ := S.src
  have h1 := S.hb
  have h2 := S.hg
  have h3 := s.above
  have h4 := S.size
  exact ⟨zss, K, i, h, (S.own.keep (same_set _ _ _ _ _ (.inl (by simp)))).more (by omega) (by simp; omega), S.sys, S.k1, S.kM, S.m1, S.m5, s.far (by simp; omega) (by simp; omega) _, S.chg.setNew (by simp) _⟩
theorem DrS.ret2 (S : DrS w lo g b TS TM T2 T1 A n c bs M wq A1 m c1 zss K) {A2 : Option Addr} {c2 lo2 : Nat} {yss : List (List Int)} (o : OwnS wq lo2 wq.heap.size T2 T1 A2 m c2 yss) (hlo : b ≤ lo2) (hs : SysOf yss (2 * K)) (v : Value) : DrawnM w (wq.setCell ⟨w.heap.size, 0, none⟩ v) lo g TS T2 T1 A n c bs M A2 m c2 := by
  obtain ⟨i, h, s⟩ := S.src
  have h1 := S.hb
  have h2 := S.hg
  have h3 := s.above
  have h4 := S.size
  exact ⟨yss, K, i, h, (o.keep (same_set _ _ _ _ _ (.inl (by simp; omega)))).more (by omega) (by simp), hs, S.k1, S.kM, S.m1, S.m5, s.far (by simp; omega) (by simp; omega) _, S.chg.setNew (by simp) _⟩
end
set_option maxHeartbeats 8000000 in
theorem l02Draw_any (w : World) (lo g : Nat) (A : Option Addr) (n c : Nat) (bs : List Int) (i h : Nat) (s : Src w lo g 74 A n c bs i h) (M : Nat) (hM8 : 8 ≤ M) (hM4 : M ≤ 400) :
    Calls Tryz.prog 42 #[.pointer (some ⟨g, 0, none⟩), .int .i64 (M : Int)] w fun e w' => ∃ (A1 : Option Addr) (m c1 : Nat), e = .returned (.agg #[.slice A1 m c1]) ∧ DrawnM w w' lo g 74 35 2 A n c bs M A1 m c1 := by
  have hgl := s.lt
  have B1 : Below w.heap.size w (w.alloc (.cells #[.slice none 0 0] 26)) := (Below.refl _ _).alloc (Nat.le_refl _) _
  have hA := l02Any_any _ lo g A n c bs i h (s.below B1 hgl) M hM8 hM4
  go_enter Tryz.func42, Tryz.ntmps42
  go_wp2_with fail
  ((with_reducible refine hA.mono ?_); rintro e w2 ⟨A1, m, c1, rfl, D⟩)
  clear hA B1
  obtain ⟨zss, K, S⟩ := DrS.start rfl hgl D
  clear D
  go_wp2_with fail
  obtain ⟨b, hb⟩ : ∃ b, w2.heap.size = b := ⟨_, rfl⟩
  obtain ⟨w3, hw3⟩ : ∃ w3, w2.alloc (.cells #[.slice A1 m c1] 26) = w3 := ⟨_, rfl⟩
  rw [hw3] at S ⊢
  rw [hb] at S ⊢
  clear hw3 hb
  obtain ⟨i3, h3, s3⟩ := S.src
  have hn := next_any w3 lo g A n c bs _ _ s3 4 (by omega) (by omega)
  go_wp2_with fail
  ((with_reducible refine hn.mono ?_); rintro e w4 ⟨v, i4, rfl, P⟩)
  have v0 := P.ge
  have S4 := S.step P.src P.chg
  clear hn P S s3
  obtain ⟨i4', h4, s4⟩ := S4.src
  have D4 := S4.cellM
  have D0 := S4.cell0
  have F0 := S4.frz0
  by_cases hv : 0 < v
  · have d1 : decide ((0 : Int) < v) = true := by simp; omega
    have m1 := S4.m1
    have m5 := S4.m5
    obtain ⟨F, hF⟩ : ∃ F, 2 * K = F := ⟨_, rfl⟩
    have hFM := S4.kM
    rw [hF] at hFM
    have hfl : flg zss = F := S4.flg_.trans hF
    have hsF : SysOf zss F := by rw [← hF]; exact S4.sys
    have S4d : DrS w lo g b 74 26 35 2 A n c bs M w4.drew A1 m c1 zss K := S4.below (below_drw (Below.refl _ _))
    replace S4d := Lib.hid S4d
    replace hsF := Lib.hid hsF
    replace hF := Lib.hid hF
    have hb0 : w.heap.size + 1 ≤ b := S4.hb
    clear S4 s4
    go_wp2_with fail
    go_region_law? (first
      | (refine step_call rfl 43 #[.agg #[.slice A1 m c1]] (by go_simp) (hfl ▸ l02Flags_any A1 m c1 zss _ S4d.out.own.rs (by have := S4d.out.size; omega) (by omega)) ?_; rintro e w6 ⟨rfl, f6⟩; refine ⟨_, rfl, ?_⟩; have S6 := S4d.out.below f6; have E6 := S6.cellM; obtain ⟨i6, h6, s6⟩ := S6.src; replace S6 := Lib.hid S6)
      | (refine step_call rfl 67 #[.pointer (some ⟨g, 0, none⟩), .int .i64 (F : Int)] (by go_simp) (draw_any _ lo g A n c bs _ _ s6 F (by omega)) ?_; rintro e w7 ⟨A7, c7, rfl, i7, h7, xs, o7, hp7, s7, C7⟩; refine ⟨_, rfl, ?_⟩; have S7 := S6.out.step s7 C7; have E7 := S7.cellM; have hz6 := S6.out.size; replace S7 := Lib.hid S7; replace hp7 := Lib.hid hp7)
      | (refine step_call rfl 66 #[.agg #[.slice A1 m c1], .slice A7 F c7] (by go_simp) (l02Renumber_any A1 m c1 zss A7 F c7 xs _ S7.out.own.rs (by have := S7.out.size; omega) o7.ri (Nat.le_refl _) (by omega) hsF.out (perm_of_id hp7.out (by omega))) ?_; rintro e w8 ⟨A8, c8, rfl, o8, f8⟩; refine ⟨_, rfl, ?_⟩; have S8 := S7.out.below f8; have E8 := S8.cell0; have F8 := S8.frz0; have hz7 := S7.out.size; replace S8 := Lib.hid S8))
    all_goals
      have hys : SysOf (zss.map (renL xs)) (2 * K) := by
        rw [hF.out]
        exact ren_sys hsF.out (perm_of_id hp7.out (by omega)) (perm_id hp7.out).2.1
      have g9 := heap_setCell_same _ _ 0 _ _ (Value.slice A8 m c8) S8.out.g0
      replace g9 := Lib.hid g9
      replace hys := Lib.hid hys
      go_wp2_with fail
      (try simp only [Exit.inBlock, Exit.then])
      refine bodyPost_ret (v := .agg #[.slice A8 m c8]) ?_ rfl ?_
      · exact results_cell_row rfl _ _ w.heap.size 26 #[.slice A8 m c8] (0, 0) _ rfl (by simpa using g9.out) Tryz.underlying26 rfl (by kernel_rfl)
      · exact ⟨_, _, _, rfl, S8.out.ret2 o8 (by omega) hys.out _⟩
  · have d1 : decide ((0 : Int) < v) = false := by simp; omega
    have g9 := heap_setCell_same _ _ 0 _ _ (Value.slice A1 m c1) S4.g0
    replace g9 := Lib.hid g9
    go_wp2_with fail
    (try simp only [Exit.inBlock, Exit.then])
    refine bodyPost_ret (v := .agg #[.slice A1 m c1]) ?_ rfl ?_
    · exact results_cell_row rfl _ _ w.heap.size 26 #[.slice A1 m c1] (0, 0) _ rfl (by simpa using g9.out) Tryz.underlying26 rfl (by kernel_rfl)
    · exact ⟨_, _, _, rfl, S4.ret _⟩
end Go.Proofs.YtbioelmofceaaaaGreat
