/- cloneManiplex: a maniplex in new memory. No condition but the sizes of memory. -/
import Derived.Test.YtbioelmofceaaaaSecG
namespace Go.Proofs.Ytbioelmofceaaaa
open Go.RowKit
set_option linter.unusedVariables false
set_option maxRecDepth 100000
set_option maxHeartbeats 8000000 in
theorem cloneM_any (A : Option Addr) (n c : Nat) (xss : List (List Int)) (w : World) {lo hi : Nat} (h : RS w lo hi A n xss) (hhi : hi ≤ w.heap.size) (hn : n ≤ 1048576) (hL : ∀ r ∈ xss, r.length ≤ 1048576) :
    Calls Try.prog 81 #[.agg #[.slice A n c]] w fun e w' => ∃ (A1 : Option Addr) (c1 : Nat), e = .returned (.agg #[.slice A1 n c1]) ∧ OwnS w' w.heap.size w'.heap.size 22 2 A1 n c1 xss ∧ Below w.heap.size w w' := by
  obtain ⟨s0, hs0, hu0, hu1, hu2⟩ := info_parts infoS
  have hxl := h.len
  have B0 : Below w.heap.size w (((w.alloc (.cells #[.slice A n c] 38)).alloc (.cells #[.slice none 0 0] 38)).alloc (.cells #[.slice none 0 0] 38)) := (((Below.refl _ _).alloc (Nat.le_refl _) _).alloc (by simp) _).alloc (by simp; omega) _
  have g1 : (((w.alloc (.cells #[.slice A n c] 38)).alloc (.cells #[.slice none 0 0] 38)).alloc (.cells #[.slice none 0 0] 38)).heap[w.heap.size + 1]? = some (.cells #[.slice none 0 0] 38 (0, 0)) := by
    refine (((Below.refl _ _).alloc (Nat.le_refl _) _).block (w.heap.size + 1) (by simp)).trans ?_
    exact heap_new _ _ _ (by simp)
  have g2 : (((w.alloc (.cells #[.slice A n c] 38)).alloc (.cells #[.slice none 0 0] 38)).alloc (.cells #[.slice none 0 0] 38)).heap[w.heap.size + 1 + 1]? = some (.cells #[.slice none 0 0] 38 (0, 0)) := heap_new _ _ _ (by simp)
  go_enter Try.func81, Try.ntmps81
  go_wp2_with fail
  obtain ⟨W1, hW⟩ : ∃ W1 : World, (((w.alloc (.cells #[.slice A n c] 38)).alloc (.cells #[.slice none 0 0] 38)).alloc (.cells #[.slice none 0 0] 38)) = W1 := ⟨_, rfl⟩
  have hz1 : w.heap.size + 3 ≤ W1.heap.size := by rw [← hW]; simp
  rw [hW] at B0 g1 g2 ⊢
  clear hW
  replace hxl := Lib.hid hxl
  replace hL := Lib.hid hL
  go_loopw [9] (fun kv wq => ∃ (k : Nat) (A2 : Option Addr) (c2 : Nat), k ≤ n ∧ kv = .int .i64 k ∧ wq.heap[w.heap.size + 1 + 1]? = some (.cells #[.slice A2 k c2] 38 (0, 0)) ∧ wq.heap[w.heap.size + 1]? = some (.cells #[.slice none 0 0] 38 (0, 0)) ∧ OwnS wq (w.heap.size + 3) wq.heap.size 22 2 A2 k c2 (xss.take k) ∧ Below w.heap.size w wq ∧ w.heap.size + 3 ≤ wq.heap.size) (fun kv _ => n - (intOf kv).toNat)
  case atStart => exact ⟨0, none, 0, by omega, rfl, g2, g1, by simpa using OwnS.nil, B0, hz1⟩
  case round =>
    obtain ⟨k, A2, c2, hk, rfl, g2, g1, oS, hB, hz⟩ := hrel
    have yB := hB.size
    by_cases hlt : k < n
    · obtain ⟨b, o, Ak, nk, ck, x, rfl, _, hb1, hx, hcx, hRx⟩ := (h.below hB hhi).at_ hlt
      have hxL := hL.out x (List.mem_of_getElem? hx)
      have hxn := hRx.len
      have hC : ∀ V, Below wr.heap.size wr V → Calls Try.prog 105 #[.slice Ak nk ck] V fun e w' => ∃ (A1 : Option Addr) (c1 : Nat), e = .returned (.slice A1 nk c1) ∧ Own w' V.heap.size w'.heap.size 2 A1 nk c1 (x.map (Value.int .i64)) ∧ Below V.heap.size V w' := fun V hV => cloneR_any Ak nk ck x V (hRx.below hV (by omega)) (by have := hV.size; omega) (by omega)
      have C2 : wr.cell? ⟨w.heap.size + 1 + 1, 0, none⟩ = some (.slice A2 k c2) := by rw [cell_of_row _ _ _ _ _ _ g2]; rfl
      have gd : Below wr.heap.size wr wr.drew := (Below.refl _ _).drew
      have htk : xss.take (k + 1) = xss.take k ++ [x] := by rw [List.take_add_one, hx]; rfl
      replace hC := Lib.hid hC
      replace gd := Lib.hid gd
      replace htk := Lib.hid htk
      replace g1 := Lib.hid g1
      replace g2 := Lib.hid g2
      replace oS := Lib.hid oS
      clear hx hRx hxL B0
      go_wp2_with fail
      go_region_law (first
        | (refine step_call rfl 105 #[.slice Ak nk ck] ?hr (hC.out _ gd.out) ?_
           (case hr => go_simp)
           rintro e5 w5 ⟨A5, c5, rfl, o5, f5⟩
           refine ⟨_, rfl, ?_⟩
           have f5 := gd.out.trans f5
           have y5 := f5.size
           have D2 : w5.cell? ⟨w.heap.size + 1 + 1, 0, none⟩ = some (.slice A2 k c2) := (f5.cell (p := ⟨w.heap.size + 1 + 1, 0, none⟩) (by simp; omega)).trans C2
           have D3 := (((Below.refl w5.heap.size w5).alloc (Nat.le_refl _) (.cells #[.slice A5 nk c5] 22)).cell (p := ⟨w.heap.size + 1 + 1, 0, none⟩) (by simp; omega)).trans D2
           have gA := Lib.hid ((((Below.refl w5.heap.size w5).alloc (Nat.le_refl _) (.cells #[.slice A5 nk c5] 22)).block (w.heap.size + 1 + 1) (by omega)).trans ((f5.block (w.heap.size + 1 + 1) (by omega)).trans g2.out))
           have hrd : Hid (Rd (w5.alloc (.cells #[.slice A5 nk c5] 22)) w5.heap.size (w5.heap.size + 1) (some ⟨w5.heap.size, 0, none⟩) 1 [.slice A5 nk c5]) := Lib.hid ⟨rfl, by omega, fun _ => ⟨w5.heap.size, 0, rfl, Nat.le_refl _, by omega, fun i v hv => by
             have : i = 0 := by have := (List.getElem?_eq_some_iff.1 hv).1; simp at this; omega
             subst this
             simp at hv
             subst hv
             exact al_new _ _ _ _ rfl⟩⟩
           obtain ⟨vs, oA, oB⟩ := ((oS.out.below f5 (Nat.le_refl _)).below ((Below.refl w5.heap.size w5).alloc (Nat.le_refl _) (.cells #[.slice A5 nk c5] 22)) y5)
           have o6 := o5.below ((Below.refl w5.heap.size w5).alloc (Nat.le_refl _) (.cells #[.slice A5 nk c5] 22)) (Nat.le_refl _)
           have hown := Lib.hid oA.1
           replace oB := Lib.hid oB
           replace o6 := Lib.hid o6
           replace f5 := Lib.hid f5
           have h1c : Hid (∀ u ∈ [Value.slice A5 nk c5], u.oneCell' = true) := Lib.hid (by simp [Value.oneCell'])
           clear oA o5)
        | (refine step_appendL _ rfl (.tmp 14) (.tmp 17) 23 rfl (w.heap.size + 3) 22 s0 (.slice none 0 0) 24 Try.underlying23 hs0 hu0 hu1 hu2 rfl (by decide) A2 k c2 _ (by simp [Act.eval]) hown.out (some ⟨w5.heap.size, 0, none⟩) 1 1 _ _ _ (by simp [Act.eval]) hrd.out h1c.out (by omega) (by simp; omega) ?_
           intro A7 c7 w7 ho7 hg7 hor7
           have hlo7 : ∀ q, (Value.slice A2 k c2).ownBlock = some q → w.heap.size + 3 ≤ q := fun q hq => (hown.out.lt q hq).1
           have g7 := (hg7.block (w.heap.size + 1 + 1) (by simp; omega) (fun e => by have := hlo7 _ e.symm; omega)).trans gA.out
           have E2 : w7.cell? ⟨w.heap.size + 1 + 1, 0, none⟩ = some (.slice A2 k c2) := by rw [cell_of_row _ _ _ _ _ _ g7]; rfl
           have E3 : w7.frozen? ⟨w.heap.size + 1 + 1, 0, none⟩ = false := frozen_of_row _ _ _ _ _ g7
           have hrw7 := Lib.hid ((oB.out.kept_ty hown.out (by decide) hg7).snoc (o6.out.kept_ty hown.out (by decide) hg7) (by omega) y5)
           have hz7 := hg7.size
           have g17 := Lib.hid ((hg7.block (w.heap.size + 1) (by simp; omega) (fun e => by have := hlo7 _ e.symm; omega)).trans ((((Below.refl w5.heap.size w5).alloc (Nat.le_refl _) (.cells #[.slice A5 nk c5] 22)).block (w.heap.size + 1) (by omega)).trans ((f5.out.block (w.heap.size + 1) (by omega)).trans g1.out)))
           have hb7 := Lib.hid (((hB.trans (f5.out.mono yB)).alloc (by omega) (.cells #[.slice A5 nk c5] 22)).grown hg7 (by simp; omega) (fun q hq => by have := hlo7 q hq; omega))
           have oz7 := Lib.hid (Own.of_row ho7)
           replace g7 := Lib.hid g7
           clear hlo7 hor7 hg7 ho7))
      all_goals
        go_wp2_with fail
        go_roundw
        case measure => simp [intOf]; omega
        case rel =>
          refine ⟨k + 1, A7, c7, by omega, by go_num, ?_, ?_, ⟨vs ++ [.slice A5 nk c5], ?_, ?_⟩, hb7.out.setCell (by simp; omega) _, by simp at hz7 ⊢; omega⟩
          · have := heap_setCell_same _ _ 0 _ _ (Value.slice A7 (k + 1) c7) g7.out
            simpa using this
          · exact (Below.heap_setCell _ _ _ _ (by simp)).trans g17.out
          · exact (oz7.out.far (.inl (by simp)) _).more (Nat.le_refl _) (by simp)
          · rw [htk.out]
            exact (hrw7.out.keep (same_set _ _ _ _ _ (.inl (by simp)))).more (Nat.le_refl _) (by simp at hz7 ⊢; omega)
    · have hkn : k = n := by omega
      subst hkn
      have C2 : wr.cell? ⟨w.heap.size + 1 + 1, 0, none⟩ = some (.slice A2 k c2) := by rw [cell_of_row _ _ _ _ _ _ g2]; rfl
      have C1 : wr.cell? ⟨w.heap.size + 1, 0, none⟩ = some (.slice none 0 0) := by rw [cell_of_row _ _ _ _ _ _ g1]; rfl
      have F1 : wr.frozen? ⟨w.heap.size + 1, 0, none⟩ = false := frozen_of_row _ _ _ _ _ g1
      replace g1 := Lib.hid g1
      replace g2 := Lib.hid g2
      replace oS := Lib.hid oS
      go_wp2_with fail
      have g3 := heap_setCell_same _ _ 0 _ _ (Value.slice A2 k c2) g1.out
      (try simp only [Exit.inBlock, Exit.then])
      refine bodyPost_ret (v := .agg #[.slice A2 k c2]) ?_ rfl ?_
      · exact results_cell_row rfl _ _ (w.heap.size + 1) 38 #[.slice A2 k c2] (0, 0) _ rfl (by simpa using g3) Try.underlying38 rfl (by kernel_rfl)
      · have e : xss.take k = xss := List.take_of_length_le (by have := hxl.out; omega)
        have oS := oS.out
        rw [e] at oS
        exact ⟨A2, c2, rfl, (oS.keep (same_set _ _ _ _ _ (.inl (by simp)))).more (by omega) (by simp), hB.setCell (by simp) _⟩
end Go.Proofs.Ytbioelmofceaaaa
