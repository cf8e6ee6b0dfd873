/- Walks: slices.Equal at numbers; the elements of the face poset that each flag has. No condition but the sizes of memory. -/
import Derived.Test.YtbioelmofceaaaaTwP
import Derived.Test.YtbioelmofceaaaaRow
import Derived.Test.YtbioelmofceaaaaManX
namespace Go.Proofs.Ytbioelmofceaaaa
open Go.RowKit
set_option linter.unusedVariables false
set_option maxRecDepth 100000
set_option maxHeartbeats 400000 in
theorem equal_q (A : Option Addr) (n c : Nat) (xs : List Int) (A' : Option Addr) (n' c' : Nat) (ys : List Int) (w : World) (lo hi lo' hi' : Nat) (h : RI w lo hi A n xs) (h' : RI w lo' hi' A' n' ys) (hhi : hi ≤ w.heap.size) (hhi' : hi' ≤ w.heap.size) :
    Calls Try.prog 104 #[.slice A n c, .slice A' n' c'] w fun e w' => e = .returned (.bool (decide (xs = ys))) ∧ ∃ m, w' = w.drewN m := by
  have hm := h.max
  have hm' := h'.max
  have hl := h.len
  have hl' := h'.len
  replace hl := Lib.hid hl
  replace hl' := Lib.hid hl'
  by_cases hne : n = n'
  · subst hne
    go_enter Try.func104, Try.ntmps104
    go_wp2
    go_loopw [13] (fun i wr => ∃ k : Nat, k ≤ n ∧ i = .int .i64 k ∧ (∀ j, j < k → xs[j]? = ys[j]?) ∧ (∃ m, wr = w.drewN m)) (fun i wr => n - (intOf i).toNat)
    case atStart => exact ⟨0, by omega, rfl, fun j hj => absurd hj (by omega), 0, rfl⟩
    case round =>
      obtain ⟨k, hk, rfl, hys, md, hmd⟩ := hrel
      have hb : Below w.heap.size w wr := by rw [hmd]; exact below_drewN (Below.refl _ _) _
      replace hmd := Lib.hid hmd
      replace hys := Lib.hid hys
      by_cases hlt : k < n
      · obtain ⟨b, o, x, rfl, _, _, hx, hc⟩ := (h.below hb hhi).at_ hlt
        obtain ⟨b', o', y, rfl, _, _, hy, hc'⟩ := (h'.below hb hhi').at_ hlt
        replace hx := Lib.hid hx
        replace hy := Lib.hid hy
        by_cases hxy : x = y
        · subst hxy
          go_wp2
          go_quiet (fail)
          go_wp2
          go_roundw
          case rel =>
            refine ⟨k + 1, by omega, by go_num, fun j hj => ?_, md + nq, by rw [hmd.out, World.drewN_drewN]⟩
            by_cases e : j = k
            · subst e; rw [hx.out, hy.out]
            · exact hys.out j (by omega)
          case measure => simp [intOf]; omega
        · have hxy' : (x != y) = true := by simpa using hxy
          go_wp2
          go_quiet (fail)
          go_wp2
          go_ret
          refine ⟨ret_bool ?_, md + nq, by rw [hmd.out, World.drewN_drewN]⟩
          have hx := hx.out
          have hy := hy.out
          symm
          apply decide_eq_false
          rintro rfl
          rw [hx] at hy
          exact hxy (Option.some.inj hy)
      · go_wp2
        go_ret
        refine ⟨ret_bool ?_, md, hmd.out⟩
        have hl := hl.out
        have hl' := hl'.out
        symm
        apply decide_eq_true
        exact list_ext_upto k (by omega) (by omega) hys.out
  · have hne' : ((n : Int) != (n' : Int)) = true := by simp; omega
    go_enter Try.func104, Try.ntmps104
    go_wp2
    go_ret
    refine ⟨ret_bool ?_, 0, rfl⟩
    have hl := hl.out
    have hl' := hl'.out
    symm
    apply decide_eq_false
    rintro rfl
    omega

theorem equal_any (A : Option Addr) (n c : Nat) (xs : List Int) (A' : Option Addr) (n' c' : Nat) (ys : List Int) (w : World) (lo hi lo' hi' : Nat) (h : RI w lo hi A n xs) (h' : RI w lo' hi' A' n' ys) (hhi : hi ≤ w.heap.size) (hhi' : hi' ≤ w.heap.size) :
    Calls Try.prog 104 #[.slice A n c, .slice A' n' c'] w fun e w' => e = .returned (.bool (decide (xs = ys))) ∧ Below w.heap.size w w' :=
  (equal_q A n c xs A' n' c' ys w lo hi lo' hi' h h' hhi hhi').mono fun e w' ⟨he, m, hm⟩ => ⟨he, by rw [hm]; exact below_drewN (Below.refl _ _) _⟩

set_option maxHeartbeats 8000000 in
theorem allFaces_any (b : Nat) (A : Option Addr) (n c : Nat) (xss : List (List Int)) (w : World) (hc : w.cell? ⟨b, 0, none⟩ = some (.slice A n c)) (hbw : b < w.heap.size) {lo hi : Nat} (h : RS w lo hi A n xss) (hhi : hi ≤ w.heap.size) (hn1 : 1 ≤ n) (hn5 : n ≤ 5) (N : Nat) (hN : flg xss = N) (h4 : N ≤ 400) (hs : SysOf xss N) :
    Calls Try.prog 69 #[.pointer (some ⟨b, 0, none⟩)] w fun e w' => ∃ A1, e = .returned (.slice A1 N N) ∧ OwnS w' w.heap.size w'.heap.size 22 2 A1 N N ((List.range N).map (allF xss N n)) ∧ Below w.heap.size w w' := by
  obtain ⟨j0, hj0, hy0, hy1, hy2⟩ := info_parts infoI
  obtain ⟨s0, hs0, hu0, hu1, hu2⟩ := info_parts infoS
  have hl := Lib.hid h.len
  replace hs := Lib.hid hs
  go_enter Try.func69, Try.ntmps69
  go_wp2_with fail
  ((with_reducible refine (flags_any _ A n c xss _ hc h (by omega)).mono ?_); rintro e w' ⟨rfl, rfl⟩)
  rw [hN]
  go_wp2_with (at_make; refine wpList_make_full _ rfl _ _ 23 rfl w.heap.size 22 s0 (.slice none 0 0) 1 Try.underlying23 hs0 hu0 hu1 _ _ _ _ N rfl rfl rfl rfl ?c1 ?c2 (Nat.le_refl _) ?_)
  case c1 => rw [hu2]; omega
  case c2 => simp only [maxLen]; omega
  intro w1 hown hg
  have hb1 : Below w.heap.size w w1 := below_of_grown hg (Nat.le_refl _) (by simp)
  have hz1 : w.heap.size < w1.heap.size := (hown.lt w.heap.size (by simp [Value.ownBlock])).2
  have hown2 : w1.ownsRow w.heap.size 22 1 (.slice (some ⟨w.heap.size, 0, none⟩) N N) N (List.replicate N (.slice none 0 0)) := by simpa [toList_madeCells_one, Value.cells] using hown
  have hc1 := (hb1.cell (p := ⟨b, 0, none⟩) hbw).trans hc
  clear hown hg
  go_wp2_with fail
  ((with_reducible refine (rank_any _ A n c _ hc1 (by omega)).mono ?_); rintro e w' ⟨rfl, rfl⟩)
  go_wp2_with fail
  clear hc1
  go_loopw [4, 15] (fun fv iv wq => ∃ (i : Nat) (vs : List Value), i ≤ n ∧ iv = .int .i64 i ∧ fv = .int .i64 (offs xss N i : Nat) ∧ wq.ownsRow w.heap.size 22 1 (.slice (some ⟨w.heap.size, 0, none⟩) N N) N vs ∧ RowsOwn wq (w.heap.size + 1) wq.heap.size 2 vs ((List.range N).map (allF xss N i)) ∧ Below w.heap.size w wq ∧ w.heap.size + 1 ≤ wq.heap.size) (fun _ iv _ => n - (intOf iv).toNat)
  case atStart => exact ⟨0, _, by omega, rfl, by simp [offs], hown2, RowsOwn.nils _ _ _ _ _ (fun j _ => by simp [allF]), hb1, by omega⟩
  case round =>
    clear hown2 hb1
    obtain ⟨i, vs, hi0, rfl, rfl, oH, oV, hb, hz⟩ := hrel
    have hci := (hb.cell (p := ⟨b, 0, none⟩) hbw).trans hc
    by_cases hin : i < n
    · go_wp2_with fail
      ((with_reducible refine (faces_any b A n c i xss wr hci (h.below hb hhi) (by omega) hin (by omega) N hN h4 hs.out).mono ?_); rintro e2 w2 ⟨A2, rfl, o2, f2⟩)
      have y2 := f2.size
      have hb2 := below_then hb f2 (by omega)
      have oH2 : w2.ownsRow w.heap.size 22 1 (.slice (some ⟨w.heap.size, 0, none⟩) N N) N vs := ((Own.of_row oH).below f2 (Nat.le_refl _)).1
      have oV2 := (oV.keep (Same.of_below f2 (Nat.le_refl _)))
      have hoff := offs_le xss N i
      have hoff2 : offs xss N i ≤ 2000 := by have := Nat.mul_le_mul (show i ≤ 5 by omega) h4; omega
      have hlb : ∀ f : Nat, f < N → (labL (xss.eraseIdx i) N)[f]? = some (labI xss i f) ∧ 0 ≤ labI xss i f ∧ labI xss i f < 400 := fun f hf => ⟨labL_get hf, labOf_nonneg _ _, by have h1 := lab_lt (sysOf_erase hs.out i) hf; have h2 := cntR_le (xss.eraseIdx i) N; unfold labI; omega⟩
      have hcnt : cntR (xss.eraseIdx i) N ≤ 400 := by have h2 := cntR_le (xss.eraseIdx i) N; omega
      have hofs : offs xss N (i + 1) = offs xss N i + cntR (xss.eraseIdx i) N := rfl
      clear oH oV hb hci
      go_wp2_with fail
      obtain ⟨w0, hw0⟩ : ∃ z : Nat, z = wr.heap.size := ⟨_, rfl⟩
      have hap0 : ∀ v ∈ vs, ∀ z, v.ownBlock = some z → z < w0 ∨ w2.heap.size ≤ z := fun v hv z hzz => .inl (by rw [hw0]; exact oV2.block_lt hv hzz)
      have o2' : Own w2 w0 w2.heap.size 2 A2 N N ((labL (xss.eraseIdx i) N).map (Value.int .i64)) := by rw [hw0]; exact o2
      have hw0b : w.heap.size + 1 ≤ w0 := by omega
      have hw02 : w0 ≤ w2.heap.size := by omega
      clear o2 hw0 f2
      replace hap0 := Lib.hid hap0
      replace hlb := Lib.hid hlb
      replace hofs := Lib.hid hofs
      go_loopw [26] (fun kv wq => ∃ (f : Nat) (vs2 : List Value), f ≤ N ∧ kv = .int .i64 f ∧ wq.ownsRow w.heap.size 22 1 (.slice (some ⟨w.heap.size, 0, none⟩) N N) N vs2 ∧ RowsOwn wq (w.heap.size + 1) wq.heap.size 2 vs2 ((List.range N).map (midF xss N i f)) ∧ Hid (∀ v ∈ vs2, ∀ z, v.ownBlock = some z → z < w0 ∨ w2.heap.size ≤ z) ∧
        Own wq w0 w2.heap.size 2 A2 N N ((labL (xss.eraseIdx i) N).map (Value.int .i64)) ∧ Below w.heap.size w wq ∧ w2.heap.size ≤ wq.heap.size) (fun kv _ => N - (intOf kv).toNat)
      case atStart => exact ⟨0, vs, by omega, rfl, oH2, by rw [show (List.range N).map (midF xss N i 0) = (List.range N).map (allF xss N i) from List.map_congr_left (fun j _ => if_neg (by omega))]; exact oV2.more (Nat.le_refl _) y2, hap0, o2', hb2, Nat.le_refl _⟩
      case round =>
        clear oH2 oV2 hb2 o2'
        obtain ⟨f, vs2, hf, rfl, oH, oV, hap, oL, hb, hz2⟩ := hrel
        by_cases hfN : f < N
        · obtain ⟨hl1, hl2, hl3⟩ := hlb.out f hfN
          obtain ⟨bl, ll, rfl, _, _, _, hll, hcl, _⟩ := oL.atI hfN
          obtain rfl : labI xss i f = ll := Option.some.inj (hl1.symm.trans hll)
          have hvl : vs2.length = N := by have := oH.1; simpa using this
          obtain ⟨vf, hvf⟩ : ∃ v, vs2[f]? = some v := ⟨_, List.getElem?_eq_getElem (by omega)⟩
          have hyf : ((List.range N).map (midF xss N i f))[f]? = some (allF xss N i f) := by simp [hfN, midF]
          obtain ⟨Af, nf, cf, rfl, hof⟩ := oV.2.2 f vf _ hvf hyf
          have hnf : nf = i := by rw [← hof.lenI, allF_length]
          subst hnf
          have hcf : wr.cell? ⟨w.heap.size, f, none⟩ = some (.slice Af nf cf) := by rw [oH.cellAt f (by omega)]; exact hvf
          have hff : wr.frozen? ⟨w.heap.size, f, none⟩ = false := oH.frozenAt f
          obtain ⟨u, hu⟩ : ∃ u : Int, u = ((offs xss N nf : Nat) : Int) + labI xss nf f := ⟨_, rfl⟩
          have hw : IntKind.i64.wrap (((offs xss N nf : Nat) : Int) + labI xss nf f) = u := by rw [IntKind.wrap_i64]; omega
          have hsuc := allF_succ xss N nf f
          rw [← hu] at hsuc
          replace hsuc := Lib.hid hsuc
          replace hll := Lib.hid hll
          replace hl1 := Lib.hid hl1
          replace hvf := Lib.hid hvf
          replace hyf := Lib.hid hyf
          replace hvl := Lib.hid hvl
          replace hu := Lib.hid hu
          go_wp2_with (at_builtin; refine wpList_append1 wr rfl (.tmp 36) (.tmp 40) 22 rfl (w.heap.size + 1) 2 j0 (.int .i64 0) 8 Try.underlying22 hj0 hy0 hy1 hy2 rfl (by omega) Af nf cf _ (.int .i64 u) rfl hof.1 _ rfl rfl rfl (by omega) (by omega) ?_)
          intro g4 c4 w5 ho5 hg5 hlo5 hlt5 hor5
          have hz5 := hg5.size
          have hbl : ∀ z, (Value.slice Af nf cf).ownBlock = some z → w.heap.size + 1 ≤ z := fun z hzz => (hof.1.lt z hzz).1
          have oH5 := own_kept_ty oH hof.1 (by decide) hg5
          have K5 : w5.cell? ⟨w.heap.size, f, none⟩ = some (.slice Af nf cf) := by rw [oH5.cellAt f (by omega)]; exact hvf.out
          have F5 : w5.frozen? ⟨w.heap.size, f, none⟩ = false := oH5.frozenAt f
          have hor6 : (Value.slice Af nf cf).ownBlock = some g4 ∨ wr.heap.size ≤ g4 := by
            rcases hor5 with hh | hh
            · left; rw [hh]; rfl
            · exact .inr hh
          have oV5 := oV.app hvf.out hyf.out (x := u) (by rw [List.map_append]; exact ho5) hg5 hor6 hz5
          have e1 : ((List.range N).map (midF xss N nf f)).set f (allF xss N nf f ++ [u]) = (List.range N).map (midF xss N nf (f + 1)) := by
            have h1 := midF_set (xss := xss) (N := N) (i := nf) hfN
            rw [hsuc.out] at h1
            exact h1
          rw [e1] at oV5
          have hapf := hap.out _ (mem_of_get? hvf.out)
          have oL5 : Own w5 w0 w2.heap.size 2 (some ⟨bl, 0, none⟩) N N ((labL (xss.eraseIdx nf) N).map (Value.int .i64)) := ⟨oL.1.kept hg5 (by
            have h1 := oL.1.lt bl (by simp [Value.ownBlock])
            have h2 := oL.2 _ rfl
            refine .inr (fun e => ?_)
            rcases hapf bl e.symm with h | h
            · have := h1.1; omega
            · simp at h2; omega), oL.2⟩
          have hap5 : ∀ v ∈ vs2.set f (.slice (some ⟨g4, 0, none⟩) (nf + 1) c4), ∀ z, v.ownBlock = some z → z < w0 ∨ w2.heap.size ≤ z := fun v hv z hzz => by
            rcases List.mem_or_eq_of_mem_set hv with hv | rfl
            · exact hap.out v hv z hzz
            · simp [Value.ownBlock] at hzz
              subst hzz
              rcases hor6 with h | h
              · exact hapf _ h
              · right; omega
          have hb5 := hb.grown hg5 (by omega) (fun z hzz => by have := hbl z hzz; omega)
          have hst := oH5.stored f (.slice (some ⟨g4, 0, none⟩) (nf + 1) c4)
          have oH6 := hst.1
          have oV6 := oV5.keep (same_set w5 ⟨w.heap.size, f, none⟩ (.slice (some ⟨g4, 0, none⟩) (nf + 1) c4) (w.heap.size + 1) w5.heap.size (.inl (by simp)))
          have oL6 := oL5.keep (same_set w5 ⟨w.heap.size, f, none⟩ (.slice (some ⟨g4, 0, none⟩) (nf + 1) c4) w0 w2.heap.size (.inl (by simp; omega)))
          have hb6 := hb5.setCell (p := ⟨w.heap.size, f, none⟩) (by simp) (.slice (some ⟨g4, 0, none⟩) (nf + 1) c4)
          have hz6 : (w5.setCell ⟨w.heap.size, f, none⟩ (.slice (some ⟨g4, 0, none⟩) (nf + 1) c4)).heap.size = w5.heap.size := World.size_setCell _ _ _
          replace hap5 := Lib.hid hap5
          clear oH oV oL hb hcl hcf hff hw ho5 hg5 hor5 hor6 oH5 oV5 oL5 hb5 hst hap hapf e1 hof
          go_wp2_with fail
          clear K5 F5
          obtain ⟨w6, e6⟩ : ∃ w6 : World, w5.setCell ⟨w.heap.size, f, none⟩ (.slice (some ⟨g4, 0, none⟩) (nf + 1) c4) = w6 := ⟨_, rfl⟩
          rw [e6] at oH6 oV6 oL6 hb6 hz6 ⊢
          rw [← hz6] at oV6 hz5
          clear e6 hz6
          go_roundw
          case measure => simp [intOf]; omega
          case rel => first | exact ⟨f + 1, _, by omega, by go_num, oH6, oV6, hap5, oL6, hb6, by omega⟩ | (repeat (first | exact ⟨⟨f + 1, _, by omega, by go_num, oH6, oV6, hap5, oL6, hb6, by omega⟩, rfl⟩ | refine Exists.intro _ ?_))
        · have hff : f = N := by omega
          subst hff
          have e1 : (List.range f).map (midF xss f i f) = (List.range f).map (allF xss f (i + 1)) := List.map_congr_left (fun j hj => if_pos (List.mem_range.1 hj))
          rw [e1] at oV
          have hw9 : IntKind.i64.wrap (((offs xss f i : Nat) : Int) + ((cntR (xss.eraseIdx i) f : Nat) : Int)) = ((offs xss f (i + 1) : Nat) : Int) := by rw [hofs.out, IntKind.wrap_i64]; omega
          go_wp2_with fail
          clear hw9
          go_roundw
          case measure => simp [intOf]; omega
          case rel => first | exact ⟨i + 1, vs2, by omega, by go_num, rfl, oH, oV, hb, by omega⟩ | (repeat (first | exact ⟨⟨i + 1, vs2, by omega, by go_num, rfl, oH, oV, hb, by omega⟩, rfl⟩ | refine Exists.intro _ ?_))
    · have hii : i = n := by omega
      subst hii
      go_wp2_with fail
      go_ret
      exact ⟨_, rfl, ⟨vs, ⟨oH, fun a ha => by cases ha; simp; omega⟩, oV.more (by omega) (Nat.le_refl _)⟩, hb⟩
end Go.Proofs.Ytbioelmofceaaaa
