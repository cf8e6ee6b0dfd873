/- Walks of the reference's split and numeral. No condition but the sizes of memory. -/
import Derived.Test.YtcjnhiglfkcmiaaGreatDoorRdN
namespace Go.Proofs.YtcjnhiglfkcmiaaGreatDoor
open Go.RowKit
set_option linter.unusedVariables false
set_option maxRecDepth 100000
/-- a text is split up to i: ps are the pieces, the open piece begins at fr -/
structure SplI (b : UInt8) (L : List UInt8) (i fr : Nat) (ps : List (List UInt8)) : Prop where
  le : fr ≤ i
  li : i ≤ L.length
  eq : spl b L = ps ++ spl b (L.drop fr)
  no : b ∉ (L.drop fr).take (i - fr)
theorem SplI.zero (b : UInt8) (L : List UInt8) : SplI b L 0 0 [] := ⟨Nat.le_refl _, Nat.zero_le _, by simp, by simp⟩
theorem SplI.skip {b c : UInt8} {L : List UInt8} {i fr : Nat} {ps : List (List UInt8)} (h : SplI b L i fr ps) (hc : L[i]? = some c) (hn : c ≠ b) : SplI b L (i + 1) fr ps := by
  have hi := (List.getElem?_eq_some_iff.1 hc).1
  refine ⟨by have := h.le; omega, by omega, h.eq, ?_⟩
  have hle := h.le
  have e : i + 1 - fr = (i - fr) + 1 := by omega
  have h2 : (L.drop fr)[i - fr]? = some c := by rw [List.getElem?_drop, show fr + (i - fr) = i by omega]; exact hc
  rw [e, List.take_add_one, h2]
  intro hm
  rcases List.mem_append.1 hm with hm | hm
  · exact h.no hm
  · simp at hm; exact hn hm.symm
theorem SplI.cut {b : UInt8} {L : List UInt8} {i fr : Nat} {ps : List (List UInt8)} (h : SplI b L i fr ps) (hc : L[i]? = some b) : SplI b L (i + 1) (i + 1) (ps ++ [(L.drop fr).take (i - fr)]) := by
  have hi := (List.getElem?_eq_some_iff.1 hc).1
  have hle := h.le
  refine ⟨Nat.le_refl _, by omega, ?_, by simp⟩
  have h2 : (L.drop fr)[i - fr]? = some b := by rw [List.getElem?_drop, show fr + (i - fr) = i by omega]; exact hc
  have h3 : L.drop fr = (L.drop fr).take (i - fr) ++ b :: L.drop (i + 1) := by
    have h5 := (List.getElem?_eq_some_iff.1 h2).1
    have h4 : (L.drop fr).drop (i - fr) = b :: L.drop (i + 1) := by
      rw [List.drop_eq_getElem_cons h5]
      rw [List.drop_drop, show fr + (i - fr + 1) = i + 1 by omega]
      have := (List.getElem?_eq_some_iff.1 h2).2
      rw [this]
    rw [← h4, List.take_append_drop]
  rw [h.eq]
  conv => lhs; rw [h3]
  rw [spl_app h.no, List.append_assoc, List.singleton_append]
theorem SplI.done {b : UInt8} {L : List UInt8} {fr : Nat} {ps : List (List UInt8)} (h : SplI b L L.length fr ps) : spl b L = ps ++ [L.drop fr] := by
  have := h.no
  rw [List.take_of_length_le (by simp)] at this
  rw [h.eq, spl_plain this]
theorem strB_cut (L : List UInt8) (a e : Nat) : (strB L).extract a e = strB ((L.drop a).take (e - a)) := by
  apply ByteArray.ext
  apply Array.toList_inj.1
  rw [strB_data, Lib.extract_data, strB_data]
theorem own_lit0s (w : World) (T : TypeId) : Own (w.alloc (.cells #[] T)) w.heap.size (w.alloc (.cells #[] T)).heap.size T (some ⟨w.heap.size, 0, none⟩) 0 0 [] := by
  have h0 := World.ownsRow_lit (e := T) (base := w.heap.size) (size := 1) w #[] 0 (Nat.le_refl _) (by omega) rfl
  have h1 := Own.of_row h0
  simpa using h1
theorem strB_at {L : List UInt8} {i : Nat} {u : UInt8} (hu : L[i]? = some u) : ∀ h : i < (strB L).size, (strB L)[i] = u := by
  intro h
  have h2 : (strB L)[i] = (strB L).data[i] := rfl
  rw [h2, ← Array.getElem_toList]
  have h3 := (List.getElem?_eq_some_iff.1 hu)
  exact h3.2
set_option maxHeartbeats 8000000 in
theorem l01Split_any (b : UInt8) (L : List UInt8) (hL : L.length ≤ 4294967297) (w : World) :
    Calls Tryz.prog 23 #[.string (strB L), .int .u8 b.toNat] w fun e w' => ∃ (A1 : Option Addr) (c1 : Nat), e = .returned (.slice A1 (spl b L).length c1) ∧ Rd w' w.heap.size w'.heap.size A1 (spl b L).length ((spl b L).map fun p => .string (strB p)) ∧ Below w.heap.size w w' := by
  obtain ⟨j0, hj0, hy0, hy1, hy2⟩ := info_parts infoT
  go_enter Tryz.func23, Tryz.ntmps23
  go_wp2_with fail
  have o0 : Own (w.alloc (.cells #[] 9)) w.heap.size (w.alloc (.cells #[] 9)).heap.size 9 (some ⟨w.heap.size, 0, none⟩) 0 0 [] := own_lit0s w _
  have B0 : Below w.heap.size w (w.alloc (.cells #[] 9)) := (Below.refl _ _).alloc (Nat.le_refl _) _
  obtain ⟨W1, hW⟩ : ∃ W1 : World, w.alloc (.cells #[] 9) = W1 := ⟨_, rfl⟩
  rw [hW] at o0 B0 ⊢
  clear hW
  go_loopw [7, 6, 5] (fun iv fv sv wq => ∃ (i fr k : Nat) (ps : List (List UInt8)) (A1 : Option Addr) (c1 : Nat), iv = .int .i64 i ∧ fv = .int .i64 fr ∧ sv = .slice A1 k c1 ∧ ps.length = k ∧ k ≤ i ∧ Hid (SplI b L i fr ps) ∧ Own wq w.heap.size wq.heap.size 9 A1 k c1 (ps.map fun p => .string (strB p)) ∧ Below w.heap.size w wq) (fun iv _ _ _ => L.length - (intOf iv).toNat)
  case atStart => exact ⟨0, 0, 0, [], _, 0, rfl, rfl, rfl, rfl, by omega, Lib.hid (SplI.zero b L), o0, B0⟩
  case round =>
    clear o0 B0
    obtain ⟨i, fr, k, ps, A1, c1, rfl, rfl, rfl, hpl, hki, hI, ho, hB⟩ := hrel
    have hle := hI.out.le
    have hli := hI.out.li
    have hsz := hB.size
    by_cases hlt : i < L.length
    · obtain ⟨u, hu⟩ : ∃ u, L[i]? = some u := ⟨L[i], List.getElem?_eq_getElem hlt⟩
      by_cases hub : u = b
      · subst hub
        have hst := hI.out.cut hu
        replace hst := Lib.hid hst
        have hix := strB_at hu
        clear hu
        go_wp2_with (at_builtin; refine wpList_append1 wr rfl (.tmp 20) (.tmp 25) 44 rfl w.heap.size 9 j0 (.string ByteArray.empty) 16 Tryz.underlying44 hj0 hy0 hy1 hy2 rfl (by omega) A1 k c1 _ (.string ((strB L).extract fr i)) rfl ho.1 _ rfl rfl rfl (by omega) (by omega) ?_)
        intro g4 c4 w5 ho5 hg5 hlo5 hlt5 hor5
        have hb5 := hB.grown hg5 (by omega) (fun q hq => by have := (ho.1.lt q hq).1; omega)
        rw [strB_cut] at ho5
        have ho6 := Own.of_row ho5
        clear ho hg5 ho5
        go_wp2_with fail
        go_roundw
        case measure => simp [intOf]; omega
        case rel => exact ⟨i + 1, i + 1, k + 1, ps ++ [(L.drop fr).take (i - fr)], _, c4, by go_num, by go_num, rfl, by simp; omega, by omega, hst, by simpa using ho6, hb5⟩
      · have hst := hI.out.skip hu hub
        have hix := strB_at hu
        have hne : ((u.toNat : Int) == (b.toNat : Int)) = false := by
          simp only [beq_eq_false_iff_ne, ne_eq]
          intro e
          exact hub (UInt8.toNat.inj (by omega))
        clear hu hub
        replace hst := Lib.hid hst
        go_wp2_with fail
        go_roundw
        case measure => simp [intOf]; omega
        case rel => exact ⟨i + 1, fr, k, ps, A1, c1, by go_num, rfl, rfl, hpl, by omega, hst, ho, hB⟩
    · have : i = L.length := by omega
      subst this
      have hst := hI.out.done
      replace hst := Lib.hid hst
      go_wp2_with (at_builtin; refine wpList_append1 wr rfl (.tmp 29) (.tmp 33) 44 rfl w.heap.size 9 j0 (.string ByteArray.empty) 16 Tryz.underlying44 hj0 hy0 hy1 hy2 rfl (by omega) A1 k c1 _ (.string ((strB L).extract fr L.length)) rfl ho.1 _ rfl rfl rfl (by omega) (by omega) ?_)
      intro g4 c4 w5 ho5 hg5 hlo5 hlt5 hor5
      have hb5 := hB.grown hg5 (by omega) (fun q hq => by have := (ho.1.lt q hq).1; omega)
      rw [strB_cut, List.take_of_length_le (by simp)] at ho5
      have ho6 := Own.of_row ho5
      clear ho hg5 ho5
      have e1 := hst.out
      have e2 : (spl b L).length = k + 1 := by rw [e1]; simp; omega
      have e3 : (spl b L).map (fun p => Value.string (strB p)) = ps.map (fun p => .string (strB p)) ++ [.string (strB (L.drop fr))] := by rw [e1]; simp
      go_wp2_with fail
      go_ret
      rw [e2, e3]
      exact ⟨_, c4, rfl, ho6.rd, hb5⟩
theorem valN_lt (w : List UInt8) : (∀ c ∈ w, digB c = true) → valN w < 10 ^ w.length := by
  refine list_snoc (P := fun w => (∀ c ∈ w, digB c = true) → valN w < 10 ^ w.length) (fun _ => by simp [valN]) ?_ w
  intro t c ih h
  have h1 := ih fun x hx => h x (by simp [hx])
  have h2 := of_decide_eq_true (h c (by simp))
  rw [valN_snoc, List.length_append, List.length_singleton, Nat.pow_succ]
  omega
/-- a numeral is read up to i -/
structure ValI (L : List UInt8) (i v : Nat) : Prop where
  li : i ≤ L.length
  eq : v = valN (L.take i)
  dg : ∀ c ∈ L.take i, digB c = true
theorem ValI.zero (L : List UInt8) : ValI L 0 0 := ⟨by omega, by simp [valN], by simp⟩
theorem ValI.step {L : List UInt8} {i v : Nat} {c : UInt8} (h : ValI L i v) (hc : L[i]? = some c) (h48 : 48 ≤ c.toNat) (h57 : c.toNat ≤ 57) : ValI L (i + 1) (v * 10 + (c.toNat - 48)) := by
  have hi := (List.getElem?_eq_some_iff.1 hc).1
  have e : L.take (i + 1) = L.take i ++ [c] := by rw [List.take_add_one, hc]; rfl
  refine ⟨by omega, by rw [e, valN_snoc, h.eq], fun x hx => ?_⟩
  rw [e] at hx
  rcases List.mem_append.1 hx with hx | hx
  · exact h.dg x hx
  · simp at hx; subst hx; exact decide_eq_true ⟨h48, h57⟩
theorem ValI.lt {L : List UInt8} {i v : Nat} (h : ValI L i v) (hl : L.length ≤ 9) : v < 1000000000 := by
  have h1 := valN_lt _ h.dg
  rw [← h.eq] at h1
  have h2 : (L.take i).length ≤ 9 := by rw [List.length_take]; omega
  have h3 : 10 ^ (L.take i).length ≤ 10 ^ 9 := Nat.pow_le_pow_right (by omega) h2
  omega
theorem val_no {L : List UInt8} (h : L.length = 0 ∨ 9 < L.length ∨ (1 < L.length ∧ L.headD 0 = 48)) : valB L = -1 := if_pos h
theorem val_nd {L : List UInt8} {i : Nat} {c : UInt8} (hc : L[i]? = some c) (hn : c.toNat < 48 ∨ 57 < c.toNat) : valB L = -1 := by
  unfold valB
  by_cases h : L.length = 0 ∨ 9 < L.length ∨ (1 < L.length ∧ L.headD 0 = 48)
  · rw [if_pos h]
  · rw [if_neg h, if_neg]
    intro ha
    have := of_decide_eq_true (List.all_eq_true.1 ha c (List.mem_of_getElem? hc))
    omega
theorem ValI.done {L : List UInt8} {v : Nat} (h : ValI L L.length v) (hn : ¬ (L.length = 0 ∨ 9 < L.length ∨ (1 < L.length ∧ L.headD 0 = 48))) : valB L = v := by
  have h1 := h.eq
  have h2 := h.dg
  rw [List.take_of_length_le (Nat.le_refl _)] at h1 h2
  unfold valB
  rw [if_neg hn, if_pos (List.all_eq_true.2 h2), h1]
set_option maxHeartbeats 8000000 in
theorem l01Value_any (L : List UInt8) (hL : L.length ≤ 4294967297) (w : World) :
    Calls Tryz.prog 24 #[.string (strB L)] w fun e w' => e = .returned (.int .i64 (valB L)) ∧ w' = w := by
  by_cases h0 : L.length = 0
  · have hv := val_no (.inl h0)
    have d0 : ((L.length : Int) == 0) = true := by simpa using h0
    replace hv := Lib.hid hv
    clear h0
    go_enter Tryz.func24, Tryz.ntmps24
    go_wp2_with fail
    go_ret
    exact ⟨by rw [hv.out]; rfl, rfl⟩
  · have d0 : ((L.length : Int) == 0) = false := by simpa using h0
    by_cases h9 : 9 < L.length
    · have hv := val_no (.inr (.inl h9))
      have d9 : (9 : Int) < (L.length : Int) := by omega
      replace hv := Lib.hid hv
      clear h0
      go_enter Tryz.func24, Tryz.ntmps24
      go_wp2_with fail
      go_ret
      exact ⟨by rw [hv.out]; rfl, rfl⟩
    · have d9 : ¬ (9 : Int) < (L.length : Int) := by omega
      obtain ⟨u, hu⟩ : ∃ u, L[0]? = some u := ⟨L[0]'(by omega), List.getElem?_eq_getElem (by omega)⟩
      have hhd : L.headD 0 = u := by
        cases L with
        | nil => simp at hu
        | cons a r => simpa using hu
      have hix := strB_at hu
      by_cases hb : 1 < L.length ∧ u = 48
      · have hv := val_no (L := L) (.inr (.inr ⟨hb.1, hhd.trans hb.2⟩))
        have d1 : (1 : Int) < (L.length : Int) := by omega
        have d2 : ((u.toNat : Int) == 48) = true := by rw [hb.2]; rfl
        replace hv := Lib.hid hv
        clear h0 h9 hb hu hhd
        go_enter Tryz.func24, Tryz.ntmps24
        go_wp2_with fail
        go_ret
        exact ⟨by rw [hv.out]; rfl, rfl⟩
      · have hn : ¬ (L.length = 0 ∨ 9 < L.length ∨ (1 < L.length ∧ L.headD 0 = 48)) := by
          rintro (h | h | ⟨h1, h2⟩)
          · exact h0 h
          · exact h9 h
          · exact hb ⟨h1, hhd.symm.trans h2⟩
        have hl9 : L.length ≤ 9 := by omega
        have body : Hid (¬ (1 < L.length ∧ u = 48)) := Lib.hid hb
        replace hn := Lib.hid hn
        by_cases h1 : 1 < L.length
        · have d1 : (1 : Int) < (L.length : Int) := by omega
          have d2 : ((u.toNat : Int) == 48) = false := by
            simp only [beq_eq_false_iff_ne, ne_eq]
            intro e
            exact hb ⟨h1, UInt8.toNat.inj (by show u.toNat = 48; omega)⟩
          clear h0 h9 hb hu hhd
          go_enter Tryz.func24, Tryz.ntmps24
          go_wp2_with fail
          clear hix d0 d9 d1 d2
          go_loopw [4, 3] (fun iv vv wq => ∃ (i v : Nat), iv = .int .i64 i ∧ vv = .int .i64 v ∧ Hid (ValI L i v) ∧ wq = w) (fun iv _ _ => L.length - (intOf iv).toNat)
          case atStart => exact ⟨0, 0, rfl, rfl, Lib.hid (ValI.zero L), rfl⟩
          case round =>
            obtain ⟨i, v, rfl, rfl, hI, rfl⟩ := hrel
            have hli := hI.out.li
            have hvl := hI.out.lt hl9
            by_cases hlt : i < L.length
            · obtain ⟨c, hc⟩ : ∃ c, L[i]? = some c := ⟨L[i], List.getElem?_eq_getElem hlt⟩
              have hix := strB_at hc
              have hc8 : c.toNat < 256 := by have := c.toNat_lt; omega
              by_cases hd : c.toNat < 48 ∨ 57 < c.toNat
              · have hv := val_nd hc hd
                replace hv := Lib.hid hv
                by_cases hd1 : c.toNat < 48
                · have e1 : (c.toNat : Int) < 48 := by omega
                  clear hd hc
                  go_wp2_with fail
                  go_ret
                  exact ⟨by rw [hv.out]; rfl, rfl⟩
                · have e1 : ¬ (c.toNat : Int) < 48 := by omega
                  have e2 : (57 : Int) < (c.toNat : Int) := by omega
                  clear hd hc
                  go_wp2_with fail
                  go_ret
                  exact ⟨by rw [hv.out]; rfl, rfl⟩
              · have hst := hI.out.step hc (by omega) (by omega)
                have e1 : ¬ (c.toNat : Int) < 48 := by omega
                have e2 : ¬ (57 : Int) < (c.toNat : Int) := by omega
                have e3 : IntKind.u8.wrap ((c.toNat : Int) - 48) = ((c.toNat - 48 : Nat) : Int) := by rw [show (c.toNat : Int) - 48 = ((c.toNat - 48 : Nat) : Int) by omega]; simp [IntKind.wrap, IntKind.bits, IntKind.signed]; omega
                replace hst := Lib.hid hst
                clear hd hc
                go_wp2_with fail
                go_roundw
                case measure => simp [intOf]; omega
                case rel => exact ⟨i + 1, v * 10 + (c.toNat - 48), by go_num, by go_num, hst, by trivial⟩
            · have : i = L.length := by omega
              subst this
              have hv := hI.out.done hn.out
              replace hv := Lib.hid hv
              go_wp2_with fail
              go_ret
              exact ⟨by rw [hv.out]; rfl, rfl⟩
        · have d1 : ¬ (1 : Int) < (L.length : Int) := by omega
          clear h0 h9 hb hu hhd
          go_enter Tryz.func24, Tryz.ntmps24
          go_wp2_with fail
          clear hix d0 d9 d1
          go_loopw [4, 3] (fun iv vv wq => ∃ (i v : Nat), iv = .int .i64 i ∧ vv = .int .i64 v ∧ Hid (ValI L i v) ∧ wq = w) (fun iv _ _ => L.length - (intOf iv).toNat)
          case atStart => exact ⟨0, 0, rfl, rfl, Lib.hid (ValI.zero L), rfl⟩
          case round =>
            obtain ⟨i, v, rfl, rfl, hI, rfl⟩ := hrel
            have hli := hI.out.li
            have hvl := hI.out.lt hl9
            by_cases hlt : i < L.length
            · obtain ⟨c, hc⟩ : ∃ c, L[i]? = some c := ⟨L[i], List.getElem?_eq_getElem hlt⟩
              have hix := strB_at hc
              have hc8 : c.toNat < 256 := by have := c.toNat_lt; omega
              by_cases hd : c.toNat < 48 ∨ 57 < c.toNat
              · have hv := val_nd hc hd
                replace hv := Lib.hid hv
                by_cases hd1 : c.toNat < 48
                · have e1 : (c.toNat : Int) < 48 := by omega
                  clear hd hc
                  go_wp2_with fail
                  go_ret
                  exact ⟨by rw [hv.out]; rfl, rfl⟩
                · have e1 : ¬ (c.toNat : Int) < 48 := by omega
                  have e2 : (57 : Int) < (c.toNat : Int) := by omega
                  clear hd hc
                  go_wp2_with fail
                  go_ret
                  exact ⟨by rw [hv.out]; rfl, rfl⟩
              · have hst := hI.out.step hc (by omega) (by omega)
                have e1 : ¬ (c.toNat : Int) < 48 := by omega
                have e2 : ¬ (57 : Int) < (c.toNat : Int) := by omega
                have e3 : IntKind.u8.wrap ((c.toNat : Int) - 48) = ((c.toNat - 48 : Nat) : Int) := by rw [show (c.toNat : Int) - 48 = ((c.toNat - 48 : Nat) : Int) by omega]; simp [IntKind.wrap, IntKind.bits, IntKind.signed]; omega
                replace hst := Lib.hid hst
                clear hd hc
                go_wp2_with fail
                go_roundw
                case measure => simp [intOf]; omega
                case rel => exact ⟨i + 1, v * 10 + (c.toNat - 48), by go_num, by go_num, hst, by trivial⟩
            · have : i = L.length := by omega
              subst this
              have hv := hI.out.done hn.out
              replace hv := Lib.hid hv
              go_wp2_with fail
              go_ret
              exact ⟨by rw [hv.out]; rfl, rfl⟩
end Go.Proofs.YtcjnhiglfkcmiaaGreatDoor
