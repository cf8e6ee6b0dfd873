/- Draws: a system (l01Small), printed by gen/small.py. -/
import Derived.Test.YtdaljeghdiknpaaDrwC
import Derived.Test.YtdaljeghdiknpaaCyc
namespace Go.Proofs.Ytdaljeghdiknpaa
open Go.RowKit
set_option linter.unusedVariables false
set_option maxRecDepth 100000
/-- a list of lists of the call's own (blocks from B on), each of at most 402 numbers, and the source -/
structure SmS (w wr : World) (lo g : Nat) (T TS TI : TypeId) (A : Option Addr) (n c : Nat) (bs : List Int) (vs : List Value) (A1 : Option Addr) (c1 : Nat) (xss : List (List Int)) (i' h' : Nat) : Prop where
  row : wr.ownsRow w.heap.size TS 1 (.slice A1 vs.length c1) vs.length vs
  rows : RowsOwn wr w.heap.size wr.heap.size TI vs xss
  len : ∀ xs ∈ xss, xs.length ≤ 402
  src : Src wr lo g T A n c bs i' h'
  chg : Chg g (g + 1) w wr
  old : g < w.heap.size
section
variable {w wr wq : World} {lo g : Nat} {T TS TI : TypeId} {A : Option Addr} {n c : Nat} {bs : List Int} {vs : List Value} {A1 : Option Addr} {c1 : Nat} {xss : List (List Int)} {i' h' i2 h2 : Nat}
/-- the source goes on -/
theorem SmS.next (s : SmS w wr lo g T TS TI A n c bs vs A1 c1 xss i' h') (S : Src wq lo g T A n c bs i2 h2) (C : Chg g (g + 1) wr wq) : SmS w wq lo g T TS TI A n c bs vs A1 c1 xss i2 h2 := by
  have hz := C.size
  have ho := s.old
  have hsz := s.chg.size
  have hs : Same w.heap.size wr.heap.size wr wq := Same.of_chg C (Nat.le_refl _) (by omega)
  exact ⟨((Own.of_row s.row).keep hs).1, (s.rows.keep hs).more (Nat.le_refl _) hz, s.len, S, s.chg.trans C ⟨Nat.le_refl _, Nat.le_refl _⟩ ⟨Nat.le_refl _, Nat.le_refl _⟩, ho⟩
/-- the rows and a fresh row behind them, where the source goes on -/
theorem SmS.keepRows {hi : Nat} (s : SmS w wr lo g T TS TI A n c bs vs A1 c1 xss i' h') (hrow : RowsOwn wr w.heap.size hi TI vs xss) (hh : hi ≤ wr.heap.size) (C : Chg g (g + 1) wr wq) : RowsOwn wq w.heap.size hi TI vs xss :=
  hrow.keep (Same.of_chg C hh (by have := s.old; omega))
theorem SmS.start (s : Src wr lo g T A n c bs i' h') (C : Chg g (g + 1) w wr) (hold : g < w.heap.size) (b0 : wr.ownsRow w.heap.size TS 1 (.slice A1 0 c1) 0 []) : SmS w wr lo g T TS TI A n c bs [] A1 c1 [] i' h' :=
  ⟨b0, RowsOwn.nil, by simp, s, C, hold⟩
/-- a store into a row of the call's own that is none of the list's -/
theorem SmS.set {b N c3 : Nat} {us : List Value} (s : SmS w wr lo g T TS TI A n c bs vs A1 c1 xss i' h') {hi hi2 : Nat} (hrow : RowsOwn wr w.heap.size hi TI vs xss) (h1 : w.heap.size ≤ hi) (h2 : hi ≤ wr.heap.size) (hne : TS ≠ TI)
    (O : Own wr hi hi2 TI (some ⟨b, 0, none⟩) N c3 us) (j : Nat) (u : Value) : SmS w (wr.setCell ⟨b, j, none⟩ u) lo g T TS TI A n c bs vs A1 c1 xss i' h' ∧ RowsOwn (wr.setCell ⟨b, j, none⟩ u) w.heap.size hi TI vs xss := by
  have hb : hi ≤ b := (O.1.lt b rfl).1
  have ho := s.old
  have hr : RowsOwn (wr.setCell ⟨b, j, none⟩ u) w.heap.size hi TI vs xss := hrow.keep (same_set wr _ u _ _ (.inr hb))
  exact ⟨⟨own_kept_ty s.row O.1 hne (O.1.stored j u).2, hr.more (Nat.le_refl _) (by rw [World.size_setCell]; exact h2), s.len, s.src.far (by simp; omega) (by have := s.src.above; simp; omega) u, s.chg.setNew (by simp; omega) u, ho⟩, hr⟩
/-- a row has been appended -/
theorem SmS.app {A2 : Option Addr} {m c2 c3 : Nat} {A3 : Option Addr} {xs : List Int} {hi : Nat} (s : SmS w wr lo g T TS TI A n c bs vs A1 c1 xss i' h') (hne : TI ≠ TS) (hTS : True)
    (ho : Own wr hi wr.heap.size TI A2 m c2 (xs.map (Value.int .i64))) (hrow : RowsOwn wr w.heap.size hi TI vs xss) (h1 : w.heap.size ≤ hi) (hb : hi ≤ wr.heap.size) (hx : xs.length ≤ 402)
    (hg : wr.grownBy wq (Value.slice A1 vs.length c1).ownBlock) (ho2 : wq.ownsRow w.heap.size TS 1 (.slice A3 (vs.length + 1) c3) (vs.length + 1) (vs ++ [.slice A2 m c2])) :
    SmS w wq lo g T TS TI A n c bs (vs ++ [.slice A2 m c2]) A3 c3 (xss ++ [xs]) i' h' := by
  have hz := hg.size
  have hk := hrow.kept_ty s.row hne hg
  have hc := ho.kept_ty s.row hne hg
  have hw := s.chg.size
  have hnew : ∀ q, (Value.slice A1 vs.length c1).ownBlock = some q → w.heap.size ≤ q := fun q hq => (s.row.lt q hq).1
  have hold : ∀ k, k < w.heap.size → wq.heap[k]? = wr.heap[k]? := fun k hk => hg.block k (by omega) (fun e => by have := hnew k e.symm; omega)
  have ho' := s.old
  refine ⟨by rw [List.length_append]; exact ho2, ((hk.snoc hc h1 hb).more (Nat.le_refl _) hz), ?_, ?_, ?_, s.old⟩
  · intro ys hy
    rcases List.mem_append.1 hy with h | h
    · exact s.len ys h
    · rw [List.mem_singleton.1 h]; exact hx
  · exact ⟨(hold g ho').trans s.src.blk, s.src.above, s.src.code.keep fun k _ hk => hold k (by have := s.src.above; omega), s.src.byte, s.src.le, s.src.st⟩
  · exact ⟨hg.os.trans s.chg.os, hg.tape.trans s.chg.tape, hg.output.trans s.chg.output, by omega, fun k hk e => (hold k hk).trans (s.chg.block k hk e)⟩
end
def lenV : Value → Nat
  | .slice _ n _ => n
  | _ => 0
/-- what l01Small leaves -/
def SmallP (w w' : World) (lo g : Nat) (T TS TI : TypeId) (A : Option Addr) (n c : Nat) (bs : List Int) (N : Int) (A1 : Option Addr) (m c1 : Nat) : Prop :=
  ∃ (xss : List (List Int)) (i' h' : Nat), OwnS w' w.heap.size w'.heap.size TS TI A1 m c1 xss ∧ m ≤ 17 ∧ (∀ xs ∈ xss, xs.length ≤ 402) ∧ -1 ≤ N ∧ N ≤ 402 ∧ Src w' lo g T A n c bs i' h' ∧ Chg g (g + 1) w w'
set_option maxHeartbeats 2000000 in
theorem small_any (w : World) (lo g : Nat) (A : Option Addr) (n c : Nat) (bs : List Int) (i h : Nat) (s : Src w lo g 122 A n c bs i h) (most : Nat) (hm : most ≤ 400) :
    Calls Try.prog 63 #[.pointer (some ⟨g, 0, none⟩), .int .i64 most] w fun e w' => ∃ (N : Int) (A1 : Option Addr) (m c1 : Nat), e = .returned (.tuple #[.int .i64 N, .slice A1 m c1]) ∧ SmallP w w' lo g 122 27 2 A n c bs N A1 m c1 := by
  obtain ⟨s0, hs0, hu0, hu1, hu2⟩ := info_parts infoS
  have hgl := s.lt
  have hn := next_nat w lo g A n c bs _ _ s ((most : Int) + 1) (by omega) (by omega)
  go_enter Try.func63, Try.ntmps63
  go_wp2_with fail
  ((with_reducible refine hn.mono ?_); rintro e w1 ⟨N, rfl, hN, i1, h1, S1, C1⟩)
  have s1 := C1.size
  have b0 := World.ownsRow_lit (e := 27) (base := w.heap.size) (size := 1) w1 #[] 0 s1 (by omega) rfl
  have B2 : Below w1.heap.size w1 (w1.alloc (.cells #[] 27)) := (Below.refl _ _).alloc (Nat.le_refl _) _
  have T2 := SmS.start (TI := 2) (S1.below B2 S1.lt) (C1.trans_below B2) hgl b0
  have hn2 := next_nat _ lo g A n c bs _ _ T2.src 4 (by omega) (by omega)
  clear hn
  go_wp2_with fail
  ((with_reducible refine hn2.mono ?_); rintro e w3 ⟨K, rfl, hK, i3, h3, S3, C3⟩)
  have T3 := T2.next S3 C3
  clear hn2 T2 b0
  have hN4 : N ≤ 400 := by omega
  clear hN
  go_wp2_with fail
  go_loopw [7, 8] (fun lv kv wr => ∃ (k : Nat) (vs : List Value) (A1 : Option Addr) (c1 : Nat) (xss : List (List Int)) (i' h' : Nat), lv = .slice A1 vs.length c1 ∧ kv = .int .i64 k ∧ vs.length + k ≤ 3 ∧ Hid (SmS w wr lo g 122 27 2 A n c bs vs A1 c1 xss i' h')) (fun _ kv _ => (intOf kv).toNat)
  case atStart => exact ⟨K, [], _, 0, [], i3, h3, rfl, rfl, by simp; omega, Lib.hid T3⟩
  case round =>
    obtain ⟨k, vs, A1, c1, xss, i', h', rfl, rfl, hvk, hT⟩ := hrel
    have T := hT.out
    have sr := T.chg.size
    by_cases hk : 0 < k
    · have d0 : decide ((0 : Int) < (k : Int)) = true := by simp; omega
      have hD := draw_any wr lo g A n c bs _ _ T.src N (by omega)
      go_wp2_with fail
      ((with_reducible refine hD.mono ?_); rintro e w4 ⟨A2, c2, rfl, i4, h4, ys, O4, P4, S4, C4⟩)
      clear hD
      have s4 := C4.size
      have R4 := T.keepRows T.rows (Nat.le_refl _) C4
      have T4 := T.next S4 C4
      have hl4 : ys.length ≤ 402 := by rw [P4.length_eq, idL_length]; omega
      have hn := next_nat w4 lo g A n c bs _ _ T4.src 3 (by omega) (by omega)
      go_wp2_with fail
      ((with_reducible refine hn.mono ?_); rintro e w5 ⟨v, rfl, hv, i5, h5, S5, C5⟩)
      clear hn
      have s5 := C5.size
      have R5 := T4.keepRows R4 s4 C5
      have T5 := T4.next S5 C5
      have O5 := O4.keep (Same.of_chg C5 (Nat.le_refl _) (by omega))
      by_cases h0 : v = 0
      · subst h0
        have hU := unit_any N w5 (by omega)
        go_wp2_with fail
        ((with_reducible refine hU.mono ?_); rintro e w6 ⟨A3, c3, rfl, O6, B6⟩)
        clear hU
        have s6 := B6.size
        have T6 := T5.next (T5.src.below B6 T5.src.lt) (Chg.of_below _ _ B6)
        have R6 := T5.keepRows T5.rows (Nat.le_refl _) (Chg.of_below g (g + 1) B6)
        have hn := next_nat w6 lo g A n c bs _ _ T6.src 3 (by omega) (by omega)
        go_wp2_with fail
        ((with_reducible refine hn.mono ?_); rintro e w7 ⟨J, rfl, hJ, i7, h7, S7, C7⟩)
        clear hn
        have s7 := C7.size
        have R7 := T6.keepRows R6 s6 C7
        have T7 := T6.next S7 C7
        have O7 := O6.keep (Same.of_chg C7 (Nat.le_refl _) (by omega))
        clear O5 R5 O4 R4 T4 T5 T6 R6 O6 S4 S5 S7 C4 C5 C7 B6 hT T
        go_wp2_with fail
        go_loopw [10] (fun jv wq => ∃ (j : Nat) (us : List Int) (i' h' : Nat), jv = .int .i64 j ∧ j ≤ 2 ∧ Hid (us.length = N) ∧ Hid (SmS w wq lo g 122 27 2 A n c bs vs A1 c1 xss i' h') ∧ RowsOwn wq w.heap.size w5.heap.size 2 vs xss ∧ Own wq w5.heap.size w6.heap.size 2 A3 N c3 (us.map (Value.int .i64)) ∧ w6.heap.size ≤ wq.heap.size) (fun jv _ => (intOf jv).toNat)
        case atStart => exact ⟨J, idL N, i7, h7, rfl, by omega, Lib.hid (idL_length N), Lib.hid T7, R7, O7, s7⟩
        case round =>
          obtain ⟨j, us, i8, h8, rfl, hj2, hul, hT8, R8, O8, s8⟩ := hrel
          have T8 := hT8.out
          by_cases hgo : 0 < j ∧ 1 < N
          · obtain ⟨hj0, hN1⟩ := hgo
            have d1 : decide ((0 : Int) < (j : Int)) = true := by simp; omega
            have d2 : decide ((1 : Int) < (N : Int)) = true := by simp; omega
            have hn := next_nat wr lo g A n c bs _ _ T8.src (N : Int) (by omega) (by omega)
            go_wp2_with fail
            ((with_reducible refine hn.mono ?_); rintro e w9 ⟨a, rfl, ha, i9, h9, S9, C9⟩)
            clear hn
            have s9 := C9.size
            have R9 := T8.keepRows R8 (by omega) C9
            have T9 := T8.next S9 C9
            have O9 := O8.keep (Same.of_chg C9 s8 (by omega))
            have hn := next_nat w9 lo g A n c bs _ _ T9.src (N : Int) (by omega) (by omega)
            go_wp2_with fail
            ((with_reducible refine hn.mono ?_); rintro e wa ⟨b, rfl, hb, ia, ha', Sa, Ca⟩)
            clear hn
            have sa := Ca.size
            have Ra := T9.keepRows R9 (by omega) Ca
            have Ta := T9.next Sa Ca
            have Oa := O9.keep (Same.of_chg Ca (by omega) (by omega))
            obtain ⟨z, x, rfl, hz0, hz2, hz3, hx, -, -, hf⟩ := Oa.at_ (k := a) (by omega)
            simp only [List.getElem?_map, Option.map_eq_some_iff] at hx
            obtain ⟨x, hx, rfl⟩ := hx
            obtain ⟨y, hy⟩ : ∃ y, us[b]? = some y := ⟨_, List.getElem?_eq_getElem (by rw [Oa.lenI]; omega)⟩
            have cJ := Oa.cellI hx
            have cV := Oa.cellI hy
            have fJ := hf a
            clear hf
            have hVy : (us.set a y)[b]? = some y := by
              rw [List.getElem?_set]
              split
              · split
                · rfl
                · rename_i q3 q4; subst q3; rw [List.getElem?_eq_none (by omega)] at hy; cases hy
              · exact hy
            have cV2 := (Oa.setI (k := a) y).cellI hVy
            have fV2 := (Oa.setI (k := a) y).frz b
            obtain ⟨Tb, Rb⟩ := Ta.set Ra (by omega) (by omega) (by decide) Oa a (.int .i64 y)
            obtain ⟨Tc, Rc⟩ := Tb.set Rb (by omega) (by simp; omega) (by decide) (Oa.setI (k := a) y) b (.int .i64 x)
            have Oc := (Oa.setI (k := a) y).setI (k := b) x
            clear hVy
            have k1 : (a : Int) < (N : Int) := by omega
            have k2 : (b : Int) < (N : Int) := by omega
            replace hx := Lib.hid hx
            replace hy := Lib.hid hy
            replace Tb := Lib.hid Tb
            replace Tc := Lib.hid Tc
            go_wp2_with fail
            go_roundw
            case rel => exact ⟨j - 1, (us.set a y).set b x, _, _, by go_num, by omega, Lib.hid (by simpa using hul.out), Lib.hid Tc.out, Rc, Oc, by simp; omega⟩
            case measure => simp [intOf]; omega
          · have hus : us.length ≤ 402 := by rw [hul.out]; omega
            have sr8 := T8.chg.size
            by_cases hj0 : 0 < j
            · have d1 : decide ((0 : Int) < (j : Int)) = true := by simp; omega
              have d2 : decide ((1 : Int) < (N : Int)) = false := by simp; omega
              go_wp2_with (at_builtin; refine wpList_append1 wr rfl (.tmp 64) (.tmp 66) 24 rfl w.heap.size 27 s0 (.slice none 0 0) 24 Try.underlying24 hs0 hu0 hu1 hu2 rfl (by omega) _ vs.length c1 _ (.slice A3 N c3) rfl T8.row _ rfl rfl rfl (by omega) (by omega) ?_)
              intro g2 cx wz ho2 hg2 hlo2 hlt2 hor2
              have TX := T8.app (by decide) trivial (O8.more (Nat.le_refl _) s8) R8 (by omega) (by omega) hus hg2 ho2
              go_wp2_with fail
              go_roundw
              case rel => exact ⟨k - 1, vs ++ [.slice A3 N c3], _, cx, _, _, _, by rw [List.length_append]; rfl, by go_num, by rw [List.length_append]; simp; omega, Lib.hid TX⟩
              case measure => simp [intOf]; omega
            · have d1 : decide ((0 : Int) < (j : Int)) = false := by simp; omega
              go_wp2_with (at_builtin; refine wpList_append1 wr rfl (.tmp 64) (.tmp 66) 24 rfl w.heap.size 27 s0 (.slice none 0 0) 24 Try.underlying24 hs0 hu0 hu1 hu2 rfl (by omega) _ vs.length c1 _ (.slice A3 N c3) rfl T8.row _ rfl rfl rfl (by omega) (by omega) ?_)
              intro g2 cx wz ho2 hg2 hlo2 hlt2 hor2
              have TX := T8.app (by decide) trivial (O8.more (Nat.le_refl _) s8) R8 (by omega) (by omega) hus hg2 ho2
              go_wp2_with fail
              go_roundw
              case rel => exact ⟨k - 1, vs ++ [.slice A3 N c3], _, cx, _, _, _, by rw [List.length_append]; rfl, by go_num, by rw [List.length_append]; simp; omega, Lib.hid TX⟩
              case measure => simp [intOf]; omega
      · have d1 : ((v : Int) == 0) = false := by simp; omega
        go_wp2_with (at_builtin; refine wpList_append1 w5 rfl (.tmp 64) (.tmp 66) 24 rfl w.heap.size 27 s0 (.slice none 0 0) 24 Try.underlying24 hs0 hu0 hu1 hu2 rfl (by omega) _ vs.length c1 _ (.slice A2 N c2) rfl T5.row _ rfl rfl rfl (by omega) (by omega) ?_)
        intro g2 c3 w6 ho2 hg2 hlo2 hlt2 hor2
        have T6 := T5.app (by decide) trivial (O5.more (Nat.le_refl _) s5) R5 (by omega) (by omega) hl4 hg2 ho2
        go_wp2_with fail
        go_roundw
        case rel => exact ⟨k - 1, vs ++ [.slice A2 N c2], _, c3, _, _, _, by rw [List.length_append]; rfl, by go_num, by rw [List.length_append]; simp; omega, Lib.hid T6⟩
        case measure => simp [intOf]; omega
    · have hk0 : k = 0 := by omega
      subst hk0
      have d0 : decide ((0 : Int) < ((0 : Nat) : Int)) = false := by simp
      have hn := next_nat wr lo g A n c bs _ _ T.src 30 (by omega) (by omega)
      have hvl : vs.length ≤ 3 := by omega
      go_wp2_with fail
      ((with_reducible refine hn.mono ?_); rintro e w9 ⟨v, rfl, hv, i9, h9, S9, C9⟩)
      clear hn hvk
      have s9 := C9.size
      have R9 := T.keepRows T.rows (Nat.le_refl _) C9
      have T9 := T.next S9 C9
      clear hT
      by_cases v0 : v = 0
      · subst v0
        have hU := unit_any (N + 1) w9 (by omega)
        rw [show (((N + 1 : Nat)) : Int) = (N : Int) + 1 from rfl] at hU
        have hw1 : IntKind.i64.wrap ((N : Int) + 1) = (N : Int) + 1 := by rw [IntKind.wrap_i64]; omega
        go_wp2_with fail
        ((with_reducible refine hU.mono ?_); rintro e wa ⟨A3, c3, rfl, Oa, Ba⟩)
        clear hU hw1
        have sa := Ba.size
        have Ta := T9.next (T9.src.below Ba T9.src.lt) (Chg.of_below _ _ Ba)
        have Ra := T9.keepRows R9 s9 (Chg.of_below g (g + 1) Ba)
        go_wp2_with (at_builtin; refine wpList_append1 wa rfl (.tmp 72) (.tmp 76) 24 rfl w.heap.size 27 s0 (.slice none 0 0) 24 Try.underlying24 hs0 hu0 hu1 hu2 rfl (by omega) _ vs.length c1 _ (.slice A3 (N + 1) c3) rfl Ta.row _ rfl rfl rfl (by omega) (by omega) ?_)
        intro g2 cx wz ho2 hg2 hlo2 hlt2 hor2
        have TX := Ta.app (by decide) trivial (Oa.more s9 (Nat.le_refl _)) Ra (by omega) (by omega) (by rw [idL_length]; omega) hg2 ho2
        have hml : vs.length + 1 ≤ 17 := by omega
        go_wp2_with fail
        go_ret2
        exact ⟨_, _, _, _, rfl, _, _, _, ⟨_, ⟨ho2, fun ad hd => by cases hd; exact hlt2⟩, TX.rows⟩, hml, TX.len, by omega, by omega, TX.src, TX.chg⟩
      · have e0 : ((v : Int) == 0) = false := by simp; omega
        by_cases v1 : v = 1
        · subst v1
          have hw1 : IntKind.i64.wrap ((N : Int) + 1) = (N : Int) + 1 := by rw [IntKind.wrap_i64]; omega
          have L4 : RI (w9.alloc (.cells #[.int .i64 (-1), .int .i64 401, .int .i64 ((N : Int) + 1)] 2)) w9.heap.size (w9.heap.size + 1) (some ⟨w9.heap.size, 0, none⟩) 3 [-1, 401, (N : Int) + 1] := lit_rd w9 #[.int .i64 (-1), .int .i64 401, .int .i64 ((N : Int) + 1)] 2 (by simp)
          have B4 : Below w9.heap.size w9 (w9.alloc (.cells #[.int .i64 (-1), .int .i64 401, .int .i64 ((N : Int) + 1)] 2)) := (Below.refl _ _).alloc (Nat.le_refl _) _
          have T4 := T9.next (T9.src.below B4 T9.src.lt) (Chg.of_below _ _ B4)
          have hgo := T9.old
          have hch9 := T9.chg.size
          have hp := pick_any _ lo g A n c bs _ _ T4.src _ 3 3 _ L4 (.inr (by omega)) (by simp) (by omega) (by omega)
          go_wp2_with fail
          ((with_reducible refine hp.mono ?_); rintro e w5 ⟨v5, i5, h5, y, rfl, hy, S5, C5, z5⟩)
          have hyb : -1 ≤ y ∧ y ≤ 402 := by
            have := mem_of_get? hy
            simp at this
            rcases this with h | h | h <;> omega
          clear hp hy
          have T5 := T4.next S5 C5
          have hb5 := Own.of_row T5.row
          have hml : vs.length ≤ 17 := by omega
          go_wp2_with fail
          go_ret2
          exact ⟨_, _, _, _, rfl, _, _, _, ⟨_, hb5, T5.rows⟩, hml, T5.len, hyb.1, hyb.2, T5.src, T5.chg⟩
        · have e1 : ((v : Int) == 1) = false := by simp; omega
          by_cases v2 : v = 2
          · subst v2
            replace T9 := Lib.hid T9
            clear R9 T
            go_wp2_with fail
            go_loopw [7] (fun lv wq => ∃ (vs : List Value) (A1 : Option Addr) (c1 : Nat) (xss : List (List Int)) (i' h' : Nat), lv = .slice A1 vs.length c1 ∧ vs.length ≤ 17 ∧ Hid (SmS w wq lo g 122 27 2 A n c bs vs A1 c1 xss i' h')) (fun lv _ => 17 - lenV lv)
            case atStart => exact ⟨vs, A1, c1, xss, i9, h9, rfl, by omega, T9⟩
            case round =>
              clear T9
              obtain ⟨vs, A1, c1, xss, i', h', rfl, hv17, hT⟩ := hrel
              have T := hT.out
              have sr := T.chg.size
              by_cases hl : vs.length < 17
              · have d0 : decide ((vs.length : Int) < 17) = true := by simp; omega
                have hU := unit_any N wr (by omega)
                go_wp2_with fail
                ((with_reducible refine hU.mono ?_); rintro e wa ⟨A3, c3, rfl, Oa, Ba⟩)
                clear hU
                have sa := Ba.size
                have Ta := T.next (T.src.below Ba T.src.lt) (Chg.of_below _ _ Ba)
                have Ra := T.keepRows T.rows (Nat.le_refl _) (Chg.of_below g (g + 1) Ba)
                go_wp2_with (at_builtin; refine wpList_append1 wa rfl (.tmp 90) (.tmp 93) 24 rfl w.heap.size 27 s0 (.slice none 0 0) 24 Try.underlying24 hs0 hu0 hu1 hu2 rfl (by omega) _ vs.length c1 _ (.slice A3 N c3) rfl Ta.row _ rfl rfl rfl (by omega) (by omega) ?_)
                intro g2 cx wz ho2 hg2 hlo2 hlt2 hor2
                have TX := Ta.app (by decide) trivial Oa Ra (by omega) (by omega) (by rw [idL_length]; omega) hg2 ho2
                clear d0
                go_wp2_with fail
                go_roundw
                case rel => exact ⟨vs ++ [.slice A3 N c3], _, cx, _, _, _, by rw [List.length_append]; rfl, by rw [List.length_append]; simp; omega, Lib.hid TX⟩
                case measure => simp [lenV]; omega
              · have d0 : decide ((vs.length : Int) < 17) = false := by simp; omega
                have hb5 := Own.of_row T.row
                go_wp2_with fail
                go_ret2
                exact ⟨_, _, _, _, rfl, _, _, _, ⟨_, hb5, T.rows⟩, hv17, T.len, by omega, by omega, T.src, T.chg⟩
          · have e2 : ((v : Int) == 2) = false := by simp; omega
            have hb5 := Own.of_row T9.row
            have hml : vs.length ≤ 17 := by omega
            go_wp2_with fail
            go_ret2
            exact ⟨_, _, _, _, rfl, _, _, _, ⟨_, hb5, T9.rows⟩, hml, T9.len, by omega, by omega, T9.src, T9.chg⟩
end Go.Proofs.Ytdaljeghdiknpaa
