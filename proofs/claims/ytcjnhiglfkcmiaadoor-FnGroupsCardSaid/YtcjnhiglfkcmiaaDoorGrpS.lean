/- The group of a system: l01Put, l01Own2, l01Group of the reference. No condition but the sizes of memory. -/
import Derived.Test.YtcjnhiglfkcmiaaDoorLexS
import Derived.Test.YtcjnhiglfkcmiaaDoorGrpP
import Derived.Test.YtcjnhiglfkcmiaaDoorBag
import Derived.Test.YtcjnhiglfkcmiaaDoorOrd
import Derived.Test.YtcjnhiglfkcmiaaDoorPerm2
import Derived.Test.YtcjnhiglfkcmiaaDoorOrbL
import Derived.Test.YtcjnhiglfkcmiaaDoorFormP
namespace Go.Proofs.YtcjnhiglfkcmiaaDoor
open Go.RowKit
set_option linter.unusedVariables false
set_option maxRecDepth 100000
/-- p's place in a list that rises: all ahead of it are less, none behind -/
def PutB (S : List (List Int)) (p : List Int) (l h : Nat) : Prop := (∀ j x, j < l → S[j]? = some x → cmpL x p < 0) ∧ (∀ j x, h ≤ j → S[j]? = some x → ¬ cmpL x p < 0)
def SrtL (S : List (List Int)) : Prop := S.Pairwise (fun a b => cmpL a b < 0)
theorem cmpL_lt_trans {a b c : List Int} (h : cmpL a b < 0) (k : cmpL b c < 0) : cmpL a c < 0 := by
  have h1 := cmpL_trans a b c (by omega) (by omega)
  by_cases e : cmpL a c = 0
  · have := (cmpL_zero a c).1 e
    subst this
    have := cmpL_anti a b
    omega
  · omega
theorem PutB.zero (S : List (List Int)) (p : List Int) {n : Nat} (hn : S.length ≤ n) : PutB S p 0 n :=
  ⟨fun j x hj _ => by omega, fun j x hj hx => by have := (List.getElem?_eq_some_iff.1 hx).1; omega⟩
theorem PutB.up {S : List (List Int)} {p x : List Int} {l h a : Nat} (b : PutB S p l h) (hs : SrtL S) (ha : S[a]? = some x) (hx : cmpL x p < 0) : PutB S p (a + 1) h := by
  refine ⟨fun j y hj hy => ?_, b.2⟩
  by_cases e : j = a
  · subst e
    rw [ha] at hy
    exact Option.some.inj hy ▸ hx
  · obtain ⟨h1, e1⟩ := List.getElem?_eq_some_iff.1 hy
    obtain ⟨h2, e2⟩ := List.getElem?_eq_some_iff.1 ha
    have := List.pairwise_iff_getElem.1 hs j a h1 h2 (by omega)
    rw [e1, e2] at this
    exact cmpL_lt_trans this hx
theorem PutB.down {S : List (List Int)} {p x : List Int} {l h a : Nat} (b : PutB S p l h) (hs : SrtL S) (ha : S[a]? = some x) (hx : ¬ cmpL x p < 0) : PutB S p l a := by
  refine ⟨b.1, fun j y hj hy hlt => ?_⟩
  by_cases e : j = a
  · subst e
    rw [ha] at hy
    exact hx (Option.some.inj hy ▸ hlt)
  · obtain ⟨h1, e1⟩ := List.getElem?_eq_some_iff.1 hy
    obtain ⟨h2, e2⟩ := List.getElem?_eq_some_iff.1 ha
    have := List.pairwise_iff_getElem.1 hs a j h2 h1 (by omega)
    rw [e1, e2] at this
    exact hx (cmpL_lt_trans this hlt)
/-- at its place stands p or p is not there -/
theorem PutB.notin {S : List (List Int)} {p : List Int} {l : Nat} (b : PutB S p l l) (hs : SrtL S) (h : S[l]? ≠ some p) : p ∉ S := fun hm => by
  obtain ⟨j, hj⟩ := List.mem_iff_getElem?.1 hm
  have hpp := cmpL_refl p
  have hlj : l ≤ j := by
    apply Nat.le_of_not_lt
    intro hlt
    have := b.1 j p hlt hj
    omega
  by_cases e : j = l
  · subst e; exact h hj
  · obtain ⟨h1, e1⟩ := List.getElem?_eq_some_iff.1 hj
    have h2 : l < S.length := by omega
    have h3 := List.pairwise_iff_getElem.1 hs l j h2 h1 (by omega)
    rw [e1] at h3
    exact b.2 l _ (Nat.le_refl _) (List.getElem?_eq_getElem h2) h3
theorem PutB.ins {S : List (List Int)} {p : List Int} {l : Nat} (b : PutB S p l l) (hs : SrtL S) (hp : p ∉ S) : SrtL (S.take l ++ p :: S.drop l) := by
  unfold SrtL
  rw [List.pairwise_append]
  refine ⟨hs.sublist (List.take_sublist _ _), ?_, fun x hx y hy => ?_⟩
  · rw [List.pairwise_cons]
    refine ⟨fun y hy => ?_, hs.sublist (List.drop_sublist _ _)⟩
    obtain ⟨j, hj⟩ := List.mem_iff_getElem?.1 hy
    rw [List.getElem?_drop] at hj
    have h1 := b.2 (l + j) y (by omega) hj
    have h2 := cmpL_anti y p
    have h3 : cmpL y p ≠ 0 := fun e => hp (by rw [← (cmpL_zero y p).1 e]; exact List.mem_of_getElem? hj)
    omega
  · have hxl : cmpL x p < 0 := by
      obtain ⟨j, hj⟩ := List.mem_iff_getElem?.1 hx
      have hjl : j < l := by have := (List.getElem?_eq_some_iff.1 hj).1; rw [List.length_take] at this; omega
      rw [List.getElem?_take_of_lt hjl] at hj
      exact b.1 j x hjl hj
    rcases List.mem_cons.1 hy with rfl | hy
    · exact hxl
    · obtain ⟨j, hj⟩ := List.mem_iff_getElem?.1 hy
      rw [List.getElem?_drop] at hj
      have h1 := b.2 (l + j) y (by omega) hj
      have h2 := cmpL_anti y p
      by_cases e : cmpL y p = 0
      · have := (cmpL_zero y p).1 e
        subst this
        exact hxl
      · exact cmpL_lt_trans hxl (by omega)
/-- one is moved on -/
theorem shift_set {vs : List Value} {k : Nat} {z v : Value} (hk : k + 1 ≤ vs.length) (hv : vs[k]? = some v) : (vs.take (k + 1) ++ z :: vs.drop (k + 1)).set (k + 1) v = vs.take k ++ v :: vs.drop k := by
  have h1 : (vs.take (k + 1)).length = k + 1 := by rw [List.length_take]; omega
  rw [List.set_append_right _ _ (by omega), h1, Nat.sub_self, List.set_cons_zero, List.take_add_one, hv]
  have h2 : vs.drop k = v :: vs.drop (k + 1) := by
    obtain ⟨q, e⟩ := List.getElem?_eq_some_iff.1 hv
    rw [← e]
    exact List.drop_eq_getElem_cons q
  rw [h2]
  simp
theorem last_set {vs : List Value} {k : Nat} {z v : Value} (hk : k ≤ vs.length) : (vs.take k ++ z :: vs.drop k).set k v = vs.take k ++ v :: vs.drop k := by
  have h1 : (vs.take k).length = k := by rw [List.length_take]; omega
  rw [List.set_append_right _ _ (by omega), h1, Nat.sub_self, List.set_cons_zero]
theorem grown_below {w w' : World} (h : Below w.heap.size w w') (row : Option Nat) : w.grownBy w' row := ⟨h.os, h.tape, h.output, h.size, fun k hk _ => h.block k hk⟩
theorem grown_step {w w2 w3 : World} {row : Option Nat} {g : Nat} (h : w.grownBy w2 row) (h2 : w2.grownBy w3 (some g)) (hg : row = some g ∨ w.heap.size ≤ g) : w.grownBy w3 row :=
  ⟨h2.os.trans h.os, h2.tape.trans h.tape, h2.output.trans h.output, Nat.le_trans h.size h2.size, fun k hk hne => (h2.block k (Nat.lt_of_lt_of_le hk h.size) (fun e => by
    injection e with e
    subst e
    rcases hg with r | r
    · exact hne r.symm
    · omega)).trans (h.block k hk hne)⟩
theorem grown_row_trans {w w2 w3 : World} {row : Option Nat} (h : w.grownBy w2 row) (h2 : w2.grownBy w3 row) : w.grownBy w3 row :=
  ⟨h2.os.trans h.os, h2.tape.trans h.tape, h2.output.trans h.output, Nat.le_trans h.size h2.size, fun k hk hne => (h2.block k (Nat.lt_of_lt_of_le hk h.size) hne).trans (h.block k hk hne)⟩
/-- what l01Put returns -/
def PutR (w w' : World) (T : TypeId) (lo : Nat) (A : Option Addr) (n c : Nat) (vs : List Value) (S : List (List Int)) (vp : Value) (p : List Int) (A' : Option Addr) (n' c' : Nat) (fr : Bool) : Prop :=
  w.grownBy w' (Value.slice A n c).ownBlock ∧
  ((fr = false ∧ p ∈ S ∧ A' = A ∧ n' = n ∧ c' = c ∧ w'.ownsRow lo T 1 (.slice A n c) n vs) ∨
   (fr = true ∧ p ∉ S ∧ n' = n + 1 ∧ ∃ g low, A' = some ⟨g, 0, none⟩ ∧ (A = some ⟨g, 0, none⟩ ∨ w.heap.size ≤ g) ∧ low ≤ n ∧ PutB S p low low ∧ w'.ownsRow lo T 1 (.slice A' n' c') n' (vs.take low ++ vp :: vs.drop low)))
/-- how l01Put ends -/
def PutE (e : Ending) (w w' : World) (T : TypeId) (lo : Nat) (A : Option Addr) (n c : Nat) (vs : List Value) (S : List (List Int)) (vp : Value) (p : List Int) : Prop :=
  ∃ (A' : Option Addr) (n' c' : Nat) (fr : Bool), e = .returned (.tuple #[.slice A' n' c', .bool fr]) ∧ PutR w w' T lo A n c vs S vp p A' n' c' fr
set_option maxHeartbeats 4000000 in
theorem l01Put_any (A : Option Addr) (n c : Nat) (vs : List Value) (S : List (List Int)) (Ap : Option Addr) (np cp : Nat) (p : List Int) (w : World) {lo : Nat} (ho : w.ownsRow lo 24 1 (.slice A n c) n vs) (hlo : lo ≤ w.heap.size)
    (hrow : ∀ (k : Nat) (v : Value) (xs : List Int), vs[k]? = some v → S[k]? = some xs → ∃ A1 n1 c1, v = .slice A1 n1 c1 ∧ RI w lo w.heap.size A1 n1 xs) (hl : vs.length = S.length) (hs : SrtL S) (hp : RI w lo w.heap.size Ap np p) (hn : n ≤ 1048576) :
    Calls Tryd.prog 93 #[.slice A n c, .slice Ap np cp] w fun e w' => PutE e w w' 24 lo A n c vs S (.slice Ap np cp) p := by
  obtain ⟨s0, hs0, hu0, hu1, hu2⟩ := info_parts infoS
  have hvn : vs.length = n := by have := ho.1; simpa using this
  have hb0 := PutB.zero S p (n := n) (by omega)
  replace hs := Lib.hid hs
  replace hb0 := Lib.hid hb0
  replace hl := Lib.hid hl
  replace hvn := Lib.hid hvn
  go_enter Tryd.func93, Tryd.ntmps93
  go_wp2_with fail
  go_loopw [6, 7] (fun lv hv wq => ∃ (l h : Nat), lv = .int .i64 l ∧ hv = .int .i64 h ∧ l ≤ h ∧ h ≤ n ∧ Hid (PutB S p l h) ∧ Below w.heap.size w wq) (fun lv hv _ => (intOf hv).toNat - (intOf lv).toNat)
  case atStart => exact ⟨0, n, rfl, rfl, by omega, Nat.le_refl _, hb0, Below.refl _ _⟩
  case round =>
    clear hb0
    obtain ⟨l, h, rfl, rfl, hlh, hhn, hP, hB⟩ := hrel
    have yB := hB.size
    by_cases hlt : l < h
    · obtain ⟨a, ha⟩ : ∃ a : Nat, a = (l + h) / 2 := ⟨_, rfl⟩
      have hdv : ((l : Int) + (h : Int)) / 2 = (a : Int) := by omega
      have hwr : IntKind.i64.wrap ((l : Int) + (h : Int)) = (l : Int) + (h : Int) := by rw [IntKind.wrap_i64]; omega
      have hal : l ≤ a := by omega
      have hah : a < h := by omega
      clear ha
      obtain ⟨g, v, rfl, hg0, -, hg1, hv, -, hc, -⟩ := (Own.of_row ho).below hB (Nat.le_refl _) |>.at_ (k := a) (by omega)
      obtain ⟨x, hx⟩ : ∃ x, S[a]? = some x := ⟨S[a]'(by have := hl.out; have := hvn.out; omega), List.getElem?_eq_getElem _⟩
      obtain ⟨Ax, nx, cx, rfl, rx⟩ := hrow a v x hv hx
      have hL := l01Less_any Ax nx cx x Ap np cp p wr (rx.below hB (Nat.le_refl _)) yB (hp.below hB (Nat.le_refl _)) yB
      have hup := hP.out.up hs.out hx
      have hdn := hP.out.down hs.out hx
      replace hx := Lib.hid hx
      replace hv := Lib.hid hv
      clear hP
      by_cases hxp : cmpL x p < 0
      · rw [decide_eq_true hxp] at hL
        replace hup := Lib.hid (hup hxp)
        replace hxp := Lib.hid hxp
        clear hdn
        go_wp2_with fail
        ((with_reducible refine hL.mono ?_); rintro e w5 ⟨rfl, f5⟩)
        clear hL
        have hB5 := hB.trans (f5.mono yB)
        clear hc
        go_wp2_with fail
        go_roundw
        case measure => simp [intOf] <;> omega
        case rel => exact ⟨a + 1, h, by go_num, rfl, by omega, hhn, hup, hB5⟩
      · rw [decide_eq_false hxp] at hL
        replace hdn := Lib.hid (hdn hxp)
        replace hxp := Lib.hid hxp
        clear hup
        go_wp2_with fail
        ((with_reducible refine hL.mono ?_); rintro e w5 ⟨rfl, f5⟩)
        clear hL
        have hB5 := hB.trans (f5.mono yB)
        clear hc
        go_wp2_with fail
        go_roundw
        case measure => simp [intOf] <;> omega
        case rel => exact ⟨l, a, rfl, rfl, by omega, by omega, hdn, hB5⟩
    · obtain rfl : h = l := by omega
      have hP2 := hP.out
      by_cases hsm : S[h]? = some p
      · have hhlt : h < n := by have := (List.getElem?_eq_some_iff.1 hsm).1; have := hl.out; have := hvn.out; omega
        obtain ⟨g, v, rfl, hg0, -, hg1, hv, -, hc, -⟩ := (Own.of_row ho).below hB (Nat.le_refl _) |>.at_ (k := h) hhlt
        obtain ⟨Ax, nx, cx, rfl, rx⟩ := hrow h v p hv hsm
        have hL := l01Same_any Ax nx cx p Ap np cp p wr (rx.below hB (Nat.le_refl _)) yB (hp.below hB (Nat.le_refl _)) yB
        rw [decide_eq_true (rfl : p = p)] at hL
        have hmem := List.mem_of_getElem? hsm
        have d1 : (h : Int) < (n : Int) := by omega
        replace hsm := Lib.hid hsm
        replace hmem := Lib.hid hmem
        replace hv := Lib.hid hv
        clear hP hP2
        go_wp2_with fail
        ((with_reducible refine hL.mono ?_); rintro e w5 ⟨rfl, f5⟩)
        clear hL
        have hB5 := hB.trans (f5.mono yB)
        go_wp2_with fail
        go_ret2
        exact ⟨_, n, c, false, rfl, grown_below hB5 _, .inl ⟨rfl, hmem.out, rfl, rfl, rfl, ((Own.of_row ho).below hB5 (Nat.le_refl _)).1⟩⟩
      · have hni := hP2.notin hs.out hsm
        by_cases hhlt : h < n
        · obtain ⟨g, v, rfl, hg0, -, hg1, hv, -, hc, -⟩ := (Own.of_row ho).below hB (Nat.le_refl _) |>.at_ (k := h) hhlt
          obtain ⟨x, hx⟩ : ∃ x, S[h]? = some x := ⟨S[h]'(by have := hl.out; have := hvn.out; omega), List.getElem?_eq_getElem _⟩
          obtain ⟨Ax, nx, cx, rfl, rx⟩ := hrow h v x hv hx
          have hxp : x ≠ p := fun e => hsm (by rw [hx, e])
          have hL := l01Same_any Ax nx cx x Ap np cp p wr (rx.below hB (Nat.le_refl _)) yB (hp.below hB (Nat.le_refl _)) yB
          rw [decide_eq_false hxp] at hL
          have d1 : (h : Int) < (n : Int) := by omega
          replace hsm := Lib.hid hsm
          replace hni := Lib.hid hni
          replace hv := Lib.hid hv
          replace hx := Lib.hid hx
          replace hxp := Lib.hid hxp
          clear hP2
          go_wp2_with fail
          ((with_reducible refine hL.mono ?_); rintro e w5 ⟨rfl, f5⟩)
          clear hL
          have hB5 := hB.trans (f5.mono yB)
          clear hB hc f5
          have y5 := hB5.size
          have o5 := ((Own.of_row ho).below hB5 (Nat.le_refl _)).1
          go_wp2_with (at_builtin; refine wpList_append1 w5 rfl (.tmp 42) (.tmp 44) 33 rfl lo 24 s0 (.slice none 0 0) 24 Tryd.underlying33 hs0 hu0 hu1 hu2 rfl (by omega) _ n c _ (.slice Ap np cp) rfl o5 _ rfl rfl rfl (by omega) (by omega) ?_)
          intro g6 c6 w6 ho6 hg6 hlo6 hlt6 hor6
          have hG6 := grown_row_trans (grown_below hB5 _) hg6
          have hr6 : Hid (w6.ownsRow lo 24 1 (.slice (some ⟨g6, 0, none⟩) (n + 1) c6) (n + 1) (vs.take n ++ .slice Ap np cp :: vs.drop n)) := Lib.hid (by
            rw [List.take_of_length_le (by have := hvn.out; omega), List.drop_of_length_le (by have := hvn.out; omega)]
            exact ho6)
          have hor : Hid ((some ⟨g, 0, none⟩ : Option Addr) = some ⟨g6, 0, none⟩ ∨ w.heap.size ≤ g6) := Lib.hid (by
            rcases hor6 with e | e
            · exact .inl (by first | exact e | rw [e])
            · exact .inr (by omega))
          replace hG6 := Lib.hid hG6
          clear ho6 hg6 hor6 o5 hB5
          have hn1 : IntKind.i64.wrap ((n : Int) + 1 - 1) = (n : Int) := by rw [IntKind.wrap_i64]; omega
          go_wp2_with fail
          go_loopw [10] (fun kv wq => ∃ (k : Nat) (z : Value), kv = .int .i64 k ∧ h ≤ k ∧ k ≤ n ∧ Hid (wq.ownsRow lo 24 1 (.slice (some ⟨g6, 0, none⟩) (n + 1) c6) (n + 1) (vs.take k ++ z :: vs.drop k)) ∧ Hid (w.grownBy wq (Value.slice (some ⟨g, 0, none⟩) n c).ownBlock)) (fun kv _ => (intOf kv).toNat)
          case atStart => exact ⟨n, _, by go_num, by omega, Nat.le_refl _, hr6, hG6⟩
          case round =>
            clear hr6 hG6
            obtain ⟨k, z, rfl, hk1, hk2, hr, hG⟩ := hrel
            obtain ⟨gg, v2, e1, -, -, -, -, -, hck, hfz⟩ := (Own.of_row hr.out).at_ (k := k) (by omega)
            injection e1 with e1
            injection e1 with e1 _ _
            subst e1
            by_cases hhk : h < k
            · obtain ⟨k1, rfl⟩ : ∃ k1, k = k1 + 1 := ⟨k - 1, by omega⟩
              obtain ⟨u, hu⟩ : ∃ u, vs[k1]? = some u := ⟨vs[k1]'(by have := hvn.out; omega), List.getElem?_eq_getElem _⟩
              obtain ⟨gg, v1, e1, -, -, -, hv1, -, hc1, -⟩ := (Own.of_row hr.out).at_ (k := k1) (by omega)
              injection e1 with e1
              injection e1 with e1 _ _
              subst e1
              have hvu : v1 = u := by
                rw [List.getElem?_append_left (by rw [List.length_take]; have := hvn.out; omega), List.getElem?_take_of_lt (by omega), hu] at hv1
                exact (Option.some.inj hv1).symm
              subst hvu
              obtain ⟨xk, hxk⟩ : ∃ x, S[k1]? = some x := ⟨S[k1]'(by have := hl.out; have := hvn.out; omega), List.getElem?_eq_getElem _⟩
              obtain ⟨Ak, nk, ck, rfl, -⟩ := hrow k1 v1 xk hu hxk
              replace hxk := Lib.hid hxk
              have hst := hr.out.stored (k1 + 1) (.slice Ak nk ck)
              rw [shift_set (by have := hvn.out; omega) hu] at hst
              have hfz1 := hfz (k1 + 1)
              have hG7 := Lib.hid (grown_step hG.out hst.2 (by
                rcases hor.out with e | e
                · exact .inl (by rw [e]; rfl)
                · exact .inr e))
              have hr7 := Lib.hid hst.1
              have d3 : (h : Int) < ((k1 + 1 : Nat) : Int) := by omega
              have hsub : IntKind.i64.wrap (((k1 + 1 : Nat) : Int) - 1) = (k1 : Int) := by rw [IntKind.wrap_i64]; omega
              have b1 : (0 : Int) ≤ ((k1 + 1 : Nat) : Int) := by omega
              have b2 : ((k1 + 1 : Nat) : Int) < ((n + 1 : Nat) : Int) := by omega
              have b3 : (0 : Int) ≤ (k1 : Int) := by omega
              have b4 : (k1 : Int) < ((n + 1 : Nat) : Int) := by omega
              clear hr hG hst hv1 hfz
              replace hu := Lib.hid hu
              go_wp2_with fail
              go_roundw
              case measure => simp [intOf] <;> omega
              case rel => exact ⟨k1, _, by go_num, by omega, by omega, hr7, hG7⟩
            · obtain rfl : k = h := by omega
              have hst := hr.out.stored k (.slice Ap np cp)
              rw [last_set (by have := hvn.out; omega)] at hst
              have hfz1 := hfz k
              have hG7 := grown_step hG.out hst.2 (by
                rcases hor.out with e | e
                · exact .inl (by rw [e]; rfl)
                · exact .inr e)
              have hr7 := hst.1
              have b1 : (0 : Int) ≤ (k : Int) := by omega
              have b2 : (k : Int) < ((n + 1 : Nat) : Int) := by omega
              replace hr7 := Lib.hid hr7
              replace hG7 := Lib.hid hG7
              clear hr hG hst hfz
              go_wp2_with fail
              go_ret2
              exact ⟨_, n + 1, c6, true, rfl, hG7.out, .inr ⟨rfl, hni.out, rfl, g6, k, rfl, hor.out, by omega, hP.out, hr7.out⟩⟩
        · have d1 : ¬ (h : Int) < (n : Int) := by omega
          replace hsm := Lib.hid hsm
          replace hni := Lib.hid hni
          clear hP2
          obtain ⟨w5, rfl⟩ : ∃ w5 : World, w5 = wr := ⟨_, rfl⟩
          have hB5 := hB
          have y5 := yB
          clear hB yB
          have o5 := ((Own.of_row ho).below hB5 (Nat.le_refl _)).1
          go_wp2_with (at_builtin; refine wpList_append1 w5 rfl (.tmp 42) (.tmp 44) 33 rfl lo 24 s0 (.slice none 0 0) 24 Tryd.underlying33 hs0 hu0 hu1 hu2 rfl (by omega) _ n c _ (.slice Ap np cp) rfl o5 _ rfl rfl rfl (by omega) (by omega) ?_)
          intro g6 c6 w6 ho6 hg6 hlo6 hlt6 hor6
          have hG6 := grown_row_trans (grown_below hB5 _) hg6
          have hr6 : Hid (w6.ownsRow lo 24 1 (.slice (some ⟨g6, 0, none⟩) (n + 1) c6) (n + 1) (vs.take n ++ .slice Ap np cp :: vs.drop n)) := Lib.hid (by
            rw [List.take_of_length_le (by have := hvn.out; omega), List.drop_of_length_le (by have := hvn.out; omega)]
            exact ho6)
          have hor : Hid (A = some ⟨g6, 0, none⟩ ∨ w.heap.size ≤ g6) := Lib.hid (by
            rcases hor6 with e | e
            · exact .inl (by first | exact e | rw [e])
            · exact .inr (by omega))
          replace hG6 := Lib.hid hG6
          clear ho6 hg6 hor6 o5 hB5
          have hn1 : IntKind.i64.wrap ((n : Int) + 1 - 1) = (n : Int) := by rw [IntKind.wrap_i64]; omega
          go_wp2_with fail
          go_loopw [10] (fun kv wq => ∃ (k : Nat) (z : Value), kv = .int .i64 k ∧ h ≤ k ∧ k ≤ n ∧ Hid (wq.ownsRow lo 24 1 (.slice (some ⟨g6, 0, none⟩) (n + 1) c6) (n + 1) (vs.take k ++ z :: vs.drop k)) ∧ Hid (w.grownBy wq (Value.slice A n c).ownBlock)) (fun kv _ => (intOf kv).toNat)
          case atStart => exact ⟨n, _, by go_num, by omega, Nat.le_refl _, hr6, hG6⟩
          case round =>
            clear hr6 hG6
            obtain ⟨k, z, rfl, hk1, hk2, hr, hG⟩ := hrel
            obtain ⟨gg, v2, e1, -, -, -, -, -, hck, hfz⟩ := (Own.of_row hr.out).at_ (k := k) (by omega)
            injection e1 with e1
            injection e1 with e1 _ _
            subst e1
            by_cases hhk : h < k
            · exfalso; omega
            · obtain rfl : k = h := by omega
              have hst := hr.out.stored k (.slice Ap np cp)
              rw [last_set (by have := hvn.out; omega)] at hst
              have hfz1 := hfz k
              have hG7 := grown_step hG.out hst.2 (by
                rcases hor.out with e | e
                · exact .inl (by rw [e]; rfl)
                · exact .inr e)
              have hr7 := hst.1
              have b1 : (0 : Int) ≤ (k : Int) := by omega
              have b2 : (k : Int) < ((n + 1 : Nat) : Int) := by omega
              replace hr7 := Lib.hid hr7
              replace hG7 := Lib.hid hG7
              clear hr hG hst hfz
              go_wp2_with fail
              go_ret2
              exact ⟨_, n + 1, c6, true, rfl, hG7.out, .inr ⟨rfl, hni.out, rfl, g6, k, rfl, hor.out, by omega, hP.out, hr7.out⟩⟩
end Go.Proofs.YtcjnhiglfkcmiaaDoor
