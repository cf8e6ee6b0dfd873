/- Worlds that have got draws and new blocks alone; the comparisons of maniplexes, their worlds exactly. No condition but the sizes of memory. -/
import Derived.Test.YtbioelmofceaaaaLex
import Derived.Test.YtbioelmofceaaaaLexQ
import Derived.Test.YtbioelmofceaaaaMan
import Derived.Test.YtbioelmofceaaaaStep
import Derived.Test.YtbioelmofceaaaaRow
import Derived.Sort.Grow
namespace Go.Proofs.Ytbioelmofceaaaa
open Go.RowKit
set_option linter.unusedVariables false
set_option maxRecDepth 100000
/-- from w to w' there are draws and new blocks alone -/
def Gr (w w' : World) : Prop := ∃ q os, w' = Sort.grow (w.drewN q) os
theorem Gr.refl (w : World) : Gr w w := ⟨0, #[], by rw [Sort.grow_empty]; rfl⟩
theorem Gr.alloc {w w' : World} (h : Gr w w') (o : Obj) : Gr w (w'.alloc o) := by
  obtain ⟨q, os, rfl⟩ := h
  exact ⟨q, os.push o, by simp [Sort.grow, World.alloc]⟩
theorem Gr.drew {w w' : World} (h : Gr w w') : Gr w w'.drew := by
  obtain ⟨q, os, rfl⟩ := h
  exact ⟨q + 1, os, by rw [Sort.drew_grow]; rfl⟩
theorem Gr.dn {w w' : World} (h : Gr w w') (n : Nat) : Gr w (w'.drewN n) := by
  obtain ⟨q, os, rfl⟩ := h
  exact ⟨q + n, os, by simp [Sort.grow, World.drewN, Nat.add_assoc]⟩
theorem Gr.trans {a b c : World} (h : Gr a b) (k : Gr b c) : Gr a c := by
  obtain ⟨q, os, rfl⟩ := h
  obtain ⟨q', os', rfl⟩ := k
  refine ⟨q + q', os ++ os', ?_⟩
  rw [← Sort.grow_grow, ← World.drewN_drewN]
  rfl
theorem Gr.below {w w' : World} (h : Gr w w') : Below w.heap.size w w' := by
  obtain ⟨q, os, rfl⟩ := h
  refine ⟨rfl, rfl, rfl, ?_, fun k hk => ?_⟩
  · show w.heap.size ≤ (w.heap ++ os).size
    rw [Array.size_append]; omega
  · show (w.heap ++ os)[k]? = w.heap[k]?
    rw [Array.getElem?_append_left hk]
/-- the first one that is not nought -/
def orI (x y : Int) : Int := if x ≠ 0 then x else y
theorem cmpOr_any (g c : Nat) (x y : Int) (w : World) (h0 : w.cell? ⟨g, 0, none⟩ = some (.int .i64 x)) (h1 : w.cell? ⟨g, 1, none⟩ = some (.int .i64 y)) :
    Calls Try.prog 100 #[.slice (some ⟨g, 0, none⟩) 2 c] w fun e w' => e = .returned (.int .i64 (orI x y)) ∧ w = w' := by
  go_enter Try.func100, Try.ntmps100
  go_wp2_with fail
  go_loop [8] (fun kv => ∃ k : Nat, k ≤ 2 ∧ kv = .int .i64 k ∧ (1 ≤ k → x = 0) ∧ (2 ≤ k → y = 0)) (fun kv => 2 - (intOf kv).toNat)
  case atStart => exact ⟨0, by omega, rfl, by omega, by omega⟩
  case round =>
    obtain ⟨k, hk, rfl, hx, hy⟩ := hrel
    rcases k with _ | _ | k
    · by_cases hx0 : x = 0
      · have d : (x != 0) = false := by simpa using hx0
        replace hx0 := Lib.hid hx0
        go_wp2_with fail
        go_round
        case measure => simp [intOf]
        case rel => exact ⟨1, by omega, rfl, fun _ => hx0.out, by omega⟩
      · have d : (x != 0) = true := by simpa using hx0
        have hr : orI x y = x := if_pos hx0
        replace hr := Lib.hid hr
        go_wp2_with fail
        go_ret
        exact ⟨ret_int hr.out.symm, rfl⟩
    · have hx0 := hx (by omega)
      clear hx hy
      by_cases hy0 : y = 0
      · have d : (y != 0) = false := by simpa using hy0
        replace hy0 := Lib.hid hy0
        replace hx0 := Lib.hid hx0
        go_wp2_with fail
        go_round
        case measure => simp [intOf]
        case rel => exact ⟨2, by omega, rfl, fun _ => hx0.out, fun _ => hy0.out⟩
      · have d : (y != 0) = true := by simpa using hy0
        have hr : orI x y = y := if_neg (by simpa using hx0)
        replace hr := Lib.hid hr
        replace hx0 := Lib.hid hx0
        go_wp2_with fail
        go_ret
        exact ⟨ret_int hr.out.symm, rfl⟩
    · obtain rfl : k = 0 := by omega
      have hx0 := hx (by omega)
      have hy0 := hy (by omega)
      clear hx hy
      have hr : orI x y = 0 := by unfold orI; rw [if_neg (by simpa using hx0), hy0]
      replace hr := Lib.hid hr
      replace hx0 := Lib.hid hx0
      replace hy0 := Lib.hid hy0
      go_wp2_with fail
      go_ret
      exact ⟨ret_int hr.out.symm, rfl⟩
theorem compareM_gr (A : Option Addr) (n c : Nat) (xss : List (List Int)) (A' : Option Addr) (n' c' : Nat) (yss : List (List Int)) (w : World) {lo hi lo' hi' : Nat} (h : RS w lo hi A n xss) (hhi : hi ≤ w.heap.size) (h' : RS w lo' hi' A' n' yss) (hhi' : hi' ≤ w.heap.size) :
    Calls Try.prog 96 #[.agg #[.slice A n c], .agg #[.slice A' n' c']] w fun e w' => e = .returned (.int .i64 (cmp2 xss yss)) ∧ Gr w w' := by
  have hR := rs_alloc (rs_alloc h hhi (.cells #[.slice A n c] 38)) (by simp; omega) (.cells #[.slice A' n' c'] 38)
  have hR' := rs_alloc (rs_alloc h' hhi' (.cells #[.slice A n c] 38)) (by simp; omega) (.cells #[.slice A' n' c'] 38)
  have hB : Gr w ((w.alloc (.cells #[.slice A n c] 38)).alloc (.cells #[.slice A' n' c'] 38)) := ((Gr.refl _).alloc _).alloc _
  go_enter Try.func96, Try.ntmps96
  go_wp2_with fail
  ((with_reducible refine (compareFunc_any A n c xss A' n' c' yss _ hR hR').mono ?_); rintro e w' ⟨rfl, rfl⟩)
  go_wp2_with fail
  go_ret
  exact ⟨rfl, hB⟩
/-- fewer flags first, then the order of the moves -/
def cmpN (a b : Nat) : Int := if (a : Int) < (b : Int) then -1 else if (b : Int) < (a : Int) then 1 else 0
def cmpF (xss yss : List (List Int)) : Int := orI (cmpN (flg xss) (flg yss)) (cmp2 xss yss)
set_option maxHeartbeats 4000000 in
theorem cmpForms_any (A : Option Addr) (n c : Nat) (xss : List (List Int)) (A' : Option Addr) (n' c' : Nat) (yss : List (List Int)) (w : World) {lo hi lo' hi' : Nat} (h : RS w lo hi A n xss) (hhi : hi ≤ w.heap.size) (hn : 0 < n) (h' : RS w lo' hi' A' n' yss) (hhi' : hi' ≤ w.heap.size) (hn' : 0 < n') :
    Calls Try.prog 99 #[.agg #[.slice A n c], .agg #[.slice A' n' c']] w fun e w' => e = .returned (.int .i64 (cmpF xss yss)) ∧ Gr w w' := by
  have hR := rs_alloc (rs_alloc h hhi (.cells #[.slice A n c] 38)) (by simp; omega) (.cells #[.slice A' n' c'] 38)
  have hR' := rs_alloc (rs_alloc h' hhi' (.cells #[.slice A n c] 38)) (by simp; omega) (.cells #[.slice A' n' c'] 38)
  have hB : Gr w ((w.alloc (.cells #[.slice A n c] 38)).alloc (.cells #[.slice A' n' c'] 38)) := ((Gr.refl _).alloc _).alloc _
  have c0 : ((w.alloc (.cells #[.slice A n c] 38)).alloc (.cells #[.slice A' n' c'] 38)).cell? ⟨w.heap.size, 0, none⟩ = some (.slice A n c) := (al_old _ _ _ _ (by simp)).trans (al_new _ _ _ _ rfl)
  have c1 : ((w.alloc (.cells #[.slice A n c] 38)).alloc (.cells #[.slice A' n' c'] 38)).cell? ⟨w.heap.size + 1, 0, none⟩ = some (.slice A' n' c') := al_new _ _ _ _ (by simp)
  obtain ⟨d, hd⟩ : ∃ d, cmpN (flg xss) (flg yss) = d := ⟨_, rfl⟩
  obtain ⟨v, hv⟩ : ∃ v, cmp2 xss yss = v := ⟨_, rfl⟩
  have hF : cmpF xss yss = orI d v := by unfold cmpF; rw [hd, hv]
  go_enter Try.func99, Try.ntmps99
  go_wp2_with fail
  obtain ⟨W1, hW⟩ : ∃ W1 : World, ((w.alloc (.cells #[.slice A n c] 38)).alloc (.cells #[.slice A' n' c'] 38)) = W1 := ⟨_, rfl⟩
  have hz1 : W1.heap.size = w.heap.size + 2 := by rw [← hW]; simp
  rw [hW] at hR hR' hB c0 c1 ⊢
  clear hW h h'
  have f0 : ∀ V, Gr W1 V → Calls Try.prog 65 #[.pointer (some ⟨w.heap.size, 0, none⟩)] V fun e w' => e = .returned (.int .i64 (flg xss : Nat)) ∧ V = w' := fun V hV => flags_any _ A n c xss V ((hV.below.cell (p := ⟨w.heap.size, 0, none⟩) (by simp; omega)).trans c0) (hR.below hV.below (by omega)) hn
  have f1 : ∀ V, Gr W1 V → Calls Try.prog 65 #[.pointer (some ⟨w.heap.size + 1, 0, none⟩)] V fun e w' => e = .returned (.int .i64 (flg yss : Nat)) ∧ V = w' := fun V hV => flags_any _ A' n' c' yss V ((hV.below.cell (p := ⟨w.heap.size + 1, 0, none⟩) (by simp; omega)).trans c1) (hR'.below hV.below (by omega)) hn'
  have f2 : ∀ V, Calls Try.prog 101 #[.int .i64 (flg xss : Nat), .int .i64 (flg yss : Nat)] V fun e w' => e = .returned (.int .i64 d) ∧ V = w' := fun V => by
    have h2 := cmpCompare_any (flg xss : Nat) (flg yss : Nat) V
    unfold cmpN at hd
    rw [hd] at h2
    exact h2
  have f3 : ∀ V, Gr W1 V → Calls Try.prog 96 #[.agg #[.slice A n c], .agg #[.slice A' n' c']] V fun e w' => e = .returned (.int .i64 v) ∧ Gr V w' := fun V hV => by
    have h2 := compareM_gr A n c xss A' n' c' yss V (hR.below hV.below (by omega)) (Nat.le_trans (by omega) hV.below.size) (hR'.below hV.below (by omega)) (Nat.le_trans (by omega) hV.below.size)
    rw [hv] at h2
    exact h2
  have gd : Gr W1 W1.drew := (Gr.refl _).drew
  replace hF := Lib.hid hF
  replace hd := Lib.hid hd
  replace hv := Lib.hid hv
  replace f0 := Lib.hid f0
  replace f1 := Lib.hid f1
  replace f2 := Lib.hid f2
  replace f3 := Lib.hid f3
  replace gd := Lib.hid gd
  go_region_law (first
    | (refine step_call rfl 96 #[.agg #[.slice A n c], .agg #[.slice A' n' c']] ?hr (f3.out _ gd.out) ?_
       (case hr => go_simp)
       rintro e9 w9 ⟨rfl, h9⟩
       refine ⟨_, rfl, ?_⟩
       have g9 := gd.out.trans h9
       have c09 := (g9.below.cell (p := ⟨w.heap.size, 0, none⟩) (by simp; omega)).trans c0
       have c19 := (g9.below.cell (p := ⟨w.heap.size + 1, 0, none⟩) (by simp; omega)).trans c1
       replace g9 := Lib.hid g9
       clear h9)
    | (refine step_call rfl 65 #[.pointer (some ⟨w.heap.size, 0, none⟩)] ?hr (f0.out _ (by first | exact gd.out | exact g9.out)) ?_
       (case hr => go_simp)
       rintro e5 w5 ⟨rfl, rfl⟩
       refine ⟨_, rfl, ?_⟩)
    | (refine step_call rfl 65 #[.pointer (some ⟨w.heap.size + 1, 0, none⟩)] ?hr (f1.out _ (by first | exact gd.out | exact g9.out)) ?_
       (case hr => go_simp)
       rintro e5 w5 ⟨rfl, rfl⟩
       refine ⟨_, rfl, ?_⟩)
    | (refine step_call rfl 101 #[.int .i64 (flg xss : Nat), .int .i64 (flg yss : Nat)] ?hr (f2.out _) ?_
       (case hr => go_simp)
       rintro e5 w5 ⟨rfl, rfl⟩
       refine ⟨_, rfl, ?_⟩)
    | (refine step_call rfl 100 #[.slice (some ⟨w9.heap.size, 0, none⟩) 2 2] ?hr (cmpOr_any w9.heap.size 2 d v _ ?h0 ?h1) ?_
       (case hr => go_simp)
       (case h0 => simp)
       (case h1 => simp)
       rintro e5 w5 ⟨rfl, rfl⟩
       refine ⟨_, rfl, ?_⟩))
  all_goals
    go_wp2_with fail
    go_ret
    exact ⟨ret_int hF.out.symm, hB.trans (g9.out.alloc _)⟩
end Go.Proofs.Ytbioelmofceaaaa
