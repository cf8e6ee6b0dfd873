/- FnExactConnectionFault: the program's ConnectionFault and the reference's return the same for all arguments, the arguments stay as they were, and the results are memory of their own. No condition. (Merged: FlgT, FlgX, ConX, LConnectionFault.) -/
import Derived.Test.YtebdfhkimnlglaaDoorFlgE
import Derived.Test.YtebdfhkimnlglaaDoorMgb
import Derived.Test.YtebdfhkimnlglaaDoorMga
import Derived.Test.YtebdfhkimnlglaaDoorLawP
import Derived.Test.YtebdfhkimnlglaaDoorRows
import Derived.Test.YtebdfhkimnlglaaDoorTie
import Derived.Test.YtebdfhkimnlglaaDoorCards
import Derived.ProofKit
import Derived.LaidMore
import Derived.OpenShut
import Derived.Stop.Joined
import Derived.Stop.LaidErr
import Derived.SevenTiedAt
import Derived.Lib.LaidTab
import Derived.MakeChecks
import Derived.Lay
import Derived.Test.YtebdfhkimnlglaaDoorOpen
import Derived.Test.YtebdfhkimnlglaaDoorLawI
import Derived.Test.YtebdfhkimnlglaaDoorOpenS
import Derived.Test.YtebdfhkimnlglaaDoorLawS
import Derived.Test.YtebdfhkimnlglaaDoorLawM
/- FlgT -/
namespace Go.Proofs.YtebdfhkimnlglaaDoor
open Go.RowKit
set_option linter.unusedVariables false
set_option maxRecDepth 100000
open Classical
theorem own_blk0 {w : World} {lo z : Nat} {T : TypeId} (h : w.heap[z]? = some (.cells #[] T (0, 0))) (hz : lo ≤ z) : Own w lo w.heap.size T (some ⟨z, 0, none⟩) 0 0 [] :=
  ⟨blk_own (vs := []) h rfl hz (by simp), fun a ha => by cases ha; exact (Array.getElem?_eq_some_iff.1 h).1⟩
set_option maxHeartbeats 8000000 in
theorem l03Flags_any (R : Nat) (D : Option Addr) (e0 n : Nat) (ps : List Int) (A : Option Addr) (c : Nat) (xss : List (List Int)) (w : World) {lo hi lo' hi' : Nat} (g : RI w lo hi D n ps) (hg : hi ≤ w.heap.size) (h : RS w lo' hi' A n xss) (hhi : hi' ≤ w.heap.size) (hp : PosP (R : Int) ps xss) :
    Calls Tryd.prog 24 #[.agg #[.int .i64 (R : Int), .slice D n e0, .slice A n c]] w fun e' w' => ∃ (L : Option Addr) (nl cl : Nat), e' = .returned (.tuple #[.slice L nl cl, .bool (decide (nl ≤ 400))]) ∧ Lst w' w.heap.size w'.heap.size L nl cl (allFl (R : Int) ps xss) ∧ Below w.heap.size w w' := by
  have hl := g.len
  have hr1 := hp.r1
  have hR := rs_alloc h hhi (.cells #[.int .i64 (R : Int), .slice D n e0, .slice A n c] 29)
  have hG := ri_alloc g hg (.cells #[.int .i64 (R : Int), .slice D n e0, .slice A n c] 29)
  have hB : Below w.heap.size w (w.alloc (.cells #[.int .i64 (R : Int), .slice D n e0, .slice A n c] 29)) := (Below.refl _ _).alloc (Nat.le_refl _) _
  have c0 := al3_0 w (.int .i64 (R : Int)) (.slice D n e0) (.slice A n c) 29 w.heap.size rfl
  have c1 := al3_1 w (.int .i64 (R : Int)) (.slice D n e0) (.slice A n c) 29 w.heap.size rfl
  have c2 := al3_2 w (.int .i64 (R : Int)) (.slice D n e0) (.slice A n c) 29 w.heap.size rfl
  go_enter Tryd.func24, Tryd.ntmps24
  go_upto_region 1 with fail
  obtain ⟨W1, hW⟩ : ∃ W1 : World, w.alloc (.cells #[.int .i64 (R : Int), .slice D n e0, .slice A n c] 29) = W1 := ⟨_, rfl⟩
  have hz1 : W1.heap.size = w.heap.size + 1 := by rw [← hW]; simp
  rw [hW] at hR hG hB c0 c1 c2 ⊢
  clear hW h g
  have hAlv : ∀ wq, Below W1.heap.size W1 wq → Calls Tryd.prog 39 #[.agg #[.int .i64 (R : Int), .slice D n e0, .slice A n c]] wq fun e' w' => ∃ A1, e' = .returned (.slice A1 n n) ∧ Own w' W1.heap.size w'.heap.size 4 A1 n n ((alR (Al (R : Int) ps xss) n).map Value.bool) ∧ Below W1.heap.size W1 w' ∧ Below wq.heap.size wq w' := by
    intro wq hq
    have hqs := hq.size
    refine (l03Alive_any (R : Int) D e0 n ps A c xss wq (hG.below hq (by omega)) (by omega) (hR.below hq (by omega)) (by omega) hp).mono ?_
    rintro e' w' ⟨A1, rfl, o1, f1⟩
    exact ⟨A1, rfl, o1.more hqs (Nat.le_refl _), below_then hq f1 hqs, f1⟩
  have hExt : ∀ (w6 : World) (A6 : Option Addr) (wz : World) (z1 z2 : Nat), Below W1.heap.size W1 w6 → Own w6 W1.heap.size w6.heap.size 4 A6 n n ((alR (Al (R : Int) ps xss) n).map Value.bool) → Below w6.heap.size w6 wz → wz.heap[z1]? = some (.cells #[] 2 (0, 0)) → wz.heap[z2]? = some (.cells #[] 22 (0, 0)) → W1.heap.size ≤ z1 → W1.heap.size ≤ z2 →
      Calls Tryd.prog 38 #[.agg #[.int .i64 (R : Int), .slice D n e0, .slice A n c], .slice A6 n n, .slice (some ⟨z1, 0, none⟩) 0 0, .slice (some ⟨z2, 0, none⟩) 0 0] wz fun e' w' => ∃ (L : Option Addr) (nl cl : Nat), e' = .returned (.slice L nl cl) ∧ Lst w' W1.heap.size w'.heap.size L nl cl (allFl (R : Int) ps xss) ∧ nl ≤ 401 ∧ Below W1.heap.size W1 w' := by
    intro w6 A6 wz z1 z2 hb6 ho6 hbz h1 h2 g1 g2
    have hz6 := hb6.size
    have hbw : Below W1.heap.size W1 wz := below_then hb6 hbz hz6
    have hzz := hbw.size
    have hS := own_blk0 (lo := W1.heap.size) h1 g1
    have hL := own_blk0 (lo := W1.heap.size) h2 g2
    refine (ext_any R D e0 n ps A c xss A6 n hp hl R wz W1.heap.size W1.heap.size (some ⟨z1, 0, none⟩) 0 0 [] (some ⟨z2, 0, none⟩) 0 0 [] (hG.below hbw (by omega)) (hR.below hbw (by omega)) ((ho6.below hbz (Nat.le_refl _)).more (Nat.le_refl _) hbz.size) (by omega) (by omega) (Nat.le_refl _) hzz ⟨by simp, by simp⟩ (by simp) hS ⟨[], hL, RowsOwn.nil⟩ (by simp)).mono ?_
    rintro e' w' ⟨L, nl, cl, rfl, hl2, hgw⟩
    have e1 : cut4 ([] ++ growF (R : Int) ps xss R []) = allFl (R : Int) ps xss := by unfold allFl; rw [Int.toNat_natCast]; rfl
    rw [e1] at hl2
    refine ⟨L, nl, cl, rfl, hl2, by have := hl2.len; have := cut4_len (growF (R : Int) ps xss (R : Int).toNat []); unfold allFl at *; omega, hbw.trans (hgw.base hzz (fun z hz => ?_))⟩
    simp [Value.ownBlock] at hz
    omega
  replace hAlv := Lib.hid hAlv
  replace hExt := Lib.hid hExt
  have Ga0 : ((W1.drew).alloc (.cells #[] 2)).cell? ⟨w.heap.size, 0, none⟩ = some (.int .i64 (R : Int)) := (al_old _ _ _ _ (show w.heap.size < W1.heap.size by omega)).trans c0
  have Ga1 : ((W1.drew).alloc (.cells #[] 2)).cell? ⟨w.heap.size, 1, none⟩ = some (.slice D n e0) := (al_old _ _ _ _ (show w.heap.size < W1.heap.size by omega)).trans c1
  have Ga2 : ((W1.drew).alloc (.cells #[] 2)).cell? ⟨w.heap.size, 2, none⟩ = some (.slice A n c) := (al_old _ _ _ _ (show w.heap.size < W1.heap.size by omega)).trans c2
  have Gb0 : ((W1.drew).alloc (.cells #[] 22)).cell? ⟨w.heap.size, 0, none⟩ = some (.int .i64 (R : Int)) := (al_old _ _ _ _ (show w.heap.size < W1.heap.size by omega)).trans c0
  have Gb1 : ((W1.drew).alloc (.cells #[] 22)).cell? ⟨w.heap.size, 1, none⟩ = some (.slice D n e0) := (al_old _ _ _ _ (show w.heap.size < W1.heap.size by omega)).trans c1
  have Gb2 : ((W1.drew).alloc (.cells #[] 22)).cell? ⟨w.heap.size, 2, none⟩ = some (.slice A n c) := (al_old _ _ _ _ (show w.heap.size < W1.heap.size by omega)).trans c2
  have Gc0 : (((W1.drew).alloc (.cells #[] 2)).alloc (.cells #[] 22)).cell? ⟨w.heap.size, 0, none⟩ = some (.int .i64 (R : Int)) := (al_old _ _ _ _ (by simp; omega)).trans ((al_old _ _ _ _ (show w.heap.size < W1.heap.size by omega)).trans c0)
  have Gc1 : (((W1.drew).alloc (.cells #[] 2)).alloc (.cells #[] 22)).cell? ⟨w.heap.size, 1, none⟩ = some (.slice D n e0) := (al_old _ _ _ _ (by simp; omega)).trans ((al_old _ _ _ _ (show w.heap.size < W1.heap.size by omega)).trans c1)
  have Gc2 : (((W1.drew).alloc (.cells #[] 2)).alloc (.cells #[] 22)).cell? ⟨w.heap.size, 2, none⟩ = some (.slice A n c) := (al_old _ _ _ _ (by simp; omega)).trans ((al_old _ _ _ _ (show w.heap.size < W1.heap.size by omega)).trans c2)
  have Gd0 : (((W1.drew).alloc (.cells #[] 22)).alloc (.cells #[] 2)).cell? ⟨w.heap.size, 0, none⟩ = some (.int .i64 (R : Int)) := (al_old _ _ _ _ (by simp; omega)).trans ((al_old _ _ _ _ (show w.heap.size < W1.heap.size by omega)).trans c0)
  have Gd1 : (((W1.drew).alloc (.cells #[] 22)).alloc (.cells #[] 2)).cell? ⟨w.heap.size, 1, none⟩ = some (.slice D n e0) := (al_old _ _ _ _ (by simp; omega)).trans ((al_old _ _ _ _ (show w.heap.size < W1.heap.size by omega)).trans c1)
  have Gd2 : (((W1.drew).alloc (.cells #[] 22)).alloc (.cells #[] 2)).cell? ⟨w.heap.size, 2, none⟩ = some (.slice A n c) := (al_old _ _ _ _ (by simp; omega)).trans ((al_old _ _ _ _ (show w.heap.size < W1.heap.size by omega)).trans c2)
  go_region_law (first
    | (refine step_call rfl 39 #[.agg #[.int .i64 (R : Int), .slice D n e0, .slice A n c]] (by go_simp) (hAlv.out _ (by first | exact below_drew (Below.refl _ _) | exact (below_drew (Below.refl _ _)).alloc (Nat.le_refl _) _ | exact ((below_drew (Below.refl _ _)).alloc (Nat.le_refl _) _).alloc (by simp) _)) ?_; rintro e6 w6 ⟨A6, rfl, o6, f6, f6'⟩; refine ⟨_, rfl, ?_⟩; have hz6 := f6.size; have hz6' := f6'.size; try simp at hz6'; have D0 := (f6.cell (p := ⟨w.heap.size, 0, none⟩) (by simp; omega)).trans c0; have D1 := (f6.cell (p := ⟨w.heap.size, 1, none⟩) (by simp; omega)).trans c1; have D2 := (f6.cell (p := ⟨w.heap.size, 2, none⟩) (by simp; omega)).trans c2; have Ea0 : ((w6).alloc (.cells #[] 2)).cell? ⟨w.heap.size, 0, none⟩ = some (.int .i64 (R : Int)) := (al_old _ _ _ _ (by omega)).trans D0; have Ea1 : ((w6).alloc (.cells #[] 2)).cell? ⟨w.heap.size, 1, none⟩ = some (.slice D n e0) := (al_old _ _ _ _ (by omega)).trans D1; have Ea2 : ((w6).alloc (.cells #[] 2)).cell? ⟨w.heap.size, 2, none⟩ = some (.slice A n c) := (al_old _ _ _ _ (by omega)).trans D2; have Eb0 : ((w6).alloc (.cells #[] 22)).cell? ⟨w.heap.size, 0, none⟩ = some (.int .i64 (R : Int)) := (al_old _ _ _ _ (by omega)).trans D0; have Eb1 : ((w6).alloc (.cells #[] 22)).cell? ⟨w.heap.size, 1, none⟩ = some (.slice D n e0) := (al_old _ _ _ _ (by omega)).trans D1; have Eb2 : ((w6).alloc (.cells #[] 22)).cell? ⟨w.heap.size, 2, none⟩ = some (.slice A n c) := (al_old _ _ _ _ (by omega)).trans D2; have Ec0 : (((w6).alloc (.cells #[] 2)).alloc (.cells #[] 22)).cell? ⟨w.heap.size, 0, none⟩ = some (.int .i64 (R : Int)) := (al_old _ _ _ _ (by simp; omega)).trans ((al_old _ _ _ _ (by omega)).trans D0); have Ec1 : (((w6).alloc (.cells #[] 2)).alloc (.cells #[] 22)).cell? ⟨w.heap.size, 1, none⟩ = some (.slice D n e0) := (al_old _ _ _ _ (by simp; omega)).trans ((al_old _ _ _ _ (by omega)).trans D1); have Ec2 : (((w6).alloc (.cells #[] 2)).alloc (.cells #[] 22)).cell? ⟨w.heap.size, 2, none⟩ = some (.slice A n c) := (al_old _ _ _ _ (by simp; omega)).trans ((al_old _ _ _ _ (by omega)).trans D2); have Ed0 : (((w6).alloc (.cells #[] 22)).alloc (.cells #[] 2)).cell? ⟨w.heap.size, 0, none⟩ = some (.int .i64 (R : Int)) := (al_old _ _ _ _ (by simp; omega)).trans ((al_old _ _ _ _ (by omega)).trans D0); have Ed1 : (((w6).alloc (.cells #[] 22)).alloc (.cells #[] 2)).cell? ⟨w.heap.size, 1, none⟩ = some (.slice D n e0) := (al_old _ _ _ _ (by simp; omega)).trans ((al_old _ _ _ _ (by omega)).trans D1); have Ed2 : (((w6).alloc (.cells #[] 22)).alloc (.cells #[] 2)).cell? ⟨w.heap.size, 2, none⟩ = some (.slice A n c) := (al_old _ _ _ _ (by simp; omega)).trans ((al_old _ _ _ _ (by omega)).trans D2))
    | (refine step_call rfl 38 #[.agg #[.int .i64 (R : Int), .slice D n e0, .slice A n c], .slice A6 n n, .slice (some ⟨w6.heap.size, 0, none⟩) 0 0, .slice (some ⟨w6.heap.size + 1, 0, none⟩) 0 0] (by go_simp) (hExt.out w6 A6 _ _ _ f6 o6 (((Below.refl _ _).alloc (Nat.le_refl _) _).alloc (by simp) _) ((Below.heap_alloc _ _ _ (by first | omega | (simp; done) | (simp; omega))).trans (heap_new _ _ _ (by first | omega | (simp; done) | (simp; omega)))) (heap_new _ _ _ (by first | omega | (simp; done) | (simp; omega))) (by omega) (by omega)) ?_; rintro e8 w8 ⟨L8, n8, c8, rfl, l8, hn8, f8⟩; refine ⟨_, rfl, ?_⟩)
    | (refine step_call rfl 38 #[.agg #[.int .i64 (R : Int), .slice D n e0, .slice A n c], .slice A6 n n, .slice (some ⟨w6.heap.size + 1, 0, none⟩) 0 0, .slice (some ⟨w6.heap.size, 0, none⟩) 0 0] (by go_simp) (hExt.out w6 A6 _ _ _ f6 o6 (((Below.refl _ _).alloc (Nat.le_refl _) _).alloc (by simp) _) (heap_new _ _ _ (by first | omega | (simp; done) | (simp; omega))) ((Below.heap_alloc _ _ _ (by first | omega | (simp; done) | (simp; omega))).trans (heap_new _ _ _ (by first | omega | (simp; done) | (simp; omega)))) (by omega) (by omega)) ?_; rintro e8 w8 ⟨L8, n8, c8, rfl, l8, hn8, f8⟩; refine ⟨_, rfl, ?_⟩)
    | (refine step_call rfl 38 #[.agg #[.int .i64 (R : Int), .slice D n e0, .slice A n c], .slice A6 n n, .slice (some ⟨w.heap.size + 1, 0, none⟩) 0 0, .slice (some ⟨w6.heap.size, 0, none⟩) 0 0] (by go_simp) (hExt.out w6 A6 _ _ _ f6 o6 ((Below.refl _ _).alloc (Nat.le_refl _) _) ((Below.heap_alloc _ _ _ (by first | omega | (simp; done) | (simp; omega))).trans ((f6'.block _ (by first | omega | (simp; done) | (simp; omega))).trans (heap_new _ _ _ (by first | omega | (simp; done) | (simp; omega))))) (heap_new _ _ _ (by first | omega | (simp; done) | (simp; omega))) (by omega) (by omega)) ?_; rintro e8 w8 ⟨L8, n8, c8, rfl, l8, hn8, f8⟩; refine ⟨_, rfl, ?_⟩)
    | (refine step_call rfl 38 #[.agg #[.int .i64 (R : Int), .slice D n e0, .slice A n c], .slice A6 n n, .slice (some ⟨w6.heap.size, 0, none⟩) 0 0, .slice (some ⟨w.heap.size + 1, 0, none⟩) 0 0] (by go_simp) (hExt.out w6 A6 _ _ _ f6 o6 ((Below.refl _ _).alloc (Nat.le_refl _) _) (heap_new _ _ _ (by first | omega | (simp; done) | (simp; omega))) ((Below.heap_alloc _ _ _ (by first | omega | (simp; done) | (simp; omega))).trans ((f6'.block _ (by first | omega | (simp; done) | (simp; omega))).trans (heap_new _ _ _ (by first | omega | (simp; done) | (simp; omega))))) (by omega) (by omega)) ?_; rintro e8 w8 ⟨L8, n8, c8, rfl, l8, hn8, f8⟩; refine ⟨_, rfl, ?_⟩)
    | (refine step_call rfl 38 #[.agg #[.int .i64 (R : Int), .slice D n e0, .slice A n c], .slice A6 n n, .slice (some ⟨w.heap.size + 1, 0, none⟩) 0 0, .slice (some ⟨w.heap.size + 1 + 1, 0, none⟩) 0 0] (by go_simp) (hExt.out w6 A6 _ _ _ f6 o6 (Below.refl _ _) ((f6'.block _ (by first | omega | (simp; done) | (simp; omega))).trans ((Below.heap_alloc _ _ _ (by first | omega | (simp; done) | (simp; omega))).trans (heap_new _ _ _ (by first | omega | (simp; done) | (simp; omega))))) ((f6'.block _ (by first | omega | (simp; done) | (simp; omega))).trans (heap_new _ _ _ (by first | omega | (simp; done) | (simp; omega)))) (by omega) (by omega)) ?_; rintro e8 w8 ⟨L8, n8, c8, rfl, l8, hn8, f8⟩; refine ⟨_, rfl, ?_⟩)
    | (refine step_call rfl 38 #[.agg #[.int .i64 (R : Int), .slice D n e0, .slice A n c], .slice A6 n n, .slice (some ⟨w.heap.size + 1 + 1, 0, none⟩) 0 0, .slice (some ⟨w.heap.size + 1, 0, none⟩) 0 0] (by go_simp) (hExt.out w6 A6 _ _ _ f6 o6 (Below.refl _ _) ((f6'.block _ (by first | omega | (simp; done) | (simp; omega))).trans (heap_new _ _ _ (by first | omega | (simp; done) | (simp; omega)))) ((f6'.block _ (by first | omega | (simp; done) | (simp; omega))).trans ((Below.heap_alloc _ _ _ (by first | omega | (simp; done) | (simp; omega))).trans (heap_new _ _ _ (by first | omega | (simp; done) | (simp; omega))))) (by omega) (by omega)) ?_; rintro e8 w8 ⟨L8, n8, c8, rfl, l8, hn8, f8⟩; refine ⟨_, rfl, ?_⟩))
  all_goals
    have hd : Hid (decide ((n8 : Int) ≤ 400) = decide (n8 ≤ 400)) := Lib.hid (decide_eq_decide.2 (by omega))
    go_wp2_with fail
    go_ret2
    refine ⟨L8, n8, c8, ?_, l8.base (by omega), hB.trans (f8.mono (by omega))⟩
    first | rfl | (rw [hd.out]; done) | (simp; done) | (simp; omega)
end Go.Proofs.YtebdfhkimnlglaaDoor
/- FlgX -/
namespace Go.Proofs.YtebdfhkimnlglaaDoor
open Go.RowKit
set_option linter.unusedVariables false
set_option maxRecDepth 100000
open Classical
set_option maxHeartbeats 4000000 in
theorem s_FlagsOf_any (w : World) (r : Int) (hr : -9223372036854775808 ≤ r ∧ r ≤ 9223372036854775807) (D : Option Addr) (k e : Nat) (ps : List Int) {lo hi : Nat} (g : RI w lo hi D k ps) (hg : hi ≤ w.heap.size) (hke : k ≤ e) (A : Option Addr) (n c : Nat) (xss : List (List Int)) {lo' hi' : Nat} (h : RS w lo' hi' A n xss) (hhi : hi' ≤ w.heap.size) (hnc : n ≤ c) :
    Calls Tryd.prog 15 #[.agg #[.int .i64 r, .slice D k e, .slice A n c]] w fun e' w' => ∃ (A1 : Option Addr) (n1 c1 : Nat) (zss : List (List Int)) (code : Int), e' = .returned (.tuple #[.slice A1 n1 c1, .int .i64 code]) ∧ Hid ((zss, code) = flagF r ps xss) ∧ OwnS w' w.heap.size w'.heap.size 22 2 A1 n1 c1 zss ∧ n1 + numsIn zss ≤ 1048576 ∧ Below w.heap.size w w' := by
  have hl := g.len
  have hl1 := h.len
  have hm := g.max
  have hm1 := h.max
  have hR := rs_alloc h hhi (.cells #[.int .i64 r, .slice D k e, .slice A n c] 29)
  have hG := ri_alloc g hg (.cells #[.int .i64 r, .slice D k e, .slice A n c] 29)
  have hB : Below w.heap.size w (w.alloc (.cells #[.int .i64 r, .slice D k e, .slice A n c] 29)) := (Below.refl _ _).alloc (Nat.le_refl _) _
  have p0 : (w.alloc (.cells #[.int .i64 r, .slice D k e, .slice A n c] 29)).heap[w.heap.size]? = some (.cells #[.int .i64 r, .slice D k e, .slice A n c] 29 (0, 0)) := heap_new _ _ _ rfl
  replace p0 := Lib.hid p0
  cases hM : isPosB r ps xss with
  | false =>
    have hF : flagF r ps xss = ([], 1) := by unfold flagF; rw [hM]; rfl
    replace hF := Lib.hid hF
    replace hM := Lib.hid hM
    replace hl := Lib.hid hl
    replace hl1 := Lib.hid hl1
    go_enter Tryd.func15, Tryd.ntmps15
    go_wp2_with fail
    obtain ⟨W1, hW⟩ : ∃ W1 : World, (w.alloc (.cells #[.int .i64 r, .slice D k e, .slice A n c] 29)) = W1 := ⟨_, rfl⟩
    have hz1 : W1.heap.size = w.heap.size + 1 := by rw [← hW]; simp
    rw [hW] at hR hG hB p0 ⊢
    clear hW h g
    ((with_reducible refine (l03Is_any r hr D k e ps A n c xss _ hG (by omega) hR (by omega)).mono ?_); rintro e2 w2 ⟨rfl, f2⟩)
    rw [hM.out]
    have y2 := f2.size
    go_wp2_with fail
    go_ret2
    exact ⟨_, 0, _, [], _, rfl, Lib.hid hF.out.symm, OwnS.nil, by simp [numsIn], hB.trans (f2.mono (by omega))⟩
  | true =>
    have hp := isPosB_iff.1 hM
    have hnk : n = k := by have := hp.len; omega
    subst hnk
    have hr15 : 1 ≤ r ∧ r ≤ 5 := ⟨hp.r1, hp.r5⟩
    have hF : flagF r ps xss = if 400 < (allFl r ps xss).length then ([], 3) else (allFl r ps xss, 0) := by unfold flagF; rw [if_pos hM]
    have hnum := allFl_nums (r := r) (ps := ps) (xss := xss) hr15.2
    obtain ⟨R, rfl⟩ : ∃ R : Nat, r = R := ⟨r.toNat, by omega⟩
    replace hF := Lib.hid hF
    replace hM := Lib.hid hM
    replace hl := Lib.hid hl
    replace hl1 := Lib.hid hl1
    replace hp := Lib.hid hp
    replace hnum := Lib.hid hnum
    go_enter Tryd.func15, Tryd.ntmps15
    go_wp2_with fail
    obtain ⟨W1, hW⟩ : ∃ W1 : World, (w.alloc (.cells #[.int .i64 (R : Int), .slice D n e, .slice A n c] 29)) = W1 := ⟨_, rfl⟩
    have hz1 : W1.heap.size = w.heap.size + 1 := by rw [← hW]; simp
    rw [hW] at hR hG hB p0 ⊢
    clear hW h g
    ((with_reducible refine (l03Is_any (R : Int) hr D n e ps A n c xss _ hG (by omega) hR (by omega)).mono ?_); rintro e2 w2 ⟨rfl, f2⟩)
    rw [hM.out]
    have y2 := f2.size
    have p2 := (f2.block _ (by omega)).trans p0.out
    have a0 : w2.cell? ⟨w.heap.size, 0, none⟩ = some (.int .i64 (R : Int)) := by rw [cell_of_row _ _ _ _ _ _ p2]; rfl
    have a1 : w2.cell? ⟨w.heap.size, 1, none⟩ = some (.slice D n e) := by rw [cell_of_row _ _ _ _ _ _ p2]; rfl
    have a2 : w2.cell? ⟨w.heap.size, 2, none⟩ = some (.slice A n c) := by rw [cell_of_row _ _ _ _ _ _ p2]; rfl
    replace p2 := Lib.hid p2
    have hfl := l03Flags_any R D e n ps A c xss w2 (hG.below f2 (by omega)) (by omega) (hR.below f2 (by omega)) (by omega) hp.out
    go_wp2_with fail
    ((with_reducible refine hfl.mono ?_); rintro e3 w3 ⟨L, nl, cl, rfl, hL, f3⟩)
    clear hfl
    have y3 := f3.size
    have hn8 := hL.len
    have hB3 : Below w.heap.size w w3 := hB.trans ((f2.mono (by omega)).trans (f3.mono (by omega)))
    obtain ⟨vs8, hH8, hR8⟩ := hL
    have hOS : OwnS w3 w.heap.size w3.heap.size 22 2 L nl cl (allFl (R : Int) ps xss) := ⟨vs8, hH8.more (by omega) (Nat.le_refl _), hR8.more (by omega) (Nat.le_refl _)⟩
    replace hn8 := Lib.hid hn8
    clear hH8 hR8
    by_cases h4 : nl ≤ 400
    · have hF' : Hid ((allFl (R : Int) ps xss, (0 : Int)) = flagF (R : Int) ps xss) := Lib.hid (by rw [hF.out, if_neg (by rw [hn8.out]; omega)])
      have hnm : nl + numsIn (allFl (R : Int) ps xss) ≤ 1048576 := by have := hnum.out; rw [hn8.out] at this; exact this
      rw [decide_eq_true h4]
      go_wp2_with fail
      go_ret2
      exact ⟨L, nl, cl, _, _, rfl, hF', hOS, hnm, hB3⟩
    · have hF' : Hid ((([] : List (List Int)), (3 : Int)) = flagF (R : Int) ps xss) := Lib.hid (by rw [hF.out, if_pos (by rw [hn8.out]; omega)])
      rw [decide_eq_false h4]
      go_wp2_with fail
      go_ret2
      exact ⟨_, 0, _, [], _, rfl, hF', OwnS.nil, by simp [numsIn], hB3⟩
end Go.Proofs.YtebdfhkimnlglaaDoor
/- ConX -/
namespace Go.Proofs.YtebdfhkimnlglaaDoor
open Go.RowKit
set_option linter.unusedVariables false
set_option maxRecDepth 100000
open Classical
/-- what ConnectionFault returns -/
noncomputable def conF (r : Int) (ps : List Int) (xss : List (List Int)) : List Int × Int :=
  if (flagF r ps xss).2 = 0 then (if parL (flagF r ps xss).1 r.toNat = [] then ([], 4) else (parL (flagF r ps xss).1 r.toNat, 0)) else ([], (flagF r ps xss).2)
theorem flOk_of {r : Int} {ps : List Int} {xss zss : List (List Int)} (h : (zss, (0 : Int)) = flagF r ps xss) : FlOk r.toNat zss := by
  unfold flagF at h
  split at h
  · rename_i hP
    have hp := isPosB_iff.1 hP
    split at h
    · simp at h
    · rename_i h4
      have e : zss = allFl r ps xss := (Prod.mk.inj h).1
      subst e
      have hg := growF_nd r ps xss r.toNat [] ⟨by simp, by simp⟩
      have hn := hp.n5
      have h5 := hp.r5
      refine ⟨hg.1.sublist (List.take_sublist _ _), fun t ht => ?_, fun t ht x hx => ?_, by omega, by omega⟩
      · have := growF_len r ps xss r.toNat [] t (List.mem_of_mem_take ht)
        simpa using this
      · have := hg.2 t (List.mem_of_mem_take ht) x hx
        exact ⟨by omega, by omega⟩
  · simp at h
theorem parL_len (fl : List (List Int)) (R : Nat) : (parL fl R).length ≤ 2 := by
  unfold parL
  split
  · rename_i hx
    rcases hx.choose_spec with ⟨_, e⟩ | ⟨a, b, _, _, _, _, e⟩
    · rw [e]; simp
    · rw [e]; simp
  · simp
theorem conF_code {r : Int} {ps : List Int} {xss zss : List (List Int)} {code : Int} (h : (zss, code) = flagF r ps xss) (hc : code ≠ 0) : conF r ps xss = ([], code) := by
  unfold conF; rw [← h, if_neg hc]
theorem conF_none {r : Int} {ps : List Int} {xss zss : List (List Int)} (h : (zss, (0 : Int)) = flagF r ps xss) (hp : parL zss r.toNat = []) : conF r ps xss = ([], 4) := by
  unfold conF; rw [← h, if_pos rfl, if_pos hp]
theorem conF_some {r : Int} {ps : List Int} {xss zss : List (List Int)} (h : (zss, (0 : Int)) = flagF r ps xss) (hp : parL zss r.toNat ≠ []) : conF r ps xss = (parL zss r.toNat, 0) := by
  unfold conF; rw [← h, if_pos rfl, if_neg hp]
theorem l03Parted_any (fl : List (List Int)) (R : Nat) (hf : FlOk R fl) (A : Option Addr) (c : Nat) (w : World) {lo hi : Nat} (h : RS w lo hi A fl.length fl) (hhi : hi ≤ w.heap.size) :
    Calls Tryd.prog 16 #[.slice A fl.length c] w fun e w' => ∃ (A1 : Option Addr) (n1 c1 : Nat), e = .returned (.slice A1 n1 c1) ∧ Own w' w.heap.size w'.heap.size 2 A1 n1 c1 ((parL fl R).map (Value.int .i64)) ∧ Below w.heap.size w w' := by
  by_cases h0 : 0 < fl.length
  · exact l03Parted_any0 fl R hf (.inl h0) A c w h hhi
  · obtain rfl : fl = [] := List.eq_nil_of_length_eq_zero (by omega)
    rw [parL_nil R, ← parL_nil 0]
    exact l03Parted_any0 [] 0 FlOk.nil0 (.inr rfl) A c w h hhi
set_option maxHeartbeats 4000000 in
theorem s_ConnectionFault_any (w : World) (r : Int) (hr : -9223372036854775808 ≤ r ∧ r ≤ 9223372036854775807) (D : Option Addr) (k e : Nat) (ps : List Int) {lo hi : Nat} (g : RI w lo hi D k ps) (hg : hi ≤ w.heap.size) (hke : k ≤ e) (A : Option Addr) (n c : Nat) (xss : List (List Int)) {lo' hi' : Nat} (h : RS w lo' hi' A n xss) (hhi : hi' ≤ w.heap.size) (hnc : n ≤ c) :
    Calls Tryd.prog 5 #[.agg #[.int .i64 r, .slice D k e, .slice A n c]] w fun e' w' => ∃ (A1 : Option Addr) (n1 c1 : Nat) (zs : List Int) (code : Int), e' = .returned (.tuple #[.slice A1 n1 c1, .int .i64 code]) ∧ Hid ((zs, code) = conF r ps xss) ∧ Own w' w.heap.size w'.heap.size 2 A1 n1 c1 (zs.map (Value.int .i64)) ∧ n1 ≤ 1048576 ∧ Below w.heap.size w w' := by
  have hR := rs_alloc h hhi (.cells #[.int .i64 r, .slice D k e, .slice A n c] 29)
  have hG := ri_alloc g hg (.cells #[.int .i64 r, .slice D k e, .slice A n c] 29)
  have hB : Below w.heap.size w (w.alloc (.cells #[.int .i64 r, .slice D k e, .slice A n c] 29)) := (Below.refl _ _).alloc (Nat.le_refl _) _
  go_enter Tryd.func5, Tryd.ntmps5
  go_wp2_with fail
  obtain ⟨W1, hW⟩ : ∃ W1 : World, (w.alloc (.cells #[.int .i64 r, .slice D k e, .slice A n c] 29)) = W1 := ⟨_, rfl⟩
  have hz1 : w.heap.size ≤ W1.heap.size := by rw [← hW]; simp
  have hg1 : hi ≤ W1.heap.size := by omega
  have hg2 : hi' ≤ W1.heap.size := by omega
  rw [hW] at hR hG hB ⊢
  clear hW h g
  ((with_reducible refine (s_FlagsOf_any W1 r hr D k e ps hG (by first | exact hg1 | omega) hke A n c xss hR (by first | exact hg2 | omega) hnc).mono ?_); rintro e2 w2 ⟨A1, n1, c1, zss, code, rfl, hF, ho, hnum, f2⟩)
  have y2 := f2.size
  have hB2 := hB.trans (f2.mono hz1)
  by_cases hc : code = 0
  · subst hc
    have hf := flOk_of hF.out
    have hrs := ho.rs
    have hz := hrs.len
    subst hz
    have hPt := l03Parted_any zss r.toNat hf A1 c1 w2 hrs (Nat.le_refl _)
    have hpl := parL_len zss r.toNat
    replace hf := Lib.hid hf
    go_wp2_with fail
    ((with_reducible refine hPt.mono ?_); rintro e3 w3 ⟨A3, n3, c3, rfl, o3, f3⟩)
    clear hPt
    have hn3 := o3.lenI
    have hB3 := hB2.trans (f3.mono (by omega))
    by_cases hp : parL zss r.toNat = []
    · have hF2 := Lib.hid (conF_none hF.out hp).symm
      have h30 : 0 = n3 := by rw [← hn3, hp]; rfl
      subst h30
      replace hp := Lib.hid hp
      replace hn3 := Lib.hid hn3
      clear hpl
      go_wp2_with fail
      go_ret2
      exact ⟨_, 0, _, [], _, rfl, hF2, Own.nil, by omega, hB3⟩
    · have hF2 := Lib.hid (conF_some hF.out hp).symm
      have h30 : 0 < n3 := by rw [← hn3]; exact List.length_pos_iff.2 hp
      have h31 : n3 ≤ 2 := by omega
      have d0 : ((n3 : Int) == 0) = false := by simp; omega
      replace hp := Lib.hid hp
      replace hn3 := Lib.hid hn3
      clear hpl
      go_wp2_with fail
      go_ret2
      exact ⟨_, n3, _, _, _, rfl, hF2, o3.more (by omega) (Nat.le_refl _), by omega, hB3⟩
  · have hF2 := Lib.hid (conF_code hF.out hc).symm
    have d0 : (code != 0) = true := by simpa using hc
    replace hc := Lib.hid hc
    go_wp2_with fail
    go_ret2
    exact ⟨_, 0, _, [], _, rfl, hF2, Own.nil, by omega, hB2⟩
set_option maxHeartbeats 4000000 in
theorem i_ConnectionFault_any (w : World) (r : Int) (hr : -9223372036854775808 ≤ r ∧ r ≤ 9223372036854775807) (D : Option Addr) (k e : Nat) (ps : List Int) {lo hi : Nat} (g : RI w lo hi D k ps) (hg : hi ≤ w.heap.size) (hke : k ≤ e) (A : Option Addr) (n c : Nat) (xss : List (List Int)) {lo' hi' : Nat} (h : RS w lo' hi' A n xss) (hhi : hi' ≤ w.heap.size) (hnc : n ≤ c) {B : Nat} (hT : T10 B w) (hBw : B ≤ w.heap.size) :
    Calls Tryd.prog 7 #[.agg #[.int .i64 r, .slice D k e, .slice A n c]] w fun e' w' => ∃ (A1 : Option Addr) (n1 c1 : Nat) (zs : List Int) (code : Int), e' = .returned (.tuple #[.slice A1 n1 c1, .int .i64 code]) ∧ Hid ((zs, code) = conF r ps xss) ∧ Own w' w.heap.size w'.heap.size 2 A1 n1 c1 (zs.map (Value.int .i64)) ∧ n1 ≤ 1048576 ∧ Below w.heap.size w w' := by
  have hR := rs_alloc h hhi (.cells #[.int .i64 r, .slice D k e, .slice A n c] 29)
  have hG := ri_alloc g hg (.cells #[.int .i64 r, .slice D k e, .slice A n c] 29)
  have hB : Below w.heap.size w (w.alloc (.cells #[.int .i64 r, .slice D k e, .slice A n c] 29)) := (Below.refl _ _).alloc (Nat.le_refl _) _
  have hnil0 := fun wx : World => Lib.run_eql_slice_nil (P := Tryd.prog) wx 22 2 none 0 0 0 0 Tryd.underlying22
  have hnil1 := fun (g : Nat) (wx : World) => Lib.run_eql_slice_nil (P := Tryd.prog) wx 22 2 (some ⟨g, 0, none⟩) 2 2 0 0 Tryd.underlying22
  replace hnil0 := Lib.hid hnil0
  replace hnil1 := Lib.hid hnil1
  go_enter Tryd.func7, Tryd.ntmps7
  go_wp2_with fail
  obtain ⟨W1, hW⟩ : ∃ W1 : World, (w.alloc (.cells #[.int .i64 r, .slice D k e, .slice A n c] 29)) = W1 := ⟨_, rfl⟩
  have hz1 : w.heap.size ≤ W1.heap.size := by rw [← hW]; simp
  have hg1 : hi ≤ W1.heap.size := by omega
  have hg2 : hi' ≤ W1.heap.size := by omega
  rw [hW] at hR hG hB ⊢
  clear hW h g
  ((with_reducible refine (flagsOf_any W1 r hr D k e ps hG (by first | exact hg1 | omega) hke A n c xss hR (by first | exact hg2 | omega) hnc).mono ?_); rintro e2 w2 ⟨A1, n1, c1, zss, code, rfl, hF, ho, hnum, f2⟩)
  have y2 := f2.size
  have hB2 := hB.trans (f2.mono hz1)
  by_cases hc : code = 0
  · subst hc
    have hf := flOk_of hF.out
    have hrs := ho.rs
    have hz := hrs.len
    subst hz
    have hPt := connectionFault_any zss r.toNat hf A1 c1 w2 hrs (Nat.le_refl _) (hT.on (hB2.mono hBw)) (by omega)
    replace hf := Lib.hid hf
    go_wp2_with fail
    ((with_reducible refine hPt.mono ?_); rintro e3 w3 ⟨v, rfl, hv, f3⟩)
    clear hPt
    have hB3 := hB2.trans (f3.mono (by omega))
    by_cases hp : parL zss r.toNat = []
    · have hF2 := Lib.hid (conF_none hF.out hp).symm
      obtain rfl := hv.out.1 hp
      clear hv
      have hnil := hnil0.out
      replace hp := Lib.hid hp
      go_wp2_with fail
      go_ret2
      exact ⟨_, 0, _, [], _, rfl, hF2, Own.nil, by omega, hB3⟩
    · have hF2 := Lib.hid (conF_some hF.out hp).symm
      obtain ⟨g3, rfl, o3⟩ := hv.out.2 hp
      clear hv
      have hnil := hnil1.out g3
      replace hp := Lib.hid hp
      go_wp2_with fail
      go_ret2
      exact ⟨_, 2, _, _, _, rfl, hF2, o3.more (by omega) (Nat.le_refl _), by omega, hB3⟩
  · have hF2 := Lib.hid (conF_code hF.out hc).symm
    have d0 : (code != 0) = true := by simpa using hc
    replace hc := Lib.hid hc
    go_wp2_with fail
    go_ret2
    exact ⟨_, 0, _, [], _, rfl, hF2, Own.nil, by omega, hB2⟩
end Go.Proofs.YtebdfhkimnlglaaDoor
/- LConnectionFault -/
namespace Go.Proofs.YtebdfhkimnlglaaDoor.fnExactConnectionFault
open Go.ChangeShapes Go.WideShapes Go.ChangeAt Go.RowKit
open Go.ChangeMaps (open_string shut_string)
set_option linter.unusedVariables false
theorem own : ownKnob Tryd.prog.godebug = none := by kernel_rfl
theorem laidOut : laidOutB Tryd.prog = true := by kernel_rfl
/-- what the condition gives the walk: the table of the powers of ten -/
theorem t10 {W : World} (h : laidMetH Tryd.prog Rows.fnExactConnectionFaultRow.laid W) : T10 W.heap.size W := by
  rw [MakeChecks.laidMetH_plain _ _ _ (by kernel_rfl)] at h
  exact Lib.tabBelow_of_tabIs (Lib.tabIs_of_head (g := 0) (t := 95) (e := 48) (n := 20) (by kernel_rfl) (by kernel_rfl) Tryd.underlying95 Tryd.underlying48 (by kernel_rfl) (by kernel_rfl) h.tail.tail)
set_option maxRecDepth 100000 in
set_option maxHeartbeats 8000000 in
theorem walk (r0 : Int) (d0 : Option Addr) (k0 e0 : Nat) (ps0 : List Int) (a0 : Option Addr) (n0 c0 : Nat) (xss0 : List (List Int)) (w : World) (br : I64 r0) (g0 : RI w 0 w.heap.size d0 k0 ps0) (bg : ∀ x ∈ ps0, I64 x) (h0 : RS w 0 w.heap.size a0 n0 xss0) (b0 : ∀ xs ∈ xss0, ∀ x ∈ xs, I64 x) (hTw : T10 w.heap.size w) :
    Calls Tryd.prog 3 #[.agg #[.int .i64 r0, .slice d0 k0 e0, .slice a0 n0 c0]] w fun e w' => e = .returned (.bool true) ∧ Below w.heap.size w w' := by
  have m0 := h0.max
  have mg := g0.max
  have qr := br; unfold I64 at qr
  have hR := rs_alloc h0 (Nat.le_refl _) (.cells #[.int .i64 r0, .slice d0 k0 e0, .slice a0 n0 c0] 25)
  have hG : RI (w.alloc (.cells #[.int .i64 r0, .slice d0 k0 e0, .slice a0 n0 c0] 25)) 0 w.heap.size d0 k0 ps0 := g0.keep (same_alloc w _ _ _ (Nat.le_refl _))
  have hC0 : (w.alloc (.cells #[.int .i64 r0, .slice d0 k0 e0, .slice a0 n0 c0] 25)).cell? ⟨w.heap.size, 0, none⟩ = some (.int .i64 r0) := by simp
  have hC1 : (w.alloc (.cells #[.int .i64 r0, .slice d0 k0 e0, .slice a0 n0 c0] 25)).cell? ⟨w.heap.size, 1, none⟩ = some (.slice d0 k0 e0) := by simp
  have hC2 : (w.alloc (.cells #[.int .i64 r0, .slice d0 k0 e0, .slice a0 n0 c0] 25)).cell? ⟨w.heap.size, 2, none⟩ = some (.slice a0 n0 c0) := by simp
  have hB : Below w.heap.size w (w.alloc (.cells #[.int .i64 r0, .slice d0 k0 e0, .slice a0 n0 c0] 25)) := (Below.refl _ _).alloc (Nat.le_refl _) _
  have hTT := hTw.on hB
  by_cases s0 : k0 + (n0 + numsIn xss0) ≤ 1048576
  · skip
    have z0 := leftOf_pos s0
    replace z0 := Lib.hid z0
    go_enter Tryd.func3, Tryd.ntmps3
    go_wp2_with fail
    obtain ⟨W1, hW⟩ : ∃ W1 : World, (w.alloc (.cells #[.int .i64 r0, .slice d0 k0 e0, .slice a0 n0 c0] 25)) = W1 := ⟨_, rfl⟩
    have hz1 : W1.heap.size = w.heap.size + 1 := by rw [← hW]; simp
    rw [hW] at hTT hR hG hC0 hC1 hC2 hB ⊢
    clear hW
    have B0 : Below W1.heap.size W1 W1 := Below.refl _ _
    ((with_reducible refine (szP0_any r0 d0 k0 e0 ps0 a0 n0 c0 xss0 _ hG hR (by omega) (by omega)).mono ?_); rintro e w1 ⟨rfl, f1⟩)
    rw [z0.out]
    have y1 := f1.size
    have B1 : Below W1.heap.size W1 w1 := below_then B0 f1 (by omega)
    clear B0
    have C0 := (B1.cell (p := ⟨w.heap.size, 0, none⟩) (by simp; omega)).trans hC0
    have C1 := (B1.cell (p := ⟨w.heap.size, 1, none⟩) (by simp; omega)).trans hC1
    have C2 := (B1.cell (p := ⟨w.heap.size, 2, none⟩) (by simp; omega)).trans hC2
    go_wp2_with fail
    ((with_reducible refine (toP_any r0 d0 k0 e0 ps0 a0 n0 c0 xss0 _ (hG.below B1 (by omega)) (hR.below B1 (by omega)) (by omega) (by omega) (by omega)).mono ?_); rintro e w2 ⟨T2, U2, M2, rfl, t2, f2⟩)
    have y2 := f2.size
    have B2 : Below W1.heap.size W1 w2 := below_then B1 f2 (by omega)
    clear B1
    clear C0 C1 C2
    go_wp2_with fail
    ((with_reducible refine (s_ConnectionFault_any _ r0 qr T2 k0 k0 ps0 t2.ri (by omega) (Nat.le_refl _) U2 n0 n0 xss0 t2.rs (by omega) (Nat.le_refl _)).mono ?_); rintro e w3 ⟨p0A, p0n, p0c, p0, p1, rfl, Hp, op0, lp0, f3⟩)
    have y3 := f3.size
    have B3 : Below W1.heap.size W1 w3 := below_then B2 f3 (by omega)
    have t2 := t2.below f3 (by omega)
    clear B2
    clear t2
    have C0 := (B3.cell (p := ⟨w.heap.size, 0, none⟩) (by simp; omega)).trans hC0
    have C1 := (B3.cell (p := ⟨w.heap.size, 1, none⟩) (by simp; omega)).trans hC1
    have C2 := (B3.cell (p := ⟨w.heap.size, 2, none⟩) (by simp; omega)).trans hC2
    go_wp2_with fail
    ((with_reducible refine (toP_any r0 d0 k0 e0 ps0 a0 n0 c0 xss0 _ (hG.below B3 (by omega)) (hR.below B3 (by omega)) (by omega) (by omega) (by omega)).mono ?_); rintro e w4 ⟨T4, U4, M4, rfl, t4, f4⟩)
    have y4 := f4.size
    have B4 : Below W1.heap.size W1 w4 := below_then B3 f4 (by omega)
    have op0 := op0.below f4 (by omega)
    clear B3
    clear C0 C1 C2
    have f5 : Below w4.heap.size w4 (w4.alloc (.cells #[.int .i64 r0, .slice T4 k0 k0, .slice U4 n0 n0] 29)) := (Below.refl _ _).alloc (Nat.le_refl _) _
    have Z5 : (w4.alloc (.cells #[.int .i64 r0, .slice T4 k0 k0, .slice U4 n0 n0] 29)).heap.size = w4.heap.size + 1 := by simp
    have D5_0 : (w4.alloc (.cells #[.int .i64 r0, .slice T4 k0 k0, .slice U4 n0 n0] 29)).cell? ⟨w4.heap.size, 0, none⟩ = some (.int .i64 r0) := by simp
    have D5_1 : (w4.alloc (.cells #[.int .i64 r0, .slice T4 k0 k0, .slice U4 n0 n0] 29)).cell? ⟨w4.heap.size, 1, none⟩ = some (.slice T4 k0 k0) := by simp
    have D5_2 : (w4.alloc (.cells #[.int .i64 r0, .slice T4 k0 k0, .slice U4 n0 n0] 29)).cell? ⟨w4.heap.size, 2, none⟩ = some (.slice U4 n0 n0) := by simp
    have op0 := op0.below f5 (by omega)
    have t4 := t4.below f5 (by omega)
    have X0 := (f5.cell (p := ⟨w.heap.size, 0, none⟩) (by simp; omega)).trans ((B4.cell (p := ⟨w.heap.size, 0, none⟩) (by simp; omega)).trans hC0)
    have X1 := (f5.cell (p := ⟨w.heap.size, 1, none⟩) (by simp; omega)).trans ((B4.cell (p := ⟨w.heap.size, 1, none⟩) (by simp; omega)).trans hC1)
    have X2 := (f5.cell (p := ⟨w.heap.size, 2, none⟩) (by simp; omega)).trans ((B4.cell (p := ⟨w.heap.size, 2, none⟩) (by simp; omega)).trans hC2)
    go_wp2_with fail
    obtain ⟨w5, hq5⟩ : ∃ w5 : World, (w4.alloc (.cells #[.int .i64 r0, .slice T4 k0 k0, .slice U4 n0 n0] 29)) = w5 := ⟨_, rfl⟩
    rw [hq5] at f5 Z5 D5_0 D5_1 D5_2 op0 t4 X0 X1 X2 ⊢
    clear hq5
    have y5 := f5.size
    have B5 : Below W1.heap.size W1 w5 := below_then B4 f5 (by omega)
    clear B4 X0 X1 X2
    go_wp2_with fail
    ((with_reducible refine (i_ConnectionFault_any _ r0 qr T4 k0 k0 ps0 t4.ri (by omega) (Nat.le_refl _) U4 n0 n0 xss0 t4.rs (by omega) (Nat.le_refl _) (hTT.on (B5.mono (by omega))) (by omega)).mono ?_); rintro e w6 ⟨q0A, q0n, q0c, q0, q1, rfl, Hq, oq0, lq0, f6⟩)
    have y6 := f6.size
    have B6 : Below W1.heap.size W1 w6 := below_then B5 f6 (by omega)
    have op0 := op0.below f6 (by omega)
    have t4 := t4.below f6 (by omega)
    have D5_0 := (f6.cell (p := ⟨w4.heap.size, 0, none⟩) (by simp; omega)).trans D5_0
    have D5_1 := (f6.cell (p := ⟨w4.heap.size, 1, none⟩) (by simp; omega)).trans D5_1
    have D5_2 := (f6.cell (p := ⟨w4.heap.size, 2, none⟩) (by simp; omega)).trans D5_2
    clear B5
    obtain ⟨rfl, rfl⟩ : p0 = q0 ∧ p1 = q1 := by have e := Hp.out.trans Hq.out.symm; simpa [and_assoc] using e
    clear Hq
    go_wp2_with fail
    ((with_reducible refine (eqI_any _ _ _ _ _ _ _ _ _ _ _ _ _ oq0.ri op0.ri (by omega) (by omega)).mono ?_); rintro e w7 ⟨rfl, f7⟩)
    have y7 := f7.size
    have B7 : Below W1.heap.size W1 w7 := below_then B6 f7 (by omega)
    have op0 := op0.below f7 (by omega)
    have t4 := t4.below f7 (by omega)
    have D5_0 := (f7.cell (p := ⟨w4.heap.size, 0, none⟩) (by simp; omega)).trans D5_0
    have D5_1 := (f7.cell (p := ⟨w4.heap.size, 1, none⟩) (by simp; omega)).trans D5_1
    have D5_2 := (f7.cell (p := ⟨w4.heap.size, 2, none⟩) (by simp; omega)).trans D5_2
    have oq0 := oq0.below f7 (by omega)
    clear B6
    have C0 := (B7.cell (p := ⟨w.heap.size, 0, none⟩) (by simp; omega)).trans hC0
    have C1 := (B7.cell (p := ⟨w.heap.size, 1, none⟩) (by simp; omega)).trans hC1
    have C2 := (B7.cell (p := ⟨w.heap.size, 2, none⟩) (by simp; omega)).trans hC2
    have Bd := below_drew B7
    have hT := toP_any r0 d0 k0 e0 ps0 a0 n0 c0 xss0 w7.drew (ri_drew (hG.below B7 (by omega))) (rs_drew (hR.below B7 (by omega))) (show _ ≤ w7.heap.size by omega) (show _ ≤ w7.heap.size by omega) (by omega)
    have rg := ri_drew t4.ri
    have rd := rs_drew t4.rs
    go_wp2_with fail
    go_region_with (first
      | (go_at_call 6; refine hT.mono ?_; rintro e w8 ⟨T8, U8, M8, rfl, t8, f8⟩; have GD5_0 := (f8.cell (p := ⟨w4.heap.size, 0, none⟩) (by simp; omega)).trans D5_0; have GD5_1 := (f8.cell (p := ⟨w4.heap.size, 1, none⟩) (by simp; omega)).trans D5_1; have GD5_2 := (f8.cell (p := ⟨w4.heap.size, 2, none⟩) (by simp; omega)).trans D5_2; have y8 : w7.heap.size ≤ w8.heap.size := f8.size; have qe := eqP_any r0 T4 k0 k0 ps0 U4 n0 n0 xss0 r0 T8 k0 k0 ps0 U8 n0 n0 xss0 w8 (rg.below f8 (show _ ≤ w7.heap.size by omega)) (rd.below f8 (show _ ≤ w7.heap.size by omega)) t8.ri t8.rs (by omega) (by omega) (Nat.le_refl _) (Nat.le_refl _))
      | (go_at_call 9; refine qe.mono ?_; rintro e w9 ⟨rfl, f9⟩))
    all_goals
      clear qe hT rd rg GD5_0 GD5_1 GD5_2
      have f8 : Below w7.heap.size w7 w8 := ⟨f8.os, f8.tape, f8.output, f8.size, f8.block⟩
      clear y8 Bd
      have y8 := f8.size
      have B8 : Below W1.heap.size W1 w8 := below_then B7 f8 (by omega)
      have op0 := op0.below f8 (by omega)
      have t4 := t4.below f8 (by omega)
      have D5_0 := (f8.cell (p := ⟨w4.heap.size, 0, none⟩) (by simp; omega)).trans D5_0
      have D5_1 := (f8.cell (p := ⟨w4.heap.size, 1, none⟩) (by simp; omega)).trans D5_1
      have D5_2 := (f8.cell (p := ⟨w4.heap.size, 2, none⟩) (by simp; omega)).trans D5_2
      have oq0 := oq0.below f8 (by omega)
      clear B7
      have y9 := f9.size
      have B9 : Below W1.heap.size W1 w9 := below_then B8 f9 (by omega)
      have op0 := op0.below f9 (by omega)
      have t4 := t4.below f9 (by omega)
      have D5_0 := (f9.cell (p := ⟨w4.heap.size, 0, none⟩) (by simp; omega)).trans D5_0
      have D5_1 := (f9.cell (p := ⟨w4.heap.size, 1, none⟩) (by simp; omega)).trans D5_1
      have D5_2 := (f9.cell (p := ⟨w4.heap.size, 2, none⟩) (by simp; omega)).trans D5_2
      have oq0 := oq0.below f9 (by omega)
      clear B8
      clear C0 C1 C2
      go_wp2_with fail
      ((with_reducible refine (markP_any _ _ _ _ _ _ _ _ _ _ _ _ _ _ t4 (by omega) (by omega) (by omega)).mono ?_); rintro e w10 ⟨rfl, t4, f10⟩)
      have y10 := f10.size
      have B10 : Below W1.heap.size W1 w10 := B9.trans (f10.below (by omega) (by omega))
      have op0 := op0.keep (Same.of_chg f10 (by omega) (by omega))
      have D5_0 := (World.cell?_of_block (w := w9) (a := ⟨w4.heap.size, 0, none⟩) (f10.block _ (by first | omega | (simp; done) | (simp; omega)) (by first | omega | (simp; done) | (simp; omega)))).trans D5_0
      have D5_1 := (World.cell?_of_block (w := w9) (a := ⟨w4.heap.size, 1, none⟩) (f10.block _ (by first | omega | (simp; done) | (simp; omega)) (by first | omega | (simp; done) | (simp; omega)))).trans D5_1
      have D5_2 := (World.cell?_of_block (w := w9) (a := ⟨w4.heap.size, 2, none⟩) (f10.block _ (by first | omega | (simp; done) | (simp; omega)) (by first | omega | (simp; done) | (simp; omega)))).trans D5_2
      have oq0 := oq0.keep (Same.of_chg f10 (by omega) (by omega))
      clear B9
      go_wp2_with fail
      ((with_reducible refine (eqI_any _ _ _ _ _ _ _ _ _ _ _ _ _ oq0.ri op0.ri (by omega) (by omega)).mono ?_); rintro e w11 ⟨rfl, f11⟩)
      have y11 := f11.size
      have B11 : Below W1.heap.size W1 w11 := below_then B10 f11 (by omega)
      have op0 := op0.below f11 (by omega)
      have t4 := t4.below f11 (by omega)
      have D5_0 := (f11.cell (p := ⟨w4.heap.size, 0, none⟩) (by simp; omega)).trans D5_0
      have D5_1 := (f11.cell (p := ⟨w4.heap.size, 1, none⟩) (by simp; omega)).trans D5_1
      have D5_2 := (f11.cell (p := ⟨w4.heap.size, 2, none⟩) (by simp; omega)).trans D5_2
      have oq0 := oq0.below f11 (by omega)
      clear B10
      go_wp2_with fail
      ((with_reducible refine (markI_any _ _ _ _ _ _ _ _ oq0 (by omega) (by omega) (by omega)).mono ?_); rintro e w12 ⟨rfl, oq0, f12⟩)
      have y12 := f12.size
      have B12 : Below W1.heap.size W1 w12 := B11.trans (f12.below (by omega) (by omega))
      have op0 := op0.keep (Same.of_chg f12 (by omega) (by omega))
      have t4 := t4.keep (Same.of_chg f12 (by omega) (by omega))
      have D5_0 := (World.cell?_of_block (w := w11) (a := ⟨w4.heap.size, 0, none⟩) (f12.block _ (by first | omega | (simp; done) | (simp; omega)) (by first | omega | (simp; done) | (simp; omega)))).trans D5_0
      have D5_1 := (World.cell?_of_block (w := w11) (a := ⟨w4.heap.size, 1, none⟩) (f12.block _ (by first | omega | (simp; done) | (simp; omega)) (by first | omega | (simp; done) | (simp; omega)))).trans D5_1
      have D5_2 := (World.cell?_of_block (w := w11) (a := ⟨w4.heap.size, 2, none⟩) (f12.block _ (by first | omega | (simp; done) | (simp; omega)) (by first | omega | (simp; done) | (simp; omega)))).trans D5_2
      clear B11
      go_wp2_with fail
      ((with_reducible refine (heldI_any _ _ _ _ _ _ _ oq0.ri (by omega) (by omega) (by omega)).mono ?_); rintro e w13 ⟨rfl, f13⟩)
      have y13 := f13.size
      have B13 : Below W1.heap.size W1 w13 := below_then B12 f13 (by omega)
      have op0 := op0.below f13 (by omega)
      have t4 := t4.below f13 (by omega)
      have D5_0 := (f13.cell (p := ⟨w4.heap.size, 0, none⟩) (by simp; omega)).trans D5_0
      have D5_1 := (f13.cell (p := ⟨w4.heap.size, 1, none⟩) (by simp; omega)).trans D5_1
      have D5_2 := (f13.cell (p := ⟨w4.heap.size, 2, none⟩) (by simp; omega)).trans D5_2
      have oq0 := oq0.below f13 (by omega)
      clear B12
      clear t4 D5_0 D5_1 D5_2
      have C0 := (B13.cell (p := ⟨w.heap.size, 0, none⟩) (by simp; omega)).trans hC0
      have C1 := (B13.cell (p := ⟨w.heap.size, 1, none⟩) (by simp; omega)).trans hC1
      have C2 := (B13.cell (p := ⟨w.heap.size, 2, none⟩) (by simp; omega)).trans hC2
      go_wp2_with fail
      ((with_reducible refine (toP_any r0 d0 k0 e0 ps0 a0 n0 c0 xss0 _ (hG.below B13 (by omega)) (hR.below B13 (by omega)) (by omega) (by omega) (by omega)).mono ?_); rintro e w14 ⟨T14, U14, M14, rfl, t14, f14⟩)
      have y14 := f14.size
      have B14 : Below W1.heap.size W1 w14 := below_then B13 f14 (by omega)
      have op0 := op0.below f14 (by omega)
      have oq0 := oq0.below f14 (by omega)
      clear B13
      clear C0 C1 C2
      go_wp2_with fail
      ((with_reducible refine (i_ConnectionFault_any _ r0 qr T14 k0 k0 ps0 t14.ri (by omega) (Nat.le_refl _) U14 n0 n0 xss0 t14.rs (by omega) (Nat.le_refl _) (hTT.on (B14.mono (by omega))) (by omega)).mono ?_); rintro e w15 ⟨h0A, h0n, h0c, h0, h1, rfl, Hh, oh0, lh0, f15⟩)
      have y15 := f15.size
      have B15 : Below W1.heap.size W1 w15 := below_then B14 f15 (by omega)
      have op0 := op0.below f15 (by omega)
      have oq0 := oq0.below f15 (by omega)
      have t14 := t14.below f15 (by omega)
      clear B14
      obtain ⟨rfl, rfl⟩ : p0 = h0 ∧ p1 = h1 := by have e := Hp.out.trans Hh.out.symm; simpa [and_assoc] using e
      clear Hh
      clear t14
      go_wp2_with fail
      ((with_reducible refine (eqI_any _ _ _ _ _ _ _ _ _ _ _ _ _ oh0.ri op0.ri (by omega) (by omega)).mono ?_); rintro e w16 ⟨rfl, f16⟩)
      have y16 := f16.size
      have B16 : Below W1.heap.size W1 w16 := below_then B15 f16 (by omega)
      have op0 := op0.below f16 (by omega)
      have oq0 := oq0.below f16 (by omega)
      have oh0 := oh0.below f16 (by omega)
      clear B15
      go_wp2_with fail
      ((with_reducible refine (heldI_any _ _ _ _ _ _ _ oq0.ri (by omega) (by omega) (by omega)).mono ?_); rintro e w17 ⟨rfl, f17⟩)
      have y17 := f17.size
      have B17 : Below W1.heap.size W1 w17 := below_then B16 f17 (by omega)
      have op0 := op0.below f17 (by omega)
      have oq0 := oq0.below f17 (by omega)
      have oh0 := oh0.below f17 (by omega)
      clear B16
      go_wp2_with fail
      go_ret
      exact ⟨rfl, hB.trans (B17.mono (by omega))⟩
  · have z0 := leftOf_neg s0
    replace z0 := Lib.hid z0
    go_enter Tryd.func3, Tryd.ntmps3
    go_wp2_with fail
    ((with_reducible refine (szP0_any r0 d0 k0 e0 ps0 a0 n0 c0 xss0 _ hG hR (by simp) (by simp)).mono ?_); rintro e w2 ⟨rfl, f2⟩)
    rw [z0.out]
    go_wp2_with fail
    go_ret
    exact ⟨rfl, hB.trans (f2.mono (by simp))⟩
/-- a world in which the listed variables lie meets the condition -/
theorem door_met (os : Os) (args : Array Value) : laidMetH Tryd.prog Rows.fnExactConnectionFaultRow.laid ((World.laidAll Tryd.prog os Rows.fnExactConnectionFaultRow.laid).forCall (fun _ _ => 0) ⟨#[], args, []⟩).memory :=
  by rw [MakeChecks.laidMetH_plain _ _ _ (by kernel_rfl)]; exact laidMet_laidAll _ (by kernel_rfl) (by kernel_rfl)
set_option maxRecDepth 100000 in
theorem lifted (os : Os) (started : os.Started) (H : Type) (enc : TypeId × Value → H) :
    ReturnsInHanded {} Tryd.checked os 3 .any (fun w args => (Rows.fnExactConnectionFaultSpec.pre enc Tryd.prog Tryd.f3 [] false w args ∧ laidMetH Tryd.prog Rows.fnExactConnectionFaultRow.laid w) ∧ sizedMet enc Tryd.prog Tryd.f3 (OpenSpec.ofChange Rows.fnExactConnectionFaultSpec) false w args)
      (Rows.fnExactConnectionFaultSpec.post enc Tryd.prog Tryd.f3 false true false false) := by
  refine returnsInHanded_of_change_and (C := Tryd.checked) (X := fun w _ => laidMetH Tryd.prog Rows.fnExactConnectionFaultRow.laid w) (fun _ _ _ hh h => h.of_heap hh) own started (by kernel_rfl) Tryd.func3
    (ChangeSpec.witness_shaped (enc := enc) (C := Tryd.checked) (os := os) (X := fun w _ => laidMetH Tryd.prog Rows.fnExactConnectionFaultRow.laid w) false (World.laidAll Tryd.prog os Rows.fnExactConnectionFaultRow.laid) #[.agg #[.int .i64 0, .slice none 0 0, .slice none 0 0]] 8 (World.laidAll_os _ _ _) (World.shaped_of_ZipB (by kernel_rfl) (by kernel_rfl)) (by kernel_rfl) (by kernel_rfl) (by kernel_rfl) (door_met os _)) ?_
  intro W base args ds gs before hval0 hW _ _ hL _
  have hval : ∀ (j : Nat) t v, Tryd.f3.params[j]? = some t → args[j]? = some v → Value.okWide Tryd.prog W .any base t v := hval0
  have hW' := hW
  obtain ⟨p, q, hA0, hV, rfl, hfz, hnd⟩ := hW
  have hA : DataW.TrodAll enc Tryd.prog W 0 (fun _ => true) true Tryd.f3.params.toList args.toList ds p := hA0
  rw [Tryd.params3] at hA hval
  obtain ⟨v0, vs0, dd0, ds0, p0, q0, hargs, rfl, rfl, h0, rr0⟩ := trodAll_cons hA
  obtain ⟨rfl, rfl, rfl⟩ := trodAll_nil rr0
  obtain rfl : args = #[v0] := by cases args; simp_all
  obtain ⟨rfl, rfl⟩ := trodVars_none hV
  have kk0 := h0
  have lt0 : ∀ x ∈ p0, x.block < W.heap.size := by obtain ⟨m, hm⟩ := kk0; exact DataW.trod_lt m _ _ _ hm
  obtain ⟨r0, d0, k0, e0, ps0, a0, n0, c0, xss0, rfl, br, g0, bg, w0, b0⟩ := open_RP Tryd.underlying25 (by kernel_rfl) (by kernel_rfl) rfl rfl rfl Tryd.underlying23 Tryd.underlying22 Tryd.underlying2 (by kernel_rfl) (by kernel_rfl) (hval 0 25 v0 rfl rfl) h0
  clear hA0 hval0
  refine (walk r0 d0 k0 e0 ps0 a0 n0 c0 xss0 W br g0 bg w0 b0 (t10 hL)).mono fun e W' ⟨he, bel⟩ => ?_
  subst he
  exact ⟨_, rfl, _, _, _, [], _, [], hW', trodAll_mk1 (shut_bool Tryd.underlying4 _), (trodAll_cons_mk (Below.trod laidOut (by kernel_rfl) (of_decide_eq_true (by kernel_rfl)) kk0 bel lt0) trodAll_mk0), rfl, bel.frame _, fun h => by cases h⟩
theorem over : Rows.fnExactConnectionFaultRow.holds Tryd.pinned (OpenSpec.ofChange Rows.fnExactConnectionFaultSpec) :=
  OpenClaim.holds_of_wide 3 Tryd.f3 rfl rfl rfl rfl rfl rfl rfl ⟨rfl, rfl, rfl, rfl, rfl⟩ rfl rfl rfl rfl rfl (by kernel_rfl) Tryd.func3 (by kernel_rfl)
    (of_decide_eq_true (by kernel_rfl)) (by unfold Func.isWrapper; first | (rw [if_pos (by decide +kernel)]; kernel_rfl) | (rw [if_neg (by decide +kernel)]; exact ⟨rfl, rfl⟩))
    (fun os started H enc _ => lifted os started H enc)
/-- THE STATEMENT -/
theorem proved : Rows.FnExactConnectionFaultCardSaid :=
  Claim7.holds_tied_plain_at .later [] [.data, .data, .data] true _ false
    over (fun _ h => by cases h) (by kernel_rfl) (fun _ h => by cases h) fnExactConnectionFault_row_tie rfl ⟨rfl, rfl⟩ (by kernel_rfl) rfl
    (fun f fn hf hfn => by
      obtain rfl : f = 3 := Option.some.inj ((show Tryd.prog.funcNamed "loop.example/g01108/laws.FnExactConnectionFault" = some 3 by kernel_rfl).symm.trans hf) |>.symm
      obtain rfl : fn = Tryd.f3 := (Option.some.inj (Tryd.func3.symm.trans hfn)).symm
      exact ⟨by kernel_rfl, fun j t ht => by
        rw [Tryd.params3] at ht
        have hm : t ∈ [25] := by simpa using Array.mem_of_getElem? ht
        have hall : ([25].all fun u => !Tryd.prog.wantsStandIn u) = true := by kernel_rfl
        exact (show Tryd.prog.wantsStandIn t = false by simpa using List.all_eq_true.1 hall t hm)⟩)
    (by kernel_rfl)
end Go.Proofs.YtebdfhkimnlglaaDoor.fnExactConnectionFault
