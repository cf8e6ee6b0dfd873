/- Walks: the flags of a poset: the reference's list. No condition but that it is a poset. -/
import Derived.Test.YtdhkaclkheokbaaFlgE
namespace Go.Proofs.Ytdhkaclkheokbaa
open Go.RowKit
set_option linter.unusedVariables false
set_option maxRecDepth 100000
open Classical
theorem own_blk0 {w : World} {lo z : Nat} {T : TypeId} (h : w.heap[z]? = some (.cells #[] T (0, 0))) (hz : lo ≤ z) : Own w lo w.heap.size T (some ⟨z, 0, none⟩) 0 0 [] :=
  ⟨blk_own (vs := []) h rfl hz (by simp), fun a ha => by cases ha; exact (Array.getElem?_eq_some_iff.1 h).1⟩
set_option maxHeartbeats 8000000 in
theorem l03Flags_any (R : Nat) (D : Option Addr) (e0 n : Nat) (ps : List Int) (A : Option Addr) (c : Nat) (xss : List (List Int)) (w : World) {lo hi lo' hi' : Nat} (g : RI w lo hi D n ps) (hg : hi ≤ w.heap.size) (h : RS w lo' hi' A n xss) (hhi : hi' ≤ w.heap.size) (hp : PosP (R : Int) ps xss) :
    Calls Try.prog 49 #[.agg #[.int .i64 (R : Int), .slice D n e0, .slice A n c]] w fun e' w' => ∃ (L : Option Addr) (nl cl : Nat), e' = .returned (.tuple #[.slice L nl cl, .bool (decide (nl ≤ 400))]) ∧ Lst w' w.heap.size w'.heap.size L nl cl (allFl (R : Int) ps xss) ∧ Below w.heap.size w w' := by
  have hl := g.len
  have hr1 := hp.r1
  have hR := rs_alloc h hhi (.cells #[.int .i64 (R : Int), .slice D n e0, .slice A n c] 29)
  have hG := ri_alloc g hg (.cells #[.int .i64 (R : Int), .slice D n e0, .slice A n c] 29)
  have hB : Below w.heap.size w (w.alloc (.cells #[.int .i64 (R : Int), .slice D n e0, .slice A n c] 29)) := (Below.refl _ _).alloc (Nat.le_refl _) _
  have c0 := al3_0 w (.int .i64 (R : Int)) (.slice D n e0) (.slice A n c) 29 w.heap.size rfl
  have c1 := al3_1 w (.int .i64 (R : Int)) (.slice D n e0) (.slice A n c) 29 w.heap.size rfl
  have c2 := al3_2 w (.int .i64 (R : Int)) (.slice D n e0) (.slice A n c) 29 w.heap.size rfl
  go_enter Try.func49, Try.ntmps49
  go_upto_region 1 with fail
  obtain ⟨W1, hW⟩ : ∃ W1 : World, w.alloc (.cells #[.int .i64 (R : Int), .slice D n e0, .slice A n c] 29) = W1 := ⟨_, rfl⟩
  have hz1 : W1.heap.size = w.heap.size + 1 := by rw [← hW]; simp
  rw [hW] at hR hG hB c0 c1 c2 ⊢
  clear hW h g
  have hAlv : ∀ wq, Below W1.heap.size W1 wq → Calls Try.prog 75 #[.agg #[.int .i64 (R : Int), .slice D n e0, .slice A n c]] wq fun e' w' => ∃ A1, e' = .returned (.slice A1 n n) ∧ Own w' W1.heap.size w'.heap.size 4 A1 n n ((alR (Al (R : Int) ps xss) n).map Value.bool) ∧ Below W1.heap.size W1 w' ∧ Below wq.heap.size wq w' := by
    intro wq hq
    have hqs := hq.size
    refine (l03Alive_any (R : Int) D e0 n ps A c xss wq (hG.below hq (by omega)) (by omega) (hR.below hq (by omega)) (by omega) hp).mono ?_
    rintro e' w' ⟨A1, rfl, o1, f1⟩
    exact ⟨A1, rfl, o1.more hqs (Nat.le_refl _), below_then hq f1 hqs, f1⟩
  have hExt : ∀ (w6 : World) (A6 : Option Addr) (wz : World) (z1 z2 : Nat), Below W1.heap.size W1 w6 → Own w6 W1.heap.size w6.heap.size 4 A6 n n ((alR (Al (R : Int) ps xss) n).map Value.bool) → Below w6.heap.size w6 wz → wz.heap[z1]? = some (.cells #[] 2 (0, 0)) → wz.heap[z2]? = some (.cells #[] 22 (0, 0)) → W1.heap.size ≤ z1 → W1.heap.size ≤ z2 →
      Calls Try.prog 74 #[.agg #[.int .i64 (R : Int), .slice D n e0, .slice A n c], .slice A6 n n, .slice (some ⟨z1, 0, none⟩) 0 0, .slice (some ⟨z2, 0, none⟩) 0 0] wz fun e' w' => ∃ (L : Option Addr) (nl cl : Nat), e' = .returned (.slice L nl cl) ∧ Lst w' W1.heap.size w'.heap.size L nl cl (allFl (R : Int) ps xss) ∧ nl ≤ 401 ∧ Below W1.heap.size W1 w' := by
    intro w6 A6 wz z1 z2 hb6 ho6 hbz h1 h2 g1 g2
    have hz6 := hb6.size
    have hbw : Below W1.heap.size W1 wz := below_then hb6 hbz hz6
    have hzz := hbw.size
    have hS := own_blk0 (lo := W1.heap.size) h1 g1
    have hL := own_blk0 (lo := W1.heap.size) h2 g2
    refine (ext_any R D e0 n ps A c xss A6 n hp hl R wz W1.heap.size W1.heap.size (some ⟨z1, 0, none⟩) 0 0 [] (some ⟨z2, 0, none⟩) 0 0 [] (hG.below hbw (by omega)) (hR.below hbw (by omega)) ((ho6.below hbz (Nat.le_refl _)).more (Nat.le_refl _) hbz.size) (by omega) (by omega) (Nat.le_refl _) hzz ⟨by simp, by simp⟩ (by simp) hS ⟨[], hL, RowsOwn.nil⟩ (by simp)).mono ?_
    rintro e' w' ⟨L, nl, cl, rfl, hl2, hgw⟩
    have e1 : cut4 ([] ++ growF (R : Int) ps xss R []) = allFl (R : Int) ps xss := by unfold allFl; rw [Int.toNat_natCast]; rfl
    rw [e1] at hl2
    refine ⟨L, nl, cl, rfl, hl2, by have := hl2.len; have := cut4_len (growF (R : Int) ps xss (R : Int).toNat []); unfold allFl at *; omega, hbw.trans (hgw.base hzz (fun z hz => ?_))⟩
    simp [Value.ownBlock] at hz
    omega
  replace hAlv := Lib.hid hAlv
  replace hExt := Lib.hid hExt
  have Ga0 : ((W1.drew).alloc (.cells #[] 2)).cell? ⟨w.heap.size, 0, none⟩ = some (.int .i64 (R : Int)) := (al_old _ _ _ _ (show w.heap.size < W1.heap.size by omega)).trans c0
  have Ga1 : ((W1.drew).alloc (.cells #[] 2)).cell? ⟨w.heap.size, 1, none⟩ = some (.slice D n e0) := (al_old _ _ _ _ (show w.heap.size < W1.heap.size by omega)).trans c1
  have Ga2 : ((W1.drew).alloc (.cells #[] 2)).cell? ⟨w.heap.size, 2, none⟩ = some (.slice A n c) := (al_old _ _ _ _ (show w.heap.size < W1.heap.size by omega)).trans c2
  have Gb0 : ((W1.drew).alloc (.cells #[] 22)).cell? ⟨w.heap.size, 0, none⟩ = some (.int .i64 (R : Int)) := (al_old _ _ _ _ (show w.heap.size < W1.heap.size by omega)).trans c0
  have Gb1 : ((W1.drew).alloc (.cells #[] 22)).cell? ⟨w.heap.size, 1, none⟩ = some (.slice D n e0) := (al_old _ _ _ _ (show w.heap.size < W1.heap.size by omega)).trans c1
  have Gb2 : ((W1.drew).alloc (.cells #[] 22)).cell? ⟨w.heap.size, 2, none⟩ = some (.slice A n c) := (al_old _ _ _ _ (show w.heap.size < W1.heap.size by omega)).trans c2
  have Gc0 : (((W1.drew).alloc (.cells #[] 2)).alloc (.cells #[] 22)).cell? ⟨w.heap.size, 0, none⟩ = some (.int .i64 (R : Int)) := (al_old _ _ _ _ (by simp; omega)).trans ((al_old _ _ _ _ (show w.heap.size < W1.heap.size by omega)).trans c0)
  have Gc1 : (((W1.drew).alloc (.cells #[] 2)).alloc (.cells #[] 22)).cell? ⟨w.heap.size, 1, none⟩ = some (.slice D n e0) := (al_old _ _ _ _ (by simp; omega)).trans ((al_old _ _ _ _ (show w.heap.size < W1.heap.size by omega)).trans c1)
  have Gc2 : (((W1.drew).alloc (.cells #[] 2)).alloc (.cells #[] 22)).cell? ⟨w.heap.size, 2, none⟩ = some (.slice A n c) := (al_old _ _ _ _ (by simp; omega)).trans ((al_old _ _ _ _ (show w.heap.size < W1.heap.size by omega)).trans c2)
  have Gd0 : (((W1.drew).alloc (.cells #[] 22)).alloc (.cells #[] 2)).cell? ⟨w.heap.size, 0, none⟩ = some (.int .i64 (R : Int)) := (al_old _ _ _ _ (by simp; omega)).trans ((al_old _ _ _ _ (show w.heap.size < W1.heap.size by omega)).trans c0)
  have Gd1 : (((W1.drew).alloc (.cells #[] 22)).alloc (.cells #[] 2)).cell? ⟨w.heap.size, 1, none⟩ = some (.slice D n e0) := (al_old _ _ _ _ (by simp; omega)).trans ((al_old _ _ _ _ (show w.heap.size < W1.heap.size by omega)).trans c1)
  have Gd2 : (((W1.drew).alloc (.cells #[] 22)).alloc (.cells #[] 2)).cell? ⟨w.heap.size, 2, none⟩ = some (.slice A n c) := (al_old _ _ _ _ (by simp; omega)).trans ((al_old _ _ _ _ (show w.heap.size < W1.heap.size by omega)).trans c2)
  go_region_law (first
    | (refine step_call rfl 75 #[.agg #[.int .i64 (R : Int), .slice D n e0, .slice A n c]] (by go_simp) (hAlv.out _ (by first | exact below_drew (Below.refl _ _) | exact (below_drew (Below.refl _ _)).alloc (Nat.le_refl _) _ | exact ((below_drew (Below.refl _ _)).alloc (Nat.le_refl _) _).alloc (by simp) _)) ?_; rintro e6 w6 ⟨A6, rfl, o6, f6, f6'⟩; refine ⟨_, rfl, ?_⟩; have hz6 := f6.size; have hz6' := f6'.size; try simp at hz6'; have D0 := (f6.cell (p := ⟨w.heap.size, 0, none⟩) (by simp; omega)).trans c0; have D1 := (f6.cell (p := ⟨w.heap.size, 1, none⟩) (by simp; omega)).trans c1; have D2 := (f6.cell (p := ⟨w.heap.size, 2, none⟩) (by simp; omega)).trans c2; have Ea0 : ((w6).alloc (.cells #[] 2)).cell? ⟨w.heap.size, 0, none⟩ = some (.int .i64 (R : Int)) := (al_old _ _ _ _ (by omega)).trans D0; have Ea1 : ((w6).alloc (.cells #[] 2)).cell? ⟨w.heap.size, 1, none⟩ = some (.slice D n e0) := (al_old _ _ _ _ (by omega)).trans D1; have Ea2 : ((w6).alloc (.cells #[] 2)).cell? ⟨w.heap.size, 2, none⟩ = some (.slice A n c) := (al_old _ _ _ _ (by omega)).trans D2; have Eb0 : ((w6).alloc (.cells #[] 22)).cell? ⟨w.heap.size, 0, none⟩ = some (.int .i64 (R : Int)) := (al_old _ _ _ _ (by omega)).trans D0; have Eb1 : ((w6).alloc (.cells #[] 22)).cell? ⟨w.heap.size, 1, none⟩ = some (.slice D n e0) := (al_old _ _ _ _ (by omega)).trans D1; have Eb2 : ((w6).alloc (.cells #[] 22)).cell? ⟨w.heap.size, 2, none⟩ = some (.slice A n c) := (al_old _ _ _ _ (by omega)).trans D2; have Ec0 : (((w6).alloc (.cells #[] 2)).alloc (.cells #[] 22)).cell? ⟨w.heap.size, 0, none⟩ = some (.int .i64 (R : Int)) := (al_old _ _ _ _ (by simp; omega)).trans ((al_old _ _ _ _ (by omega)).trans D0); have Ec1 : (((w6).alloc (.cells #[] 2)).alloc (.cells #[] 22)).cell? ⟨w.heap.size, 1, none⟩ = some (.slice D n e0) := (al_old _ _ _ _ (by simp; omega)).trans ((al_old _ _ _ _ (by omega)).trans D1); have Ec2 : (((w6).alloc (.cells #[] 2)).alloc (.cells #[] 22)).cell? ⟨w.heap.size, 2, none⟩ = some (.slice A n c) := (al_old _ _ _ _ (by simp; omega)).trans ((al_old _ _ _ _ (by omega)).trans D2); have Ed0 : (((w6).alloc (.cells #[] 22)).alloc (.cells #[] 2)).cell? ⟨w.heap.size, 0, none⟩ = some (.int .i64 (R : Int)) := (al_old _ _ _ _ (by simp; omega)).trans ((al_old _ _ _ _ (by omega)).trans D0); have Ed1 : (((w6).alloc (.cells #[] 22)).alloc (.cells #[] 2)).cell? ⟨w.heap.size, 1, none⟩ = some (.slice D n e0) := (al_old _ _ _ _ (by simp; omega)).trans ((al_old _ _ _ _ (by omega)).trans D1); have Ed2 : (((w6).alloc (.cells #[] 22)).alloc (.cells #[] 2)).cell? ⟨w.heap.size, 2, none⟩ = some (.slice A n c) := (al_old _ _ _ _ (by simp; omega)).trans ((al_old _ _ _ _ (by omega)).trans D2))
    | (refine step_call rfl 74 #[.agg #[.int .i64 (R : Int), .slice D n e0, .slice A n c], .slice A6 n n, .slice (some ⟨w6.heap.size, 0, none⟩) 0 0, .slice (some ⟨w6.heap.size + 1, 0, none⟩) 0 0] (by go_simp) (hExt.out w6 A6 _ _ _ f6 o6 (((Below.refl _ _).alloc (Nat.le_refl _) _).alloc (by simp) _) ((Below.heap_alloc _ _ _ (by first | omega | (simp; done) | (simp; omega))).trans (heap_new _ _ _ (by first | omega | (simp; done) | (simp; omega)))) (heap_new _ _ _ (by first | omega | (simp; done) | (simp; omega))) (by omega) (by omega)) ?_; rintro e8 w8 ⟨L8, n8, c8, rfl, l8, hn8, f8⟩; refine ⟨_, rfl, ?_⟩)
    | (refine step_call rfl 74 #[.agg #[.int .i64 (R : Int), .slice D n e0, .slice A n c], .slice A6 n n, .slice (some ⟨w6.heap.size + 1, 0, none⟩) 0 0, .slice (some ⟨w6.heap.size, 0, none⟩) 0 0] (by go_simp) (hExt.out w6 A6 _ _ _ f6 o6 (((Below.refl _ _).alloc (Nat.le_refl _) _).alloc (by simp) _) (heap_new _ _ _ (by first | omega | (simp; done) | (simp; omega))) ((Below.heap_alloc _ _ _ (by first | omega | (simp; done) | (simp; omega))).trans (heap_new _ _ _ (by first | omega | (simp; done) | (simp; omega)))) (by omega) (by omega)) ?_; rintro e8 w8 ⟨L8, n8, c8, rfl, l8, hn8, f8⟩; refine ⟨_, rfl, ?_⟩)
    | (refine step_call rfl 74 #[.agg #[.int .i64 (R : Int), .slice D n e0, .slice A n c], .slice A6 n n, .slice (some ⟨w.heap.size + 1, 0, none⟩) 0 0, .slice (some ⟨w6.heap.size, 0, none⟩) 0 0] (by go_simp) (hExt.out w6 A6 _ _ _ f6 o6 ((Below.refl _ _).alloc (Nat.le_refl _) _) ((Below.heap_alloc _ _ _ (by first | omega | (simp; done) | (simp; omega))).trans ((f6'.block _ (by first | omega | (simp; done) | (simp; omega))).trans (heap_new _ _ _ (by first | omega | (simp; done) | (simp; omega))))) (heap_new _ _ _ (by first | omega | (simp; done) | (simp; omega))) (by omega) (by omega)) ?_; rintro e8 w8 ⟨L8, n8, c8, rfl, l8, hn8, f8⟩; refine ⟨_, rfl, ?_⟩)
    | (refine step_call rfl 74 #[.agg #[.int .i64 (R : Int), .slice D n e0, .slice A n c], .slice A6 n n, .slice (some ⟨w6.heap.size, 0, none⟩) 0 0, .slice (some ⟨w.heap.size + 1, 0, none⟩) 0 0] (by go_simp) (hExt.out w6 A6 _ _ _ f6 o6 ((Below.refl _ _).alloc (Nat.le_refl _) _) (heap_new _ _ _ (by first | omega | (simp; done) | (simp; omega))) ((Below.heap_alloc _ _ _ (by first | omega | (simp; done) | (simp; omega))).trans ((f6'.block _ (by first | omega | (simp; done) | (simp; omega))).trans (heap_new _ _ _ (by first | omega | (simp; done) | (simp; omega))))) (by omega) (by omega)) ?_; rintro e8 w8 ⟨L8, n8, c8, rfl, l8, hn8, f8⟩; refine ⟨_, rfl, ?_⟩)
    | (refine step_call rfl 74 #[.agg #[.int .i64 (R : Int), .slice D n e0, .slice A n c], .slice A6 n n, .slice (some ⟨w.heap.size + 1, 0, none⟩) 0 0, .slice (some ⟨w.heap.size + 1 + 1, 0, none⟩) 0 0] (by go_simp) (hExt.out w6 A6 _ _ _ f6 o6 (Below.refl _ _) ((f6'.block _ (by first | omega | (simp; done) | (simp; omega))).trans ((Below.heap_alloc _ _ _ (by first | omega | (simp; done) | (simp; omega))).trans (heap_new _ _ _ (by first | omega | (simp; done) | (simp; omega))))) ((f6'.block _ (by first | omega | (simp; done) | (simp; omega))).trans (heap_new _ _ _ (by first | omega | (simp; done) | (simp; omega)))) (by omega) (by omega)) ?_; rintro e8 w8 ⟨L8, n8, c8, rfl, l8, hn8, f8⟩; refine ⟨_, rfl, ?_⟩)
    | (refine step_call rfl 74 #[.agg #[.int .i64 (R : Int), .slice D n e0, .slice A n c], .slice A6 n n, .slice (some ⟨w.heap.size + 1 + 1, 0, none⟩) 0 0, .slice (some ⟨w.heap.size + 1, 0, none⟩) 0 0] (by go_simp) (hExt.out w6 A6 _ _ _ f6 o6 (Below.refl _ _) ((f6'.block _ (by first | omega | (simp; done) | (simp; omega))).trans (heap_new _ _ _ (by first | omega | (simp; done) | (simp; omega)))) ((f6'.block _ (by first | omega | (simp; done) | (simp; omega))).trans ((Below.heap_alloc _ _ _ (by first | omega | (simp; done) | (simp; omega))).trans (heap_new _ _ _ (by first | omega | (simp; done) | (simp; omega))))) (by omega) (by omega)) ?_; rintro e8 w8 ⟨L8, n8, c8, rfl, l8, hn8, f8⟩; refine ⟨_, rfl, ?_⟩))
  all_goals
    have hd : Hid (decide ((n8 : Int) ≤ 400) = decide (n8 ≤ 400)) := Lib.hid (decide_eq_decide.2 (by omega))
    go_wp2_with fail
    go_ret2
    refine ⟨L8, n8, c8, ?_, l8.base (by omega), hB.trans (f8.mono (by omega))⟩
    first | rfl | (rw [hd.out]; done) | (simp; done) | (simp; omega)
end Go.Proofs.Ytdhkaclkheokbaa
