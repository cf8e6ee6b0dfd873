/- Walks: the type of a maniplex: the reference's. Up to 400 flags. -/
import Derived.Test.YtdhkaclkheokbaaTypP
import Derived.Test.YtdhkaclkheokbaaOrd
import Derived.Test.YtdhkaclkheokbaaFace
import Derived.Test.YtdhkaclkheokbaaOrbS
import Derived.Test.YtdhkaclkheokbaaRow
import Derived.Test.YtdhkaclkheokbaaManS
namespace Go.Proofs.Ytdhkaclkheokbaa
open Go.RowKit
set_option linter.unusedVariables false
set_option maxRecDepth 100000
/-- the halves of the numbers of points of the orbits, point by point -/
def orbH (list : List (List Int)) (n : Nat) : List Int := (List.range n).map fun (f : Nat) => Int.tdiv ((bfs list n (f : Int)).length : Int) 2
theorem orbH_get {list : List (List Int)} {n f : Nat} (h : f < n) : (orbH list n)[f]? = some (Int.tdiv ((bfs list n (f : Int)).length : Int) 2) := by simp [orbH, h]
theorem orbH_length (list : List (List Int)) (n : Nat) : (orbH list n).length = n := by simp [orbH]
theorem typI_orbH (list : List (List Int)) (n : Nat) : typI list n = sortL (nub (orbH list n)) := rfl
set_option maxHeartbeats 4000000 in
theorem l02Type_any (A : Option Addr) (n c : Nat) (xss : List (List Int)) (w : World) {lo hi : Nat} (h : RS w lo hi A n xss) (hhi : hi ≤ w.heap.size) (hn1 : 1 ≤ n) (hn5 : n ≤ 5) (hnc : n ≤ c) (N : Nat) (hN : flg xss = N) (h4 : N ≤ 400) (hs : SysOf xss N) :
    Calls Try.prog 52 #[.agg #[.slice A n c]] w fun e w' => ∃ (A1 : Option Addr) (c1 : Nat), e = .returned (.slice A1 (n - 1) c1) ∧ OwnS w' w.heap.size w'.heap.size 22 2 A1 (n - 1) c1 (typL xss N) ∧ Below w.heap.size w w' := by
  obtain ⟨j0, hj0, hy0, hy1, hy2⟩ := info_parts infoI
  obtain ⟨s0, hs0, hu0, hu1, hu2⟩ := info_parts infoS
  have hl := h.len
  have htl := typL_length xss N
  rw [hl] at htl
  have hget : ∀ k, k < n - 1 → (typL xss N)[k]? = some (typI (subL xss k (k + 2)) N) := fun k hk => typL_get (by omega)
  obtain ⟨b0, o0, A0, n0, c0, p0, rfl, _, _, _, _, _⟩ := h.at_ (k := 0) (by omega)
  generalize hcs : typL xss N = cs at *
  replace hcs := Lib.hid hcs
  replace hget := Lib.hid hget
  replace htl := Lib.hid htl
  replace hl := Lib.hid hl
  replace hs := Lib.hid hs
  have hR := rs_alloc h hhi (.cells #[.slice (some ⟨b0, o0, none⟩) n c] 43)
  have hC : (w.alloc (.cells #[.slice (some ⟨b0, o0, none⟩) n c] 43)).cell? ⟨w.heap.size, 0, none⟩ = some (.slice (some ⟨b0, o0, none⟩) n c) := al_new _ _ _ _ rfl
  have hB : Below w.heap.size w (w.alloc (.cells #[.slice (some ⟨b0, o0, none⟩) n c] 43)) := (Below.refl _ _).alloc (Nat.le_refl _) _
  have h0 := own_lit0 (w.alloc (.cells #[.slice (some ⟨b0, o0, none⟩) n c] 43)) 22 (Nat.le_refl _)
  go_enter Try.func52, Try.ntmps52
  go_wp2_with fail
  obtain ⟨W1, hW⟩ : ∃ W1 : World, w.alloc (.cells #[.slice (some ⟨b0, o0, none⟩) n c] 43) = W1 := ⟨_, rfl⟩
  have hz1 : W1.heap.size = w.heap.size + 1 := by rw [← hW]; simp
  rw [hW] at hR hC hB h0 ⊢
  clear hW h
  rw [hz1] at h0
  go_loopw [3, 4] (fun sv kv wq => ∃ (k : Nat) (vs : List Value) (A2 : Option Addr) (c2 : Nat), k ≤ n - 1 ∧ vs.length = k ∧ sv = .slice A2 k c2 ∧ kv = .int .i64 k ∧ Own wq (w.heap.size + 1) wq.heap.size 22 A2 k c2 vs ∧ RowsOwn wq (w.heap.size + 1) wq.heap.size 2 vs (cs.take k) ∧ w.heap.size + 1 ≤ wq.heap.size ∧ Below W1.heap.size W1 wq) (fun _ kv _ => n - (intOf kv).toNat)
  case atStart => exact ⟨0, [], _, 0, by omega, rfl, rfl, rfl, by simpa [hz1] using h0, by simpa using RowsOwn.nil, by simp; omega, (Below.refl _ _).alloc (Nat.le_refl _) _⟩
  case round =>
    clear h0
    obtain ⟨k, vs, A2, c2, hk, hvk, rfl, rfl, ho, hrows, hz, hb⟩ := hrel
    have hCk := (hb.cell (p := ⟨w.heap.size, 0, none⟩) (by simp; omega)).trans hC
    by_cases hlt : k < n - 1
    · have hg1 : decide ((k : Int) + 1 < (n : Int)) = true := by simp; omega
      have htk := take_succ_of (hget.out k hlt)
      rw [typI_orbH] at htk
      have hs2 := sysOf_sub hs.out k (k + 2)
      have hol := orbH_length (subL xss k (k + 2)) N
      have hog : ∀ f, f < N → (orbH (subL xss k (k + 2)) N)[f]? = some (Int.tdiv ((bfs (subL xss k (k + 2)) N (f : Int)).length : Int) 2) := fun f hf => orbH_get hf
      have hsb := rs_sub (hR.below hb (by omega)) (i := k) (j := k + 2) (A' := some ⟨b0, o0 + k, none⟩) (by omega) (by omega) (fun _ => rfl)
      rw [show (xss.drop k).take (k + 2 - k) = subL xss k (k + 2) from rfl, show k + 2 - k = 2 by omega] at hsb
      have hor : ∀ f : Nat, f < N → ∀ wx : World, Below wr.heap.size wr wx → wr.heap.size ≤ wx.heap.size → Calls Try.prog 81 #[.slice (some ⟨b0, o0 + k, none⟩) 2 (c - k), .int .i64 (f : Int)] wx fun e w' => ∃ (A1 : Option Addr) (n1 c1 : Nat), e = .returned (.slice A1 n1 c1) ∧ n1 = (bfs (subL xss k (k + 2)) N (f : Int)).length ∧ n1 ≤ 400 ∧ Below wx.heap.size wx w' := by
        intro f hf wx hbx hzx
        refine (l01Orbit_any N (some ⟨b0, o0 + k, none⟩) 2 (c - k) (subL xss k (k + 2)) (f : Int) wx (hsb.below hbx (by have := hb.size; omega)) (by have := hb.size; omega) h4 hs2 (by omega) (by omega)).mono ?_
        rintro e w' ⟨A1, n1, c1, rfl, o, f2⟩
        have hm := (bfs_met hs2 (show (0 : Int) ≤ f by omega) (show (f : Int) < N by omega)).len
        have := o.lenI
        exact ⟨A1, n1, c1, rfl, this.symm, by omega, f2⟩
      generalize orbH (subL xss k (k + 2)) N = oh at *
      replace htk := Lib.hid htk
      replace hol := Lib.hid hol
      replace hog := Lib.hid hog
      replace hor := Lib.hid hor
      clear hsb hs2
      have hci : ¬ c = k := by omega
      have hic : k ≤ c := by omega
      have hI0 : (0 : Int) ≤ (k : Int) := by omega
      have hI4 : (0 : Int) ≤ (k : Int) + 2 := by omega
      have hI1 : (k : Int) ≤ (k : Int) + 2 := by omega
      have hI2 : (k : Int) + 2 ≤ (n : Int) := by omega
      have hI3 : (k : Int) + 2 ≤ (c : Int) := by omega
      have hw2 : IntKind.i64.wrap ((k : Int) + 2) = (k : Int) + 2 := wrap_in rfl (by omega) (by omega)
      go_wp2_with fail
      obtain ⟨wo, rfl⟩ : ∃ wo : World, wo = wr := ⟨_, rfl⟩
      have hl0 := own_lit0 wo 2 (Nat.le_refl _)
      go_loopw [5, 6] (fun lv fv wq => ∃ (f n3 c3 : Nat) (A3 : Option Addr), f ≤ N ∧ n3 ≤ f ∧ fv = .int .i64 f ∧ lv = .slice A3 n3 c3 ∧ Own wq wo.heap.size wq.heap.size 2 A3 n3 c3 ((nub (oh.take f)).map (Value.int .i64)) ∧ wo.heap.size ≤ wq.heap.size ∧ Below wo.heap.size wo wq) (fun _ fv _ => N - (intOf fv).toNat)
      case atStart => exact ⟨0, 0, 0, _, by omega, by omega, rfl, rfl, by simpa [nub] using hl0, by simp, (Below.refl _ _).alloc (Nat.le_refl _) _⟩
      case round =>
        clear hl0
        obtain ⟨f, n3, c3, A3, hf, hn3, rfl, rfl, o3, z3, f3⟩ := hrel
        have hCf := (f3.cell (p := ⟨w.heap.size, 0, none⟩) (by simp; omega)).trans hCk
        have hRf := (hR.below hb (by omega)).below f3 (by omega)
        go_wp2_with fail
        ((with_reducible refine (l02Flags_any (some ⟨b0, o0, none⟩) n c xss _ hRf (by omega) (by omega)).mono ?_); rintro e w2 ⟨rfl, f4⟩)
        rw [hN]
        have y4 := f4.size
        have hC2 := (f4.cell (p := ⟨w.heap.size, 0, none⟩) (by simp; omega)).trans hCf
        have o4 := o3.below f4 (Nat.le_refl _)
        have g4 := below_then f3 f4 z3
        clear o3 f3 hRf hCf
        by_cases hfn : f < N
        · have hfd : decide ((f : Int) < (N : Int)) = true := by simp; omega
          have htf := take_succ_of (hog.out f hfn)
          go_wp2_with fail
          ((with_reducible refine (hor.out f hfn w2 g4 (by omega)).mono ?_); rintro e w3 ⟨A5, n5, c5, rfl, hn5e, hn54, f5⟩)
          rw [← hn5e, Int.tdiv_eq_ediv_of_nonneg (show (0 : Int) ≤ (n5 : Int) by omega)] at htf
          replace hn5e := Lib.hid hn5e
          have hsn := nub_snoc (oh.take f) ((n5 : Int) / 2)
          rw [← htf] at hsn
          replace htf := Lib.hid htf
          have hw3 : IntKind.i64.wrap ((n5 : Int) / 2) = (n5 : Int) / 2 := wrap_in rfl (by omega) (by omega)
          have y5 := f5.size
          have o5 := (o4.more (Nat.le_refl _) y4).below f5 (Nat.le_refl _)
          have g5 := below_then g4 f5 (by omega)
          have hn3' := o5.lenI
          replace hn3' := Lib.hid hn3'
          clear o4 g4 f5 f4 hC2
          go_wp2_with fail
          ((with_reducible refine (l01Has_any A3 n3 c3 (nub (oh.take f)) ((n5 : Int) / 2) _ o5.ri).mono ?_); rintro e w' ⟨rfl, rfl⟩)
          by_cases hm : (n5 : Int) / 2 ∈ nub (oh.take f)
          · rw [if_pos hm] at hsn
            replace hsn := Lib.hid hsn
            rw [decide_eq_true hm]
            clear hm
            go_wp2_with fail
            go_roundw
            case measure => simp [intOf]; omega
            case rel => exact ⟨f + 1, n3, c3, A3, by omega, by omega, by go_num, rfl, by rw [hsn.out]; exact o5.more (Nat.le_refl _) y5, by omega, g5⟩
          · rw [if_neg hm] at hsn
            replace hsn := Lib.hid hsn
            rw [decide_eq_false hm]
            clear hm
            have o5w := o5.more (Nat.le_refl _) y5
            go_wp2_with (at_builtin; refine wpList_append1 w3 rfl (.tmp 38) (.tmp 40) 22 rfl wo.heap.size 2 j0 (.int .i64 0) 8 Try.underlying22 hj0 hy0 hy1 hy2 rfl (by omega) A3 n3 c3 _ (.int .i64 ((n5 : Int) / 2)) rfl o5w.1 _ rfl rfl rfl (by omega) (by omega) ?_)
            intro g6 c6 w6 ho6 hg6 hlo6 hlt6 hor6
            have hz6 := hg6.size
            have b6 := g5.grown hg6 (by omega) (fun q hq => by have := (o5w.1.lt q hq).1; omega)
            have o6 := Own.of_row ho6
            clear o5 o5w hg6 ho6 g5
            go_wp2_with fail
            go_roundw
            case measure => simp [intOf]; omega
            case rel => exact ⟨f + 1, n3 + 1, c6, _, by omega, by omega, by go_num, rfl, by rw [hsn.out]; simpa using o6, by omega, b6⟩
        · have hfd : decide ((f : Int) < (N : Int)) = false := by simp; omega
          have hfN : f = N := by omega
          subst hfN
          rw [List.take_of_length_le (by have := hol.out; omega)] at o4
          have ho' := ho.below g4 (Nat.le_refl _)
          have hrows' := hrows.keep (Same.of_below g4 (Nat.le_refl _))
          have o4w := o4.more (Nat.le_refl _) y4
          clear o4 f4
          go_wp2_with fail
          ((with_reducible refine (sort_any A3 n3 c3 (nub oh) _ o4w.ri (Nat.le_refl _) (by omega)).mono ?_); rintro e w3 ⟨A5, c5, rfl, o5, f5⟩)
          have y5 := f5.size
          have ho5 := (ho'.more (Nat.le_refl _) (show wo.heap.size ≤ w2.heap.size by omega)).below f5 (Nat.le_refl _)
          have hrows5 := (hrows'.more (Nat.le_refl _) (show wo.heap.size ≤ w2.heap.size by omega)).keep (Same.of_below f5 (Nat.le_refl _))
          have g5 := below_then hb (below_then g4 f5 (by omega)) hb.size
          have ho5w := ho5.more (Nat.le_refl _) y5
          clear ho' hrows' o4w f5 g4 ho hrows
          go_wp2_with (at_builtin; refine wpList_append1 w3 rfl (.tmp 42) (.tmp 45) 23 rfl (w.heap.size + 1) 22 s0 (.slice none 0 0) 24 Try.underlying23 hs0 hu0 hu1 hu2 rfl (by omega) A2 k c2 _ (.slice A5 n3 c5) rfl ho5w.1 _ rfl rfl rfl (by omega) (by omega) ?_)
          intro g6 c6 w6 ho6 hg6 hlo6 hlt6 hor6
          have hrw6 := (hrows5.kept_ty ho5w.1 (by decide) hg6).snoc (o5.kept_ty ho5w.1 (by decide) hg6) (by omega) (by omega)
          have hz6 := hg6.size
          have b6 := g5.grown hg6 (by omega) (fun q hq => by have := (ho5w.1.lt q hq).1; omega)
          have o6 := Own.of_row ho6
          clear ho5 hrows5 o5 ho5w hg6 ho6 g5
          go_wp2_with fail
          go_roundw
          case measure => simp [intOf]; omega
          case rel =>
            refine ⟨k + 1, vs ++ [.slice A5 n3 c5], _, c6, by omega, by simp; omega, rfl, by go_num, by simpa using o6, ?_, by omega, b6⟩
            rw [htk.out]
            exact hrw6.more (Nat.le_refl _) (by omega)
    · have hg1 : decide ((k : Int) + 1 < (n : Int)) = false := by simp; omega
      have hkn : k = n - 1 := by omega
      subst hkn
      rw [List.take_of_length_le (by have := htl.out; omega)] at hrows
      go_wp2_with fail
      go_ret
      exact ⟨A2, c2, rfl, ⟨vs, ho.more (by omega) (Nat.le_refl _), hrows.more (by omega) (Nat.le_refl _)⟩, hB.trans (hb.mono (by omega))⟩
end Go.Proofs.Ytdhkaclkheokbaa
