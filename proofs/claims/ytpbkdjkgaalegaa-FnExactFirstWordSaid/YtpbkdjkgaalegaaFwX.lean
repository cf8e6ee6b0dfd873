/- Walks: FirstWord, the program's and the reference's. No condition but the sizes of memory. -/
import Derived.Test.YtpbkdjkgaalegaaFw
import Derived.Test.YtpbkdjkgaalegaaRun
namespace Go.Proofs.Ytpbkdjkgaalegaa
open Go.RowKit
set_option linter.unusedVariables false
set_option maxRecDepth 100000
/-- what FirstWord returns -/
noncomputable def fwF (xss : List (List Int)) (x y : Int) : List Int × Int :=
  if isManB xss = true then (if inR 0 ((flg xss : Nat) - 1 : Int) x = true then (if inR 0 ((flg xss : Nat) - 1 : Int) y = true then (if decide (dat (dist xss (flg xss) y) x ≤ 64) = true then (fwL xss (dist xss (flg xss) y) (dat (dist xss (flg xss) y) x).toNat x, 0) else ([], 3)) else ([], 2)) else ([], 2)) else ([], 1)
set_option maxHeartbeats 4000000 in
theorem s_FirstWord_any (w : World) (A : Option Addr) (n c : Nat) (xss : List (List Int)) {lo hi : Nat} (h : RS w lo hi A n xss) (hhi : hi ≤ w.heap.size) (hnc : n ≤ c) (x : Int) (hx : -9223372036854775808 ≤ x ∧ x ≤ 9223372036854775807) (y : Int) (hy : -9223372036854775808 ≤ y ∧ y ≤ 9223372036854775807) :
    Calls Try.prog 14 #[.agg #[.slice A n c], .int .i64 x, .int .i64 y] w fun e w' => ∃ (A1 : Option Addr) (n1 c1 : Nat) (zs : List Int) (code : Int), e = .returned (.tuple #[.slice A1 n1 c1, .int .i64 code]) ∧ Hid ((zs, code) = fwF xss x y) ∧ Own w' w.heap.size w'.heap.size 2 A1 n1 c1 (zs.map (Value.int .i64)) ∧ n1 ≤ 1048576 ∧ Below w.heap.size w w' := by
  have hm := h.max
  have hl := h.len
  obtain ⟨hx0, hx1⟩ := hx
  obtain ⟨hy0, hy1⟩ := hy
  have hR := rs_alloc h hhi (.cells #[.slice A n c] 29)
  have hC : (w.alloc (.cells #[.slice A n c] 29)).cell? ⟨w.heap.size, 0, none⟩ = some (.slice A n c) := al_new _ _ _ _ rfl
  have hB : Below w.heap.size w (w.alloc (.cells #[.slice A n c] 29)) := (Below.refl _ _).alloc (Nat.le_refl _) _
  cases hM : isManB xss with
  | false =>
    have hF : fwF xss x y = ([], 1) := by unfold fwF; rw [hM]; rfl
    replace hF := Lib.hid hF
    replace hM := Lib.hid hM
    replace hl := Lib.hid hl
    go_enter Try.func14, Try.ntmps14
    go_wp2_with fail
    obtain ⟨W1, hW⟩ : ∃ W1 : World, w.alloc (.cells #[.slice A n c] 29) = W1 := ⟨_, rfl⟩
    have hz1 : W1.heap.size = w.heap.size + 1 := by rw [← hW]; simp
    rw [hW] at hR hC hB ⊢
    clear hW h 
    ((with_reducible refine (l02Is_any A n c xss _ hR (by omega)).mono ?_); rintro e w2 ⟨rfl, f2⟩)
    rw [hM.out]
    have y2 := f2.size
    have B2 : Below W1.heap.size W1 w2 := f2
    have C2 := (f2.cell (p := ⟨w.heap.size, 0, none⟩) (by simp; omega)).trans hC
    have R2 := hR.below f2 (by omega)
    go_wp2_with fail
    go_ret2
    exact ⟨_, 0, _, [], _, rfl, Lib.hid hF.out.symm, Own.nil, by omega, hB.trans (B2.mono (by omega))⟩
  | true =>
    have hP := isManB_iff.1 hM
    have hn1 : 1 ≤ n := by have := hP.r1; omega
    have hn5 : n ≤ 5 := by have := hP.r5; omega
    have hf2 := hP.f2
    have hf4 := hP.f4
    have hS := hP.sys
    replace hP := Lib.hid hP
    replace hS := Lib.hid hS
    cases hF1 : inR 0 ((flg xss : Nat) - 1 : Int) x with
    | false =>
      have hF : fwF xss x y = ([], 2) := by unfold fwF; rw [if_pos hM, hF1]; rfl
      replace hF := Lib.hid hF
      replace hM := Lib.hid hM
      replace hl := Lib.hid hl
      replace hF1 := Lib.hid hF1
      go_enter Try.func14, Try.ntmps14
      go_wp2_with fail
      obtain ⟨W1, hW⟩ : ∃ W1 : World, w.alloc (.cells #[.slice A n c] 29) = W1 := ⟨_, rfl⟩
      have hz1 : W1.heap.size = w.heap.size + 1 := by rw [← hW]; simp
      rw [hW] at hR hC hB ⊢
      clear hW h 
      ((with_reducible refine (l02Is_any A n c xss _ hR (by omega)).mono ?_); rintro e w2 ⟨rfl, f2⟩)
      rw [hM.out]
      have y2 := f2.size
      have B2 : Below W1.heap.size W1 w2 := f2
      have C2 := (f2.cell (p := ⟨w.heap.size, 0, none⟩) (by simp; omega)).trans hC
      have R2 := hR.below f2 (by omega)
      go_wp2_with fail
      ((with_reducible refine (l02Flag_any A n c xss x _ R2 (by omega) (by omega) hf4).mono ?_); rintro e w3 ⟨rfl, f3⟩)
      rw [hF1.out]
      have y3 := f3.size
      have B3 : Below W1.heap.size W1 w3 := below_then B2 f3 (by omega)
      have C3 := (f3.cell (p := ⟨w.heap.size, 0, none⟩) (by simp; omega)).trans C2
      have R3 := R2.below f3 (by omega)
      go_wp2_with fail
      go_ret2
      exact ⟨_, 0, _, [], _, rfl, Lib.hid hF.out.symm, Own.nil, by omega, hB.trans (B3.mono (by omega))⟩
    | true =>
      obtain ⟨hxa, hxb⟩ := inR_iff.1 hF1
      have hxc : x < (flg xss : Nat) := by omega
      cases hF2 : inR 0 ((flg xss : Nat) - 1 : Int) y with
      | false =>
        have hF : fwF xss x y = ([], 2) := by unfold fwF; rw [if_pos hM, if_pos hF1, hF2]; rfl
        replace hF := Lib.hid hF
        replace hM := Lib.hid hM
        replace hl := Lib.hid hl
        replace hF1 := Lib.hid hF1
        replace hF2 := Lib.hid hF2
        go_enter Try.func14, Try.ntmps14
        go_wp2_with fail
        obtain ⟨W1, hW⟩ : ∃ W1 : World, w.alloc (.cells #[.slice A n c] 29) = W1 := ⟨_, rfl⟩
        have hz1 : W1.heap.size = w.heap.size + 1 := by rw [← hW]; simp
        rw [hW] at hR hC hB ⊢
        clear hW h 
        ((with_reducible refine (l02Is_any A n c xss _ hR (by omega)).mono ?_); rintro e w2 ⟨rfl, f2⟩)
        rw [hM.out]
        have y2 := f2.size
        have B2 : Below W1.heap.size W1 w2 := f2
        have C2 := (f2.cell (p := ⟨w.heap.size, 0, none⟩) (by simp; omega)).trans hC
        have R2 := hR.below f2 (by omega)
        go_wp2_with fail
        ((with_reducible refine (l02Flag_any A n c xss x _ R2 (by omega) (by omega) hf4).mono ?_); rintro e w3 ⟨rfl, f3⟩)
        rw [hF1.out]
        have y3 := f3.size
        have B3 : Below W1.heap.size W1 w3 := below_then B2 f3 (by omega)
        have C3 := (f3.cell (p := ⟨w.heap.size, 0, none⟩) (by simp; omega)).trans C2
        have R3 := R2.below f3 (by omega)
        go_wp2_with fail
        ((with_reducible refine (l02Flag_any A n c xss y _ R3 (by omega) (by omega) hf4).mono ?_); rintro e w4 ⟨rfl, f4⟩)
        rw [hF2.out]
        have y4 := f4.size
        have B4 : Below W1.heap.size W1 w4 := below_then B3 f4 (by omega)
        have C4 := (f4.cell (p := ⟨w.heap.size, 0, none⟩) (by simp; omega)).trans C3
        have R4 := R3.below f4 (by omega)
        go_wp2_with fail
        go_ret2
        exact ⟨_, 0, _, [], _, rfl, Lib.hid hF.out.symm, Own.nil, by omega, hB.trans (B4.mono (by omega))⟩
      | true =>
        obtain ⟨hya, hyb⟩ := inR_iff.1 hF2
        have hyc : y < (flg xss : Nat) := by omega
        have hfin0 := dist_fin hS.out hP.out.conn hya hyc
        have hiv := hP.out.invo
        obtain ⟨d0, hd0⟩ : ∃ d0 : Nat, dat (dist xss (flg xss) y) x = d0 := ⟨(dat (dist xss (flg xss) y) x).toNat, by have := hfin0.rng x hxa hxc; omega⟩
        have hd4 : d0 < flg xss := by have := hfin0.rng x hxa hxc; omega
        by_cases h64 : d0 ≤ 64
        · skip
          have hF : fwF xss x y = (fwL xss (dist xss (flg xss) y) d0 x, 0) := by unfold fwF; rw [if_pos hM, if_pos hF1, if_pos hF2]; rw [hd0, if_pos (decide_eq_true (by omega)), Int.toNat_natCast]
          have hcmp : decide ((d0 : Int) > 64) = false := by simp; omega
          have hdx := Lib.hid hd0
          replace hd0 := Lib.hid hd0
          replace hfin0 := Lib.hid hfin0
          replace hiv := Lib.hid hiv
          replace hF := Lib.hid hF
          replace hM := Lib.hid hM
          replace hl := Lib.hid hl
          replace hF1 := Lib.hid hF1
          replace hF2 := Lib.hid hF2
          obtain ⟨j0, hj0, hj1, hj2, hj3⟩ := info_parts infoI
          go_enter Try.func14, Try.ntmps14
          go_wp2_with fail
          obtain ⟨W1, hW⟩ : ∃ W1 : World, w.alloc (.cells #[.slice A n c] 29) = W1 := ⟨_, rfl⟩
          have hz1 : W1.heap.size = w.heap.size + 1 := by rw [← hW]; simp
          rw [hW] at hR hC hB ⊢
          clear hW h 
          ((with_reducible refine (l02Is_any A n c xss _ hR (by omega)).mono ?_); rintro e w2 ⟨rfl, f2⟩)
          rw [hM.out]
          have y2 := f2.size
          have B2 : Below W1.heap.size W1 w2 := f2
          have C2 := (f2.cell (p := ⟨w.heap.size, 0, none⟩) (by simp; omega)).trans hC
          have R2 := hR.below f2 (by omega)
          go_wp2_with fail
          ((with_reducible refine (l02Flag_any A n c xss x _ R2 (by omega) (by omega) hf4).mono ?_); rintro e w3 ⟨rfl, f3⟩)
          rw [hF1.out]
          have y3 := f3.size
          have B3 : Below W1.heap.size W1 w3 := below_then B2 f3 (by omega)
          have C3 := (f3.cell (p := ⟨w.heap.size, 0, none⟩) (by simp; omega)).trans C2
          have R3 := R2.below f3 (by omega)
          go_wp2_with fail
          ((with_reducible refine (l02Flag_any A n c xss y _ R3 (by omega) (by omega) hf4).mono ?_); rintro e w4 ⟨rfl, f4⟩)
          rw [hF2.out]
          have y4 := f4.size
          have B4 : Below W1.heap.size W1 w4 := below_then B3 f4 (by omega)
          have C4 := (f4.cell (p := ⟨w.heap.size, 0, none⟩) (by simp; omega)).trans C3
          have R4 := R3.below f4 (by omega)
          go_wp2_with fail
          obtain ⟨x, rfl⟩ : ∃ q : Nat, x = q := ⟨x.toNat, by omega⟩
          ((with_reducible refine (l02Distances_any A n c xss y _ R4 (by omega) (by omega) _ rfl hf4 hS.out hya hyc).mono ?_); rintro e w9 ⟨A9, c9, rfl, o9, f9⟩)
          have B9 : Below W1.heap.size W1 w9 := below_then B4 f9 (by omega)
          have y9 := B9.size
          obtain ⟨D, hD⟩ : ∃ D, dist xss (flg xss) y = D := ⟨_, rfl⟩
          rw [hD] at o9
          replace hdx := hdx.out
          rw [hD] at hdx
          have hfin := hfin0.out
          rw [hD] at hfin
          have hdl := hfin.dl
          have hres0 := hF.out
          (try rw [hD] at hres0)
          replace hD := Lib.hid hD
          replace hres0 := Lib.hid hres0
          clear hfin0
          obtain ⟨b9, u9, rfl, hb91, hb92, hb93, hu9, hcx, _⟩ := o9.atI (k := x) (by omega)
          have hu9e : u9 = d0 := by have := dat_get hdl (show x < flg xss by omega); rw [hu9, hdx] at this; exact Option.some.inj this
          rw [hu9e] at hcx
          replace hu9 := Lib.hid hu9
          replace hu9e := Lib.hid hu9e
          replace hdx := Lib.hid hdx
          replace hfin := Lib.hid hfin
          replace hdl := Lib.hid hdl
          have hxN : x < flg xss := by omega
          have h0 := World.ownsRow_lit (e := 2) (base := w9.heap.size) (size := 1) w9 #[] 0 (Nat.le_refl _) (by omega) rfl
          go_wp2_with fail
          go_loopg [9, 10] (d0 + 1) (fun gq wv fv wq => ∃ (d : Nat) (f : Int) (ys : List Int) (A2 : Option Addr) (c2 : Nat), gq = d + 1 ∧ wv = .slice A2 ys.length c2 ∧ fv = .int .i64 f ∧ 0 ≤ f ∧ f < (flg xss : Nat) ∧ ys.length + d = d0 ∧ Hid (dat D f = d) ∧ Hid (ys ++ fwL xss D d f = fwL xss D d0 (x : Int)) ∧ Own wq w9.heap.size wq.heap.size 2 A2 ys.length c2 (ys.map (Value.int .i64)) ∧ w9.heap.size ≤ wq.heap.size ∧ Below w9.heap.size w9 wq)
          case atStart => exact ⟨d0, (x : Int), [], _, 0, rfl, rfl, rfl, hxa, hxc, by simp, hdx, Lib.hid rfl, by simpa using Own.of_row h0, by simp, (Below.refl _ _).alloc (Nat.le_refl _) _⟩
          case round =>
            clear h0
            obtain ⟨d, f, ys, A2, c2, hgd, rfl, rfl, hf0, hf1, hyd, hdf, heq, ho, hz, hb⟩ := hrel
            have hzero := dist_zero hfin.out hf0 hf1
            by_cases hfy : f = y
            · subst hfy
              have hd00 : d = 0 := by have := hzero.1 rfl; have := hdf.out; omega
              subst hd00
              clear hzero
              have hres := heq.out
              replace hres := Lib.hid hres
              go_wp2_with fail
              go_ret2
              have e : ys ++ fwL xss D 0 f = ys := by simp [fwL]
              exact ⟨A2, ys.length, c2, ys, _, rfl, Lib.hid (by rw [hres0.out, ← hres.out, e]), ho.more (by omega) (Nat.le_refl _), by omega, hB.trans ((B9.trans (hb.mono y9)).mono (by omega))⟩
            · have hex := near_ex hS.out hiv.out hfin.out hf0 hf1 hfy
              have hfb : (f != y) = true := by simpa using hfy
              obtain ⟨d, rfl⟩ : ∃ q, d = q + 1 := ⟨d - 1, by have := mt hzero.2 hfy; have := hdf.out; omega⟩
              obtain ⟨gk', rfl⟩ : ∃ q, gk = q + 1 := ⟨gk - 1, by omega⟩
              clear hzero
              obtain ⟨f, rfl⟩ : ∃ q : Nat, f = q := ⟨f.toNat, by omega⟩
              have hfN : f < flg xss := by omega
              replace hex := Lib.hid hex
              replace hfy := Lib.hid hfy
              go_wp2_with fail
              obtain ⟨wo, rfl⟩ : ∃ wo : World, wo = wr := ⟨_, rfl⟩
              go_loopw [9, 10, 11] (fun wv fv kv wq => ∃ k : Nat, wv = .slice A2 ys.length c2 ∧ fv = .int .i64 (f : Int) ∧ k ≤ n ∧ kv = .int .i64 k ∧ Hid ((xss.take k).all (fun q => !(nearB D (f : Int) q)) = true) ∧ Own wq w9.heap.size wq.heap.size 2 A2 ys.length c2 (ys.map (Value.int .i64)) ∧ w9.heap.size ≤ wq.heap.size ∧ Below w9.heap.size w9 wq) (fun _ _ kv _ => n - (intOf kv).toNat)
              case atStart => exact ⟨0, rfl, rfl, by omega, rfl, Lib.hid (by simp), ho, hz, hb⟩
              case round =>
                clear ho hz hb
                obtain ⟨k, rfl, rfl, hk, rfl, hall, ho, hz, hb⟩ := hrel
                have hbW := B9.trans (hb.mono y9)
                have hCk := (hbW.cell (p := ⟨w.heap.size, 0, none⟩) (by simp; omega)).trans hC
                by_cases hkm : k < n
                · obtain ⟨bb, oo, Ak, nk, ck, p, rfl, _, hbb, hp, hpc, hpr⟩ := (hR.below hbW (by omega)).at_ hkm
                  have hpm := mem_of_get? hp
                  obtain ⟨hpr0, hpn, hpl⟩ := hS.out p hpm
                  have hnk := hpr.len
                  have hfnk : f < nk := by omega
                  obtain ⟨bp, oq, v, rfl, _, hbp, hv, hvc⟩ := hpr.at_ hfnk
                  have hva : at' p f = v := by unfold at'; rw [Int.toNat_natCast]; exact getD_some hv
                  obtain ⟨hv0, hv1⟩ := hpr0 v (mem_of_get? hv)
                  obtain ⟨v, rfl⟩ : ∃ q : Nat, v = q := ⟨v.toNat, by omega⟩
                  have hvN : v < flg xss := by omega
                  have o9' := o9.below hb (Nat.le_refl _)
                  have hcv := o9'.cellI (dat_get hdl.out hvN)
                  have hcf := o9'.cellI (dat_get hdl.out hfN)
                  have hts := all_take_succ' (f := fun q => !(nearB D (f : Int) q)) hp
                  have hni := near_iff hS.out hiv.out hfin.out hf0 (show (f : Int) < (flg xss : Nat) by omega) hpm
                  rw [hva] at hni
                  have hnb : nearB D (f : Int) p = decide (dat D (v : Int) < dat D (f : Int)) := by unfold nearB; rw [hva]
                  have hvr := hfin.out.rng (v : Int) (by omega) (by omega)
                  have hfr := hfin.out.rng (f : Int) (by omega) (by omega)
                  obtain ⟨hvr0, hvr1⟩ := hvr
                  obtain ⟨hfr0, hfr1⟩ := hfr
                  clear o9'
                  by_cases hlt : dat D (v : Int) < dat D (f : Int)
                  · have hnt : nearB D (f : Int) p = true := by rw [hnb]; exact decide_eq_true hlt
                    have hsk := stepK_eq hp hnt hall.out
                    have hstep := fwL_step (d := d) hp hsk
                    rw [hva] at hstep
                    have hni1 := hni.1 hlt
                    have heq2 : (ys ++ [(k : Int)]) ++ fwL xss D d v = fwL xss D d0 (x : Int) := by rw [← heq.out, hstep]; simp
                    have hdv : dat D (v : Int) = d := by have := hdf.out; omega
                    have hbq : (dat D (v : Int) == dat D (f : Int) - 1) = true := by simpa using hni1
                    replace heq2 := Lib.hid heq2
                    replace hdv := Lib.hid hdv
                    replace hstep := Lib.hid hstep
                    replace hsk := Lib.hid hsk
                    replace hnt := Lib.hid hnt
                    replace hnb := Lib.hid hnb
                    replace hni := Lib.hid hni
                    replace hni1 := Lib.hid hni1
                    replace hts := Lib.hid hts
                    replace hp := Lib.hid hp
                    replace hv := Lib.hid hv
                    replace hva := Lib.hid hva
                    replace hpr0 := Lib.hid hpr0
                    replace hpl := Lib.hid hpl
                    clear hlt
                    generalize dat D (v : Int) = dv at hcv hbq hvr0 hvr1
                    generalize dat D (f : Int) = df at hcf hbq hfr0 hfr1
                    go_wp2_with fail
                    go_quiet (fail)
                    have ho' : Own (wr.drewN nq) w9.heap.size wr.heap.size 2 A2 ys.length c2 (ys.map (Value.int .i64)) := ho
                    go_wp2_with (at_builtin; refine wpList_append1 (wr.drewN nq) rfl (.tmp 62) (.tmp 64) 26 rfl w9.heap.size 2 j0 (.int .i64 0) 8 Try.underlying26 hj0 hj1 hj2 hj3 rfl (by omega) _ ys.length c2 _ (.int .i64 k) rfl ho'.1 _ rfl rfl rfl (by omega) hz ?_)
                    intro g4 c4 w3 ho3 hg3 hlo3 hlt3 hor3
                    have hb3 : Below w9.heap.size w9 w3 := (below_dn hb nq).grown hg3 hz (fun q hq => by have := (ho'.1.lt q hq).1; omega)
                    have ho3' := Own.of_row ho3
                    have hz3 : wr.heap.size ≤ w3.heap.size := hg3.size
                    have hvc3 : w3.cell? ⟨bp, oq + f, none⟩ = some (.int .i64 (v : Int)) := (World.cell?_of_block (w := wr) (a := ⟨bp, oq + f, none⟩) (hg3.block bp (show bp < wr.heap.size by omega) (fun e => by have := (ho'.1.lt _ e.symm).1; omega))).trans hvc
                    have hpc3 : w3.cell? ⟨bb, oo + k, none⟩ = some (.slice (some ⟨bp, oq, none⟩) nk ck) := (World.cell?_of_block (w := wr) (a := ⟨bb, oo + k, none⟩) (hg3.block bb (show bb < wr.heap.size by omega) (fun e => by have := (ho'.1.lt _ e.symm).1; omega))).trans hpc
                    have hC3 : w3.cell? ⟨w.heap.size, 0, none⟩ = some (.slice (some ⟨bb, oo, none⟩) n c) := (World.cell?_of_block (w := wr) (a := ⟨w.heap.size, 0, none⟩) (hg3.block w.heap.size (show w.heap.size < wr.heap.size by omega) (fun e => by have := (ho'.1.lt _ e.symm).1; omega))).trans hCk
                    clear ho ho' hb hg3 ho3 hpc hvc hcv hcf hpr hCk
                    go_wp2_with fail
                    go_roundg gk'
                    case measure => omega
                    case rel => exact ⟨d, v, ys ++ [(k : Int)], _, c4, by omega, by rw [List.length_append]; rfl, rfl, by omega, by omega, by simp; omega, hdv, heq2, by simpa using ho3', by omega, hb3⟩
                  · have hnt : nearB D (f : Int) p = false := by rw [hnb]; exact decide_eq_false hlt
                    rw [hnt, hall.out] at hts
                    have hni1 := mt hni.2 hlt
                    have hbq : (dat D (v : Int) == dat D (f : Int) - 1) = false := by simpa using hni1
                    replace hts := Lib.hid hts
                    replace hnt := Lib.hid hnt
                    replace hnb := Lib.hid hnb
                    replace hni := Lib.hid hni
                    replace hni1 := Lib.hid hni1
                    replace hp := Lib.hid hp
                    replace hv := Lib.hid hv
                    replace hva := Lib.hid hva
                    replace hpr0 := Lib.hid hpr0
                    replace hpl := Lib.hid hpl
                    replace hlt := Lib.hid hlt
                    generalize dat D (v : Int) = dv at hcv hbq hvr0 hvr1
                    generalize dat D (f : Int) = df at hcf hbq hfr0 hfr1
                    go_wp2_with fail
                    go_quiet (fail)
                    go_wp2_with fail
                    go_roundw
                    case measure => simp [intOf]; omega
                    case rel => exact ⟨k + 1, rfl, rfl, by omega, by go_num, hts, ho, hz, below_dn hb _⟩
                · exfalso
                  have hkm' : k = n := by omega
                  subst hkm'
                  obtain ⟨p, hp, hn⟩ := hex.out
                  have h1 := hall.out
                  rw [List.take_of_length_le (by have := hl.out; omega)] at h1
                  have := List.all_eq_true.1 h1 p hp
                  rw [hn] at this
                  simp at this
        · skip
          have hF : fwF xss x y = ([], 3) := by unfold fwF; rw [if_pos hM, if_pos hF1, if_pos hF2]; rw [hd0, if_neg (by simp; omega)]
          have hcmp : decide ((d0 : Int) > 64) = true := by simp; omega
          have hdx := Lib.hid hd0
          replace hd0 := Lib.hid hd0
          replace hfin0 := Lib.hid hfin0
          replace hiv := Lib.hid hiv
          replace hF := Lib.hid hF
          replace hM := Lib.hid hM
          replace hl := Lib.hid hl
          replace hF1 := Lib.hid hF1
          replace hF2 := Lib.hid hF2
          obtain ⟨j0, hj0, hj1, hj2, hj3⟩ := info_parts infoI
          go_enter Try.func14, Try.ntmps14
          go_wp2_with fail
          obtain ⟨W1, hW⟩ : ∃ W1 : World, w.alloc (.cells #[.slice A n c] 29) = W1 := ⟨_, rfl⟩
          have hz1 : W1.heap.size = w.heap.size + 1 := by rw [← hW]; simp
          rw [hW] at hR hC hB ⊢
          clear hW h 
          ((with_reducible refine (l02Is_any A n c xss _ hR (by omega)).mono ?_); rintro e w2 ⟨rfl, f2⟩)
          rw [hM.out]
          have y2 := f2.size
          have B2 : Below W1.heap.size W1 w2 := f2
          have C2 := (f2.cell (p := ⟨w.heap.size, 0, none⟩) (by simp; omega)).trans hC
          have R2 := hR.below f2 (by omega)
          go_wp2_with fail
          ((with_reducible refine (l02Flag_any A n c xss x _ R2 (by omega) (by omega) hf4).mono ?_); rintro e w3 ⟨rfl, f3⟩)
          rw [hF1.out]
          have y3 := f3.size
          have B3 : Below W1.heap.size W1 w3 := below_then B2 f3 (by omega)
          have C3 := (f3.cell (p := ⟨w.heap.size, 0, none⟩) (by simp; omega)).trans C2
          have R3 := R2.below f3 (by omega)
          go_wp2_with fail
          ((with_reducible refine (l02Flag_any A n c xss y _ R3 (by omega) (by omega) hf4).mono ?_); rintro e w4 ⟨rfl, f4⟩)
          rw [hF2.out]
          have y4 := f4.size
          have B4 : Below W1.heap.size W1 w4 := below_then B3 f4 (by omega)
          have C4 := (f4.cell (p := ⟨w.heap.size, 0, none⟩) (by simp; omega)).trans C3
          have R4 := R3.below f4 (by omega)
          go_wp2_with fail
          obtain ⟨x, rfl⟩ : ∃ q : Nat, x = q := ⟨x.toNat, by omega⟩
          ((with_reducible refine (l02Distances_any A n c xss y _ R4 (by omega) (by omega) _ rfl hf4 hS.out hya hyc).mono ?_); rintro e w9 ⟨A9, c9, rfl, o9, f9⟩)
          have B9 : Below W1.heap.size W1 w9 := below_then B4 f9 (by omega)
          have y9 := B9.size
          obtain ⟨D, hD⟩ : ∃ D, dist xss (flg xss) y = D := ⟨_, rfl⟩
          rw [hD] at o9
          replace hdx := hdx.out
          rw [hD] at hdx
          have hfin := hfin0.out
          rw [hD] at hfin
          have hdl := hfin.dl
          have hres0 := hF.out
          (try rw [hD] at hres0)
          replace hD := Lib.hid hD
          replace hres0 := Lib.hid hres0
          clear hfin0
          obtain ⟨b9, u9, rfl, hb91, hb92, hb93, hu9, hcx, _⟩ := o9.atI (k := x) (by omega)
          have hu9e : u9 = d0 := by have := dat_get hdl (show x < flg xss by omega); rw [hu9, hdx] at this; exact Option.some.inj this
          rw [hu9e] at hcx
          replace hu9 := Lib.hid hu9
          replace hu9e := Lib.hid hu9e
          replace hdx := Lib.hid hdx
          replace hfin := Lib.hid hfin
          replace hdl := Lib.hid hdl
          have hxN : x < flg xss := by omega
          go_wp2_with fail
          go_ret2
          exact ⟨_, 0, _, [], _, rfl, Lib.hid hres0.out.symm, Own.nil, by omega, hB.trans (((B9.alloc y9 _)).mono (by omega))⟩
set_option maxHeartbeats 4000000 in
theorem i_FirstWord_any (w : World) (A : Option Addr) (n c : Nat) (xss : List (List Int)) {lo hi : Nat} (h : RS w lo hi A n xss) (hhi : hi ≤ w.heap.size) (hnc : n ≤ c) (x : Int) (hx : -9223372036854775808 ≤ x ∧ x ≤ 9223372036854775807) (y : Int) (hy : -9223372036854775808 ≤ y ∧ y ≤ 9223372036854775807) :
    Calls Try.prog 16 #[.agg #[.slice A n c], .int .i64 x, .int .i64 y] w fun e w' => ∃ (A1 : Option Addr) (n1 c1 : Nat) (zs : List Int) (code : Int), e = .returned (.tuple #[.slice A1 n1 c1, .int .i64 code]) ∧ Hid ((zs, code) = fwF xss x y) ∧ Own w' w.heap.size w'.heap.size 2 A1 n1 c1 (zs.map (Value.int .i64)) ∧ n1 ≤ 1048576 ∧ Below w.heap.size w w' := by
  have hm := h.max
  have hl := h.len
  obtain ⟨hx0, hx1⟩ := hx
  obtain ⟨hy0, hy1⟩ := hy
  have hR := rs_alloc h hhi (.cells #[.slice A n c] 29)
  have hC : (w.alloc (.cells #[.slice A n c] 29)).cell? ⟨w.heap.size, 0, none⟩ = some (.slice A n c) := al_new _ _ _ _ rfl
  have hB : Below w.heap.size w (w.alloc (.cells #[.slice A n c] 29)) := (Below.refl _ _).alloc (Nat.le_refl _) _
  cases hM : isManB xss with
  | false =>
    have hF : fwF xss x y = ([], 1) := by unfold fwF; rw [hM]; rfl
    replace hF := Lib.hid hF
    replace hM := Lib.hid hM
    replace hl := Lib.hid hl
    go_enter Try.func16, Try.ntmps16
    go_wp2_with fail
    obtain ⟨W1, hW⟩ : ∃ W1 : World, w.alloc (.cells #[.slice A n c] 29) = W1 := ⟨_, rfl⟩
    have hz1 : W1.heap.size = w.heap.size + 1 := by rw [← hW]; simp
    rw [hW] at hR hC hB ⊢
    clear hW h 
    ((with_reducible refine (isMan_any A n c xss _ hR (by omega) hnc).mono ?_); rintro e w2 ⟨rfl, f2⟩)
    rw [hM.out]
    have y2 := f2.size
    have B2 : Below W1.heap.size W1 w2 := f2
    have C2 := (f2.cell (p := ⟨w.heap.size, 0, none⟩) (by simp; omega)).trans hC
    have R2 := hR.below f2 (by omega)
    go_wp2_with fail
    go_ret2
    exact ⟨_, 0, _, [], _, rfl, Lib.hid hF.out.symm, Own.nil, by omega, hB.trans (B2.mono (by omega))⟩
  | true =>
    have hP := isManB_iff.1 hM
    have hn1 : 1 ≤ n := by have := hP.r1; omega
    have hn5 : n ≤ 5 := by have := hP.r5; omega
    have hf2 := hP.f2
    have hf4 := hP.f4
    have hS := hP.sys
    replace hP := Lib.hid hP
    replace hS := Lib.hid hS
    cases hF1 : inR 0 ((flg xss : Nat) - 1 : Int) x with
    | false =>
      have hF : fwF xss x y = ([], 2) := by unfold fwF; rw [if_pos hM, hF1]; rfl
      replace hF := Lib.hid hF
      replace hM := Lib.hid hM
      replace hl := Lib.hid hl
      replace hF1 := Lib.hid hF1
      go_enter Try.func16, Try.ntmps16
      go_wp2_with fail
      obtain ⟨W1, hW⟩ : ∃ W1 : World, w.alloc (.cells #[.slice A n c] 29) = W1 := ⟨_, rfl⟩
      have hz1 : W1.heap.size = w.heap.size + 1 := by rw [← hW]; simp
      rw [hW] at hR hC hB ⊢
      clear hW h 
      ((with_reducible refine (isMan_any A n c xss _ hR (by omega) hnc).mono ?_); rintro e w2 ⟨rfl, f2⟩)
      rw [hM.out]
      have y2 := f2.size
      have B2 : Below W1.heap.size W1 w2 := f2
      have C2 := (f2.cell (p := ⟨w.heap.size, 0, none⟩) (by simp; omega)).trans hC
      have R2 := hR.below f2 (by omega)
      go_wp2_with fail
      ((with_reducible refine (hasFlag_any _ A n c xss x _ C2 R2 (by omega) hf4).mono ?_); rintro e w' ⟨rfl, rfl⟩)
      rw [hF1.out]
      go_wp2_with fail
      go_ret2
      exact ⟨_, 0, _, [], _, rfl, Lib.hid hF.out.symm, Own.nil, by omega, hB.trans (B2.mono (by omega))⟩
    | true =>
      obtain ⟨hxa, hxb⟩ := inR_iff.1 hF1
      have hxc : x < (flg xss : Nat) := by omega
      cases hF2 : inR 0 ((flg xss : Nat) - 1 : Int) y with
      | false =>
        have hF : fwF xss x y = ([], 2) := by unfold fwF; rw [if_pos hM, if_pos hF1, hF2]; rfl
        replace hF := Lib.hid hF
        replace hM := Lib.hid hM
        replace hl := Lib.hid hl
        replace hF1 := Lib.hid hF1
        replace hF2 := Lib.hid hF2
        go_enter Try.func16, Try.ntmps16
        go_wp2_with fail
        obtain ⟨W1, hW⟩ : ∃ W1 : World, w.alloc (.cells #[.slice A n c] 29) = W1 := ⟨_, rfl⟩
        have hz1 : W1.heap.size = w.heap.size + 1 := by rw [← hW]; simp
        rw [hW] at hR hC hB ⊢
        clear hW h 
        ((with_reducible refine (isMan_any A n c xss _ hR (by omega) hnc).mono ?_); rintro e w2 ⟨rfl, f2⟩)
        rw [hM.out]
        have y2 := f2.size
        have B2 : Below W1.heap.size W1 w2 := f2
        have C2 := (f2.cell (p := ⟨w.heap.size, 0, none⟩) (by simp; omega)).trans hC
        have R2 := hR.below f2 (by omega)
        go_wp2_with fail
        ((with_reducible refine (hasFlag_any _ A n c xss x _ C2 R2 (by omega) hf4).mono ?_); rintro e w' ⟨rfl, rfl⟩)
        rw [hF1.out]
        go_wp2_with fail
        ((with_reducible refine (hasFlag_any _ A n c xss y _ C2 R2 (by omega) hf4).mono ?_); rintro e w' ⟨rfl, rfl⟩)
        rw [hF2.out]
        go_wp2_with fail
        go_ret2
        exact ⟨_, 0, _, [], _, rfl, Lib.hid hF.out.symm, Own.nil, by omega, hB.trans (B2.mono (by omega))⟩
      | true =>
        obtain ⟨hya, hyb⟩ := inR_iff.1 hF2
        have hyc : y < (flg xss : Nat) := by omega
        have hfin0 := dist_fin hS.out hP.out.conn hya hyc
        have hiv := hP.out.invo
        obtain ⟨d0, hd0⟩ : ∃ d0 : Nat, dat (dist xss (flg xss) y) x = d0 := ⟨(dat (dist xss (flg xss) y) x).toNat, by have := hfin0.rng x hxa hxc; omega⟩
        have hd4 : d0 < flg xss := by have := hfin0.rng x hxa hxc; omega
        by_cases h64 : d0 ≤ 64
        · skip
          have hF : fwF xss x y = (fwL xss (dist xss (flg xss) y) d0 x, 0) := by unfold fwF; rw [if_pos hM, if_pos hF1, if_pos hF2]; rw [hd0, if_pos (decide_eq_true (by omega)), Int.toNat_natCast]
          have hcmp : decide ((d0 : Int) > 64) = false := by simp; omega
          have hdx := Lib.hid hd0
          replace hd0 := Lib.hid hd0
          replace hfin0 := Lib.hid hfin0
          replace hiv := Lib.hid hiv
          replace hF := Lib.hid hF
          replace hM := Lib.hid hM
          replace hl := Lib.hid hl
          replace hF1 := Lib.hid hF1
          replace hF2 := Lib.hid hF2
          go_enter Try.func16, Try.ntmps16
          go_wp2_with fail
          obtain ⟨W1, hW⟩ : ∃ W1 : World, w.alloc (.cells #[.slice A n c] 29) = W1 := ⟨_, rfl⟩
          have hz1 : W1.heap.size = w.heap.size + 1 := by rw [← hW]; simp
          rw [hW] at hR hC hB ⊢
          clear hW h 
          ((with_reducible refine (isMan_any A n c xss _ hR (by omega) hnc).mono ?_); rintro e w2 ⟨rfl, f2⟩)
          rw [hM.out]
          have y2 := f2.size
          have B2 : Below W1.heap.size W1 w2 := f2
          have C2 := (f2.cell (p := ⟨w.heap.size, 0, none⟩) (by simp; omega)).trans hC
          have R2 := hR.below f2 (by omega)
          go_wp2_with fail
          ((with_reducible refine (hasFlag_any _ A n c xss x _ C2 R2 (by omega) hf4).mono ?_); rintro e w' ⟨rfl, rfl⟩)
          rw [hF1.out]
          go_wp2_with fail
          ((with_reducible refine (hasFlag_any _ A n c xss y _ C2 R2 (by omega) hf4).mono ?_); rintro e w' ⟨rfl, rfl⟩)
          rw [hF2.out]
          go_wp2_with fail
          ((with_reducible refine (firstWord_any _ A n c xss x y _ C2 (by omega) R2 (by omega) (by omega) _ rfl hf4 hS.out hiv.out hP.out.conn hxa hxc hya hyc).mono ?_); rintro e w9 ⟨A9, n9, c9, rfl, o9, f9⟩)
          rw [hd0.out, Int.toNat_natCast] at o9
          have e9 : n9 = d0 := by rw [← o9.lenI, fwL_length]
          subst e9
          have B9 : Below W1.heap.size W1 w9 := below_then B2 f9 (by omega)
          go_wp2_with fail
          go_ret2
          exact ⟨_, _, _, _, _, rfl, Lib.hid hF.out.symm, o9.more (by omega) (Nat.le_refl _), by omega, hB.trans (B9.mono (by omega))⟩
        · skip
          have hF : fwF xss x y = ([], 3) := by unfold fwF; rw [if_pos hM, if_pos hF1, if_pos hF2]; rw [hd0, if_neg (by simp; omega)]
          have hcmp : decide ((d0 : Int) > 64) = true := by simp; omega
          have hdx := Lib.hid hd0
          replace hd0 := Lib.hid hd0
          replace hfin0 := Lib.hid hfin0
          replace hiv := Lib.hid hiv
          replace hF := Lib.hid hF
          replace hM := Lib.hid hM
          replace hl := Lib.hid hl
          replace hF1 := Lib.hid hF1
          replace hF2 := Lib.hid hF2
          go_enter Try.func16, Try.ntmps16
          go_wp2_with fail
          obtain ⟨W1, hW⟩ : ∃ W1 : World, w.alloc (.cells #[.slice A n c] 29) = W1 := ⟨_, rfl⟩
          have hz1 : W1.heap.size = w.heap.size + 1 := by rw [← hW]; simp
          rw [hW] at hR hC hB ⊢
          clear hW h 
          ((with_reducible refine (isMan_any A n c xss _ hR (by omega) hnc).mono ?_); rintro e w2 ⟨rfl, f2⟩)
          rw [hM.out]
          have y2 := f2.size
          have B2 : Below W1.heap.size W1 w2 := f2
          have C2 := (f2.cell (p := ⟨w.heap.size, 0, none⟩) (by simp; omega)).trans hC
          have R2 := hR.below f2 (by omega)
          go_wp2_with fail
          ((with_reducible refine (hasFlag_any _ A n c xss x _ C2 R2 (by omega) hf4).mono ?_); rintro e w' ⟨rfl, rfl⟩)
          rw [hF1.out]
          go_wp2_with fail
          ((with_reducible refine (hasFlag_any _ A n c xss y _ C2 R2 (by omega) hf4).mono ?_); rintro e w' ⟨rfl, rfl⟩)
          rw [hF2.out]
          go_wp2_with fail
          ((with_reducible refine (firstWord_any _ A n c xss x y _ C2 (by omega) R2 (by omega) (by omega) _ rfl hf4 hS.out hiv.out hP.out.conn hxa hxc hya hyc).mono ?_); rintro e w9 ⟨A9, n9, c9, rfl, o9, f9⟩)
          rw [hd0.out, Int.toNat_natCast] at o9
          have e9 : n9 = d0 := by rw [← o9.lenI, fwL_length]
          subst e9
          have B9 : Below W1.heap.size W1 w9 := below_then B2 f9 (by omega)
          go_wp2_with fail
          go_ret2
          exact ⟨_, 0, _, [], _, rfl, Lib.hid hF.out.symm, Own.nil, by omega, hB.trans (B9.mono (by omega))⟩
end Go.Proofs.Ytpbkdjkgaalegaa
