/- FnRenumbered: renumbering the flags of a drawn maniplex changes neither the numbers of faces nor the type, orientability, diameter or least form: the law returns true for every code. No condition. -/
import Derived.Test.YtbioelmofceaaaaGreatRows
import Derived.Test.YtbioelmofceaaaaGreatHRenumbered2
namespace Go.Proofs.YtbioelmofceaaaaGreat.fnRenumbered
open Go.ChangeShapes Go.WideShapes Go.ChangeAt Go.RowKit
open Go.ChangeMaps (open_string shut_string)
set_option linter.unusedVariables false
theorem own : ownKnob Tryz.prog.godebug = none := by kernel_rfl
theorem laidOut : laidOutB Tryz.prog = true := by kernel_rfl
set_option maxRecDepth 100000 in
set_option maxHeartbeats 8000000 in
theorem walk (a : Option Addr) (n c : Nat) (bs : List Int) (w : World) (h : Rd w 0 w.heap.size a n (bs.map (Value.int .u8))) (hb : ∀ x ∈ bs, 0 ≤ x ∧ x < 256) :
    Calls Tryz.prog 3 #[.slice a n c] w fun e w' => e = .returned (.bool true) ∧ Below w.heap.size w w' := by
  have hm := h.2.1
  have hbig := bigl_any a n c w hm
  by_cases h4 : 4096 < n
  · rw [decide_eq_true h4] at hbig
    replace hb := Lib.hid hb
    go_enter Tryz.func3, Tryz.ntmps3
    go_wp2_with fail
    ((with_reducible refine hbig.mono ?_); rintro e w' ⟨rfl, rfl⟩)
    go_wp2_with fail
    go_ret
    exact ⟨rfl, Below.refl _ _⟩
  · rw [decide_eq_false h4] at hbig
    have hdr := drawLeast_any w a n c bs h hb (by omega)
    replace hb := Lib.hid hb
    go_enter Tryz.func3, Tryz.ntmps3
    go_wp2_with fail
    ((with_reducible refine hbig.mono ?_); rintro e w' ⟨rfl, rfl⟩)
    go_wp2_with fail
    ((with_reducible refine hdr.mono ?_); rintro e w1 ⟨A1, m, c1, rfl, xss, R1, hmc, f1⟩)
    clear hbig hdr
    have y1 := f1.size
    have hmx := R1.max
    skip
    go_wp2_with fail
    obtain ⟨w2, hw2⟩ : ∃ w2, w1.alloc (.cells #[.slice A1 m c1] 26) = w2 := ⟨_, rfl⟩
    have Ba : Below w1.heap.size w1 w2 := by rw [← hw2]; exact (Below.refl _ _).alloc (Nat.le_refl _) _
    have C2 : w2.cell? ⟨w1.heap.size, 0, none⟩ = some (.slice A1 m c1) := by rw [← hw2]; exact al_new _ _ _ _ rfl
    have y2 : w1.heap.size < w2.heap.size := by rw [← hw2]; simp
    rw [hw2]
    have R2 := R1.below Ba (Nat.le_refl _)
    have B2 : Below w.heap.size w w2 := f1.trans (Ba.mono y1)
    obtain ⟨b, hbq⟩ : ∃ b, w1.heap.size = b := ⟨_, rfl⟩
    rw [hbq] at C2 y1 y2 R2 ⊢
    clear hw2 Ba f1 R1 hbq
    go_wp2_with fail
    ((with_reducible refine (i_LeastForm_any w2 A1 m c1 xss R2 (by omega) hmc).mono ?_); rintro e w3 ⟨A3, n3, c3, L, code, rfl, H3, o3, hn3, f3⟩)
    have y3 := f3.size
    have B3 := below_then B2 f3 (by omega)
    have R3 := R2.below f3 (by omega)
    have C3 := (f3.cell (p := ⟨b, 0, none⟩) (by simp; omega)).trans C2
    clear C2 R2
    have f4 : Below w3.heap.size w3 (w3.alloc (.cells #[.slice A3 n3 c3] 26)) := (Below.refl _ _).alloc (Nat.le_refl _) _
    have D3 : (w3.alloc (.cells #[.slice A3 n3 c3] 26)).cell? ⟨w3.heap.size, 0, none⟩ = some (.slice A3 n3 c3) := al_new _ _ _ _ rfl
    have C4 := (f4.cell (p := ⟨b, 0, none⟩) (by simp; omega)).trans C3
    go_wp2_with fail
    obtain ⟨w4, hw4⟩ : ∃ w4, (w3.alloc (.cells #[.slice A3 n3 c3] 26)) = w4 := ⟨_, rfl⟩
    have z4 : w3.heap.size < w4.heap.size := by rw [← hw4]; simp
    rw [hw4] at f4 D3 C4  ⊢
    clear hw4
    have y4 := f4.size
    have B4 := below_then B3 f4 (by omega)
    have R4 := R3.below f4 (by omega)
    have o3 := o3.below f4 (by omega)
    clear C3 R3
    obtain ⟨bD3, hbD3⟩ : ∃ bD3, w3.heap.size = bD3 := ⟨_, rfl⟩
    rw [hbD3] at D3 z4 ⊢
    go_wp2_with fail
    ((with_reducible refine (s_LeastForm_any w4 A1 m c1 xss R4 (by omega) hmc).mono ?_); rintro e w5 ⟨A4, n4, c4, L2, code2, rfl, H4, o4, hn4, f5⟩)
    have y5 := f5.size
    have B5 := below_then B4 f5 (by omega)
    have R5 := R4.below f5 (by omega)
    have C5 := (f5.cell (p := ⟨b, 0, none⟩) (by simp; omega)).trans C4
    have D3 := (f5.cell (p := ⟨bD3, 0, none⟩) (by simp; omega)).trans D3
    have o3 := o3.below f5 (by omega)
    clear C4 R4
    obtain ⟨rfl, rfl⟩ : L = L2 ∧ code = code2 := by have e := H3.out.trans H4.out.symm; exact Prod.mk.inj e
    clear H4
    have dne : (code != code) = false := by simp
    have f6 : Below w5.heap.size w5 (w5.alloc (.cells #[.slice A4 n4 c4] 26)) := (Below.refl _ _).alloc (Nat.le_refl _) _
    have D4 : (w5.alloc (.cells #[.slice A4 n4 c4] 26)).cell? ⟨w5.heap.size, 0, none⟩ = some (.slice A4 n4 c4) := al_new _ _ _ _ rfl
    have C6 := (f6.cell (p := ⟨b, 0, none⟩) (by simp; omega)).trans C5
    have D3 := (f6.cell (p := ⟨bD3, 0, none⟩) (by simp; omega)).trans D3
    go_wp2_with fail
    obtain ⟨w6, hw6⟩ : ∃ w6, (w5.alloc (.cells #[.slice A4 n4 c4] 26)) = w6 := ⟨_, rfl⟩
    have z6 : w5.heap.size < w6.heap.size := by rw [← hw6]; simp
    rw [hw6] at f6 D4 C6 D3 ⊢
    clear hw6
    have y6 := f6.size
    have B6 := below_then B5 f6 (by omega)
    have R6 := R5.below f6 (by omega)
    have o3 := o3.below f6 (by omega)
    have o4 := o4.below f6 (by omega)
    clear C5 R5
    obtain ⟨bD4, hbD4⟩ : ∃ bD4, w5.heap.size = bD4 := ⟨_, rfl⟩
    rw [hbD4] at D4 z6 ⊢
    go_wp2_with fail
    ((with_reducible refine (like5_any A3 n3 c3 L A4 n4 c4 w6 o3.rs o4.rs (by omega) (by omega)).mono ?_); rintro e w7 ⟨rfl, f7⟩)
    have y7 := f7.size
    have B7 := below_then B6 f7 (by omega)
    have R7 := R6.below f7 (by omega)
    have C7 := (f7.cell (p := ⟨b, 0, none⟩) (by simp; omega)).trans C6
    have D3 := (f7.cell (p := ⟨bD3, 0, none⟩) (by simp; omega)).trans D3
    have D4 := (f7.cell (p := ⟨bD4, 0, none⟩) (by simp; omega)).trans D4
    have o3 := o3.below f7 (by omega)
    have o4 := o4.below f7 (by omega)
    clear C6 R6
    clear o4 D4
    cases hM : isManB xss with
    | false =>
      have e1 : L = [] ∧ code = 1 := by have e := H3.out; unfold lstF at e; rw [hM] at e; exact Prod.mk.inj e
      obtain ⟨rfl, rfl⟩ := e1
      replace hM := Lib.hid hM
      replace H3 := Lib.hid H3
      go_wp2_with fail
      go_ret
      exact ⟨rfl, B7⟩
    | true =>
      have hP := isManB_iff.1 hM
      obtain ⟨N, hN⟩ : ∃ N, flg xss = N := ⟨_, rfl⟩
      have hN2 : 2 ≤ N := by rw [← hN]; exact hP.f2
      have hN4 : N ≤ 400 := by rw [← hN]; exact hP.f4
      have hml : xss.length = m := R7.len
      have hm1 : 1 ≤ m := by rw [← hml]; exact hP.r1
      have hm5 : m ≤ 5 := by rw [← hml]; exact hP.r5
      have hS : SysOf xss N := by rw [← hN]; exact hP.sys
      have e1 : L = leastGo xss N N ∧ code = 0 := by have e := H3.out; unfold lstF at e; rw [if_pos hM, hN] at e; exact Prod.mk.inj e
      obtain ⟨hL, rfl⟩ := e1
      have hlX : lstF xss = (L, 0) := by unfold lstF; rw [if_pos hM, hN, hL]
      have hfc : fcF xss = (cntsL xss N, 0) := by unfold fcF; rw [if_pos hM, hN]
      have hty : typF xss = (typL xss N, 0) := by unfold typF; rw [if_pos hM, hN]
      have hor : oriF xss = (colB xss N (dist xss N 0), 0) := by unfold oriF; rw [if_pos hM, hN]
      have hdi : diaF xss = (diaGo xss N N, 0) := by unfold diaF; rw [if_pos hM, hN]
      have hren : ∀ ps, isPermP ps → ps.length = N → renF xss ps = (xss.map (renL ps), 0) := by
        intro ps h1 h2
        unfold renF
        rw [if_pos hM, if_pos (isPermB_iff.2 h1), if_pos (by rw [hN]; exact decide_eq_true h2)]
      have hfrm : ∀ g : Nat, g < N → formF xss (g : Int) = (formL xss N (g : Int), 0) := by
        intro g hg
        unfold formF
        rw [if_pos hM, hN, if_pos (inR_iff.2 (by omega))]
      have hfac : ∀ (g : Nat) (ps : List Int), isPermP ps → ps.length = N → g < N → _ := fun g ps h1 h2 h3 => ren_facts hP hN h1 h2 h3
      obtain ⟨cs, hcs⟩ : ∃ cs, cntsL xss N = cs := ⟨_, rfl⟩
      obtain ⟨ts, hts⟩ : ∃ ts, typL xss N = ts := ⟨_, rfl⟩
      obtain ⟨ob, hob⟩ : ∃ ob, colB xss N (dist xss N 0) = ob := ⟨_, rfl⟩
      obtain ⟨dv, hdv⟩ : ∃ dv, diaGo xss N N = dv := ⟨_, rfl⟩
      rw [hcs] at hfc
      rw [hts] at hty
      rw [hob] at hor
      rw [hdv] at hdi
      rw [hcs, hts, hob, hdv, ← hL] at hfac
      have hn3m : n3 = m := by
        have h1 := o3.len
        rw [hL] at h1
        obtain ⟨q, _, eq⟩ := leastGo_form xss N N
        rw [eq, formL_length, hml] at h1
        exact h1.symm
      clear H3 hM hP hS hcs hts hob hdv hL
      replace hml := Lib.hid hml
      replace hN := Lib.hid hN
      replace hlX := Lib.hid hlX
      replace hfc := Lib.hid hfc
      replace hty := Lib.hid hty
      replace hor := Lib.hid hor
      replace hdi := Lib.hid hdi
      replace hren := Lib.hid hren
      replace hfrm := Lib.hid hfrm
      replace hfac := Lib.hid hfac
      obtain rfl : m = n3 := hn3m.symm
      have hrb := roll_any w7 a n c bs ((h.keep (Same.of_below B7 (Nat.le_refl _))).more (Nat.le_refl _) (by omega)) hb.out (by omega) 705 (by omega)
      rw [show ((705 : Nat) : Int) = 705 from rfl] at hrb
      obtain ⟨gd, hgd⟩ : ∃ gd, w7.heap.size = gd := ⟨_, rfl⟩
      rw [hgd] at hrb
      go_wp2_with fail
      ((with_reducible refine hrb.mono ?_); rintro e w8 ⟨Hs, rfl, s8, f8⟩)
      rw [← hgd] at f8
      have glt := s8.lt
      have y8 := f8.size
      have B8 := below_then B7 f8 (by omega)
      have R8 := R7.below f8 (by omega)
      have C8 := (f8.cell (p := ⟨b, 0, none⟩) (by simp; omega)).trans C7
      have D3 := (f8.cell (p := ⟨bD3, 0, none⟩) (by simp; omega)).trans D3
      have o3 := o3.below f8 (by omega)
      clear C7 R7
      clear hrb
      have hCb : ∀ V, Chg gd (gd + 1) w8 V → V.cell? ⟨b, 0, none⟩ = some (.slice A1 m c1) := fun V C => (World.cell?_of_block (C.block b (by omega) (by omega))).trans C8
      have hbW : b < w8.heap.size := by omega
      have hFl : ∀ V, Chg gd (gd + 1) w8 V → Calls Tryz.prog 12 #[.agg #[.slice A1 m c1]] V fun e w' => e = .returned (.int .i64 (N : Int)) ∧ Below V.heap.size V w' := fun V C => by
        have := flags5_any A1 m c1 xss V (R8.same (Same.of_chg C (by omega) (.inl (by omega)))) (by have := C.size; omega) (by omega)
        rw [hN.out] at this
        exact this
      have hR : ∀ V, Chg gd (gd + 1) w8 V → RS V _ _ A1 m xss := fun V C => R8.same (Same.of_chg C (by omega) (.inl (by omega)))
      have hdw : Chg gd (gd + 1) w8 w8.drew := Chg.of_below _ _ (below_drw (Below.refl _ _))
      have sdw := s8.below (below_drw (Below.refl w8.heap.size w8)) glt
      have cdw : w8.cell? ⟨b, 0, none⟩ = some (.slice A1 m c1) := C8
      have hda : Chg gd (gd + 1) w8 (w8.alloc (.cells #[.slice none 0 0] 26)).drew := ((Chg.refl _ _ _).alloc _).drew
      have sda := s8.below (below_drw (al_below w8 (.cells #[.slice none 0 0] 26))) s8.lt
      have cda : (w8.alloc (.cells #[.slice none 0 0] 26)).cell? ⟨b, 0, none⟩ = some (.slice A1 m c1) := (al_old _ _ _ _ (by omega)).trans C8
      replace hCb := Lib.hid hCb
      replace hFl := Lib.hid hFl
      replace hR := Lib.hid hR
      go_upto_region 11 with fail
      go_cut [9, 10] from 60 to 68 (fun v9 v10 wx => ∃ (A5 : Option Addr) (n5 c5 b5 lo5 hi5 : Nat) (ps : List Int) (i' h' : Nat), v9 = .pointer (some ⟨b5, 0, none⟩) ∧ v10 = .int .i64 0 ∧ isPermP ps ∧ ps.length = N ∧ OwnS wx lo5 hi5 35 2 A5 n5 c5 (xss.map (renL ps)) ∧ w8.heap.size ≤ lo5 ∧ hi5 ≤ wx.heap.size ∧ w8.heap.size ≤ b5 ∧ wx.cell? ⟨b5, 0, none⟩ = some (.slice A5 n5 c5) ∧ b5 < wx.heap.size ∧ Src wx gd gd 56 a n c bs i' h' ∧ Chg gd (gd + 1) w8 wx)
      case first =>
        go_region_held3 (fun w' => w'.cell? ⟨b, 0, none⟩ = some (.slice A1 m c1)) (first | (with_reducible exact cdw) | (with_reducible exact cda) | (with_reducible exact ca) | (with_reducible exact (al_old _ _ _ _ (by omega)).trans ca) | (with_reducible exact cb) | (with_reducible exact (al_old _ _ _ _ (by omega)).trans cb) | (with_reducible exact cd) | (with_reducible exact (al_old _ _ _ _ (by omega)).trans cd) | ((with_reducible refine (World.cell?_setCell_other _ _ _ _ ?_).trans cd); (intro q; have q2 := congrArg Addr.block q; simp only at q2; omega)) | go_keep) (first
          | (go_at_call 12
             first
              | (with_reducible refine (hFl.out _ hdw).mono ?_)
              | (with_reducible refine (hFl.out _ hda).mono ?_)
             rintro e wa ⟨rfl, fa⟩
             first
              | (have Ca := hdw.trans_below fa
                 have sa := sdw.below fa sdw.lt)
              | (have Ca := hda.trans_below fa
                 have sa := sda.below fa sda.lt
                 have D1 : wa.heap[w8.heap.size]? = some (.cells #[.slice none 0 0] 26) := (fa.block _ (by simp)).trans (al_new2 w8 _)
                 have zk : w8.heap.size < wa.heap.size := by have := fa.size; simp at this; omega)
             have za := Ca.size
             have ca := hCb.out _ Ca
             skip)
          | (go_at_call 11
             first
              | (with_reducible refine (perm5_any _ _ _ a n c bs _ _ sa N (by omega)).mono ?_)
              | (with_reducible refine (perm5_any _ _ _ a n c bs _ _ (src_al sa _) N (by omega)).mono ?_)
             rintro e wb ⟨Ap, cp, rfl, ip, hp, ps, op, hpp, sb, Cb⟩
             first
              | (have Cb2 := Ca.trans Cb ⟨Nat.le_refl _, Nat.le_refl _⟩ ⟨Nat.le_refl _, Nat.le_refl _⟩
                 try have D1 := (Cb.block w8.heap.size (by omega) (by omega)).trans D1)
              | (have Cb2 := (Ca.alloc _).trans Cb ⟨Nat.le_refl _, Nat.le_refl _⟩ ⟨Nat.le_refl _, Nat.le_refl _⟩
                 have D1 := (Cb.block wa.heap.size (by simp) (by omega)).trans (al_new2 _ _)
                 have zk : wa.heap.size < wb.heap.size := by have := Cb.size; simp at this; omega)
             have cb := hCb.out _ Cb2
             have zb := Cb2.size
             have zbb := Cb.size
             try simp only [World.size_alloc] at zbb
             replace hpp := Lib.hid hpp
             skip)
          | (go_at_call 10
             first
              | (with_reducible refine (i_RenumberFlags_any _ A1 m c1 xss (hR.out _ Cb2) (by omega) hmc Ap N cp ps op.ri (Nat.le_refl _)).mono ?_)
              | (with_reducible refine (i_RenumberFlags_any _ A1 m c1 xss (hR.out _ (Cb2.alloc _)) (by simp; omega) hmc Ap N cp ps (op.ri.below (al_below _ _) (Nat.le_refl _)) (by simp)).mono ?_)
             rintro e wd ⟨A5, n5, c5, kss, k5, rfl, H5, o5, hn5, f5⟩
             first
              | (have Cd := Cb2.trans_below f5
                 have sd := sb.below f5 sb.lt
                 try have D1 := (f5.block _ (show _ < wb.heap.size by omega)).trans D1)
              | (have Cd := (Cb2.alloc _).trans_below f5
                 have sd := (src_al sb _).below f5 (src_al sb _).lt
                 have D1 := al_kept f5
                 have zk : wb.heap.size < wd.heap.size := by have := f5.size; simp at this; omega)
             have zd := Cd.size
             have cd := hCb.out _ Cd
             try (have D2 := mz_cell D1; have D3q := mz_frz D1; replace D1 := Lib.hid D1)
             replace H5 := Lib.hid H5
             skip))
        all_goals
          have hps := perm_of_id hpp.out hN4
          have hpl := (perm_id hpp.out).2.1
          obtain ⟨rfl, rfl⟩ := Prod.mk.inj (H5.out.out.trans (hren.out ps hps hpl)).symm
          clear H5
          first
           | (obtain ⟨⟨hfin1, hq1, hq2, hq3, hfin3⟩, hfin2⟩ := set_end2 (by decide) (by decide) D1.out (by omega) o5 Cd (Nat.le_refl _) sd (by omega) (.slice A5 n5 c5)
              replace hfin1 := Lib.hid hfin1
              replace hfin2 := Lib.hid hfin2
              replace hfin3 := Lib.hid hfin3
              replace hq1 := Lib.hid hq1
              replace hq2 := Lib.hid hq2
              replace hq3 := Lib.hid hq3
              go_wp2_with fail
              go_meet
              exact ⟨A5, n5, c5, _, _, _, ps, _, _, rfl, rfl, hps, hpl, hfin1.out, by first | omega | (simp; omega), hq3.out, by omega, hq1.out, hq2.out, hfin2.out, hfin3.out⟩)
           | (have Bz : Below wd.heap.size wd (wd.alloc (.cells #[.slice A5 n5 c5] 26)) := (Below.refl _ _).alloc (Nat.le_refl _) _
              have hfin1 := o5.below Bz (Nat.le_refl _)
              have hfin2 := sd.below Bz sd.lt
              have hfin3 := Cd.trans_below Bz
              replace hfin1 := Lib.hid hfin1
              replace hfin2 := Lib.hid hfin2
              replace hfin3 := Lib.hid hfin3
              go_wp2_with fail
              go_meet
              exact ⟨A5, n5, c5, _, _, _, ps, _, _, rfl, rfl, hps, hpl, hfin1.out, by omega, by simp, by omega, al_new _ _ _ _ rfl, by simp, hfin2.out, hfin3.out⟩)
      case rest =>
        obtain ⟨A5, n5, c5, b5, lo5, hi5, ps, i5, h5, rfl, rfl, hps, hpl, o5, hlo5, hhi5, hlb5, D5, hb5z, s5, C5c⟩ := hcut
        obtain ⟨w9, rfl⟩ : ∃ w9 : World, w9 = wc := ⟨_, rfl⟩
        have C9c := C5c
        obtain ⟨kB, kl, kf, kt, ko, kd, -⟩ := hfac.out 0 ps hps hpl (by omega)
        obtain ⟨ks, hks⟩ : ∃ ks, xss.map (renL ps) = ks := ⟨_, rfl⟩
        rw [hks] at kB kl kf kt ko kd o5
        have hcap5 := o5.cap
        clear C5c hCb hFl hR sdw hdw cdw hda sda cda hks hren
        replace kB := Lib.hid kB
        replace kl := Lib.hid kl
        replace kf := Lib.hid kf
        replace kt := Lib.hid kt
        replace ko := Lib.hid ko
        replace kd := Lib.hid kd
        have y9 := C9c.size
        have B9 : Below w.heap.size w w9 := B8.trans (C9c.below (by omega) (by omega))
        have R9 := R8.same (Same.of_chg C9c (by omega) (.inl (by omega)))
        have C9 := (World.cell?_of_block (a := ⟨b, 0, none⟩) (C9c.block b (by omega) (by omega))).trans C8
        have D3 := (World.cell?_of_block (a := ⟨bD3, 0, none⟩) (C9c.block bD3 (by omega) (by omega))).trans D3
        have o3 := o3.keep (Same.of_chg C9c (by omega) (by first | exact .inl (by omega) | exact .inr (by omega)))
        clear C8 R8 C9c
        clear s8
        go_wp2_with fail
        ((with_reducible refine (i_LeastForm_any w9 A5 n5 c5 ks o5.rs (by omega) hcap5).mono ?_); rintro e w10 ⟨A6, n6, c6, L6, k6, rfl, H6, o6, hn6, f10⟩)
        have y10 := f10.size
        have B10 := below_then B9 f10 (by omega)
        have R10 := R9.below f10 (by omega)
        have C10 := (f10.cell (p := ⟨b, 0, none⟩) (by simp; omega)).trans C9
        have D3 := (f10.cell (p := ⟨bD3, 0, none⟩) (by simp; omega)).trans D3
        have D5 := (f10.cell (p := ⟨b5, 0, none⟩) (by simp; omega)).trans D5
        have o3 := o3.below f10 (by omega)
        have o5 := o5.below f10 (by omega)
        clear C9 R9
        obtain ⟨rfl, rfl⟩ := Prod.mk.inj (H6.out.trans kl.out).symm
        clear H6
        have s5 := s5.below f10 s5.lt
        have f11 : Below w10.heap.size w10 (w10.alloc (.cells #[.slice A6 n6 c6] 26)) := (Below.refl _ _).alloc (Nat.le_refl _) _
        have D6 : (w10.alloc (.cells #[.slice A6 n6 c6] 26)).cell? ⟨w10.heap.size, 0, none⟩ = some (.slice A6 n6 c6) := al_new _ _ _ _ rfl
        have s5 := s5.below f11 s5.lt
        go_upto_region 13 with fail
        obtain ⟨w11, hw11⟩ : ∃ w11, (w10.alloc (.cells #[.slice A6 n6 c6] 26)) = w11 := ⟨_, rfl⟩
        have z11 : w10.heap.size < w11.heap.size := by rw [← hw11]; simp
        rw [hw11] at f11 D6 s5 ⊢
        clear hw11
        have y11 := f11.size
        have B11 := below_then B10 f11 (by omega)
        have R11 := R10.below f11 (by omega)
        have C11 := (f11.cell (p := ⟨b, 0, none⟩) (by simp; omega)).trans C10
        have D3 := (f11.cell (p := ⟨bD3, 0, none⟩) (by simp; omega)).trans D3
        have D5 := (f11.cell (p := ⟨b5, 0, none⟩) (by simp; omega)).trans D5
        have o3 := o3.below f11 (by omega)
        have o5 := o5.below f11 (by omega)
        have o6 := o6.below f11 (by omega)
        obtain ⟨b6, hb6⟩ : ∃ b6, w10.heap.size = b6 := ⟨_, rfl⟩
        rw [hb6] at D6 z11 ⊢
        have hb6' : b6 ≤ w11.heap.size ∧ w10.heap.size ≤ b6 ∧ b6 ≤ w10.heap.size := by omega
        clear C10 R10 hb6 kl
        have hCb : ∀ V, Chg gd (gd + 1) w11 V → V.cell? ⟨b, 0, none⟩ = some (.slice A1 m c1) := fun V C => (World.cell?_of_block (C.block b (by omega) (by omega))).trans C11
        have hbW : b < w11.heap.size := by omega
        have hFl : ∀ V, Chg gd (gd + 1) w11 V → Calls Tryz.prog 12 #[.agg #[.slice A1 m c1]] V fun e w' => e = .returned (.int .i64 (N : Int)) ∧ Below V.heap.size V w' := fun V C => by
          have := flags5_any A1 m c1 xss V (R11.same (Same.of_chg C (by omega) (.inl (by omega)))) (by have := C.size; omega) (by omega)
          rw [hN.out] at this
          exact this
        have hR : ∀ V, Chg gd (gd + 1) w11 V → RS V _ _ A1 m xss := fun V C => R11.same (Same.of_chg C (by omega) (.inl (by omega)))
        have hdw : Chg gd (gd + 1) w11 w11.drew := Chg.of_below _ _ (below_drw (Below.refl _ _))
        have sdw := s5.below (below_drw (Below.refl w11.heap.size w11)) s5.lt
        have cdw : w11.cell? ⟨b, 0, none⟩ = some (.slice A1 m c1) := C11
        have hda : Chg gd (gd + 1) w11 (w11.alloc (.cells #[.slice none 0 0] 26)).drew := ((Chg.refl _ _ _).alloc _).drew
        have sda := s5.below (below_drw (al_below w11 (.cells #[.slice none 0 0] 26))) s5.lt
        have cda : (w11.alloc (.cells #[.slice none 0 0] 26)).cell? ⟨b, 0, none⟩ = some (.slice A1 m c1) := (al_old _ _ _ _ (by omega)).trans C11
        replace hCb := Lib.hid hCb
        replace hFl := Lib.hid hFl
        replace hR := Lib.hid hR
        go_cut [13, 14] from 74 to 82 (fun v13 v14 wx => ∃ (A7 : Option Addr) (n7 c7 b7 lo7 hi7 g : Nat), v13 = .pointer (some ⟨b7, 0, none⟩) ∧ v14 = .int .i64 0 ∧ g < N ∧ OwnS wx lo7 hi7 35 2 A7 n7 c7 (formL xss N (g : Int)) ∧ w11.heap.size ≤ lo7 ∧ hi7 ≤ wx.heap.size ∧ w11.heap.size ≤ b7 ∧ wx.cell? ⟨b7, 0, none⟩ = some (.slice A7 n7 c7) ∧ b7 < wx.heap.size ∧ Chg gd (gd + 1) w11 wx)
        case first =>
          go_region_held3 (fun w' => w'.cell? ⟨b, 0, none⟩ = some (.slice A1 m c1)) (first | (with_reducible exact cdw) | (with_reducible exact cda) | (with_reducible exact ca) | (with_reducible exact (al_old _ _ _ _ (by omega)).trans ca) | (with_reducible exact cb) | (with_reducible exact (al_old _ _ _ _ (by omega)).trans cb) | (with_reducible exact cd) | (with_reducible exact (al_old _ _ _ _ (by omega)).trans cd) | ((with_reducible refine (World.cell?_setCell_other _ _ _ _ ?_).trans cd); (intro q; have q2 := congrArg Addr.block q; simp only at q2; omega)) | go_keep) (first
            | (go_at_call 12
               first
                | (with_reducible refine (hFl.out _ hdw).mono ?_)
                | (with_reducible refine (hFl.out _ hda).mono ?_)
               rintro e wa ⟨rfl, fa⟩
               first
                | (have Ca := hdw.trans_below fa
                   have sa := sdw.below fa sdw.lt)
                | (have Ca := hda.trans_below fa
                   have sa := sda.below fa sda.lt
                   have D1 : wa.heap[w11.heap.size]? = some (.cells #[.slice none 0 0] 26) := (fa.block _ (by simp)).trans (al_new2 w11 _)
                   have zk : w11.heap.size < wa.heap.size := by have := fa.size; simp at this; omega)
               have za := Ca.size
               have ca := hCb.out _ Ca
               skip)
            | (go_at_call 14
               first
                | (with_reducible refine (below_nat _ _ _ a n c bs _ _ sa (N : Int) (by omega) (by omega)).mono ?_)
                | (with_reducible refine (below_nat _ _ _ a n c bs _ _ (src_al sa _) (N : Int) (by omega) (by omega)).mono ?_)
               rintro e wb ⟨g, rfl, hg, ig, hhg, sb, Cb⟩
               first
                | (have Cb2 := Ca.trans Cb ⟨Nat.le_refl _, Nat.le_refl _⟩ ⟨Nat.le_refl _, Nat.le_refl _⟩
                   try have D1 := (Cb.block w11.heap.size (by omega) (by omega)).trans D1)
                | (have Cb2 := (Ca.alloc _).trans Cb ⟨Nat.le_refl _, Nat.le_refl _⟩ ⟨Nat.le_refl _, Nat.le_refl _⟩
                   have D1 := (Cb.block wa.heap.size (by simp) (by omega)).trans (al_new2 _ _)
                   have zk : wa.heap.size < wb.heap.size := by have := Cb.size; simp at this; omega)
               have cb := hCb.out _ Cb2
               have zb := Cb2.size
               have zbb := Cb.size
               try simp only [World.size_alloc] at zbb
               skip)
            | (go_at_call 13
               first
                | (with_reducible refine (i_FormFrom_any _ A1 m c1 xss (hR.out _ Cb2) (by omega) hmc (g : Int) ⟨by omega, by omega⟩).mono ?_)
                | (with_reducible refine (i_FormFrom_any _ A1 m c1 xss (hR.out _ (Cb2.alloc _)) (by simp; omega) hmc (g : Int) ⟨by omega, by omega⟩).mono ?_)
               rintro e wd ⟨A7, n7, c7, fss, k7, rfl, H7, o7, hn7, f7⟩
               first
                | (have Cd := Cb2.trans_below f7
                   try have D1 := (f7.block _ (show _ < wb.heap.size by omega)).trans D1)
                | (have Cd := (Cb2.alloc _).trans_below f7
                   have D1 := al_kept f7
                   have zk : wb.heap.size < wd.heap.size := by have := f7.size; simp at this; omega)
               have zd := Cd.size
               have cd := hCb.out _ Cd
               try (have D2 := mz_cell D1; have D3q := mz_frz D1; replace D1 := Lib.hid D1)
               replace H7 := Lib.hid H7
               skip))
          all_goals
            have hgN : g < N := by omega
            obtain ⟨rfl, rfl⟩ := Prod.mk.inj (H7.out.out.trans (hfrm.out g hgN)).symm
            clear H7
            first
             | (obtain ⟨hfin1, hq1, hq2, hq3, hfin3⟩ := set_end1 (by decide) (by decide) D1.out (by omega) o7 Cd (Nat.le_refl _) (.slice A7 n7 c7)
                replace hfin1 := Lib.hid hfin1
                replace hfin3 := Lib.hid hfin3
                replace hq1 := Lib.hid hq1
                replace hq2 := Lib.hid hq2
                replace hq3 := Lib.hid hq3
                go_wp2_with fail
                go_meet
                exact ⟨A7, n7, c7, _, _, _, g, rfl, rfl, hgN, hfin1.out, by first | omega | (simp; omega), hq3.out, by omega, hq1.out, hq2.out, hfin3.out⟩)
             | (have Bz : Below wd.heap.size wd (wd.alloc (.cells #[.slice A7 n7 c7] 26)) := (Below.refl _ _).alloc (Nat.le_refl _) _
                have hfin1 := o7.below Bz (Nat.le_refl _)
                have hfin3 := Cd.trans_below Bz
                replace hfin1 := Lib.hid hfin1
                replace hfin3 := Lib.hid hfin3
                go_wp2_with fail
                go_meet
                exact ⟨A7, n7, c7, _, _, _, g, rfl, rfl, hgN, hfin1.out, by omega, by simp, by omega, al_new _ _ _ _ rfl, by simp, hfin3.out⟩)
        case rest =>
          obtain ⟨A7, n7, c7, b7, lo7, hi7, g, rfl, rfl, hgN, o7, hlo7, hhi7, hlb7, D7, hb7z, C7c⟩ := hcut
          obtain ⟨w12, rfl⟩ : ∃ w12 : World, w12 = wc := ⟨_, rfl⟩
          have C12c := C7c
          obtain ⟨-, -, -, -, -, -, fB, fl, fcm, fL1, fL2, fL3⟩ := hfac.out g ps hps hpl hgN
          have hn7 : n7 = m := by have := o7.len; rw [formL_length, hml.out] at this; exact this.symm
          obtain ⟨Fm, hFm⟩ : ∃ Fm, formL xss N (g : Int) = Fm := ⟨_, rfl⟩
          rw [hFm] at fB fl fcm fL3 o7
          have hcap7 := o7.cap
          obtain rfl : m = n7 := hn7.symm
          clear C7c hCb hFl hR sdw hdw cdw hda sda cda hFm hfrm hfac s5
          replace fB := Lib.hid fB
          replace fl := Lib.hid fl
          replace fcm := Lib.hid fcm
          replace fL1 := Lib.hid fL1
          replace fL2 := Lib.hid fL2
          replace fL3 := Lib.hid fL3
          have y12 := C12c.size
          have B12 : Below w.heap.size w w12 := B11.trans (C12c.below (by omega) (by omega))
          have R12 := R11.same (Same.of_chg C12c (by omega) (.inl (by omega)))
          have C12 := (World.cell?_of_block (a := ⟨b, 0, none⟩) (C12c.block b (by omega) (by omega))).trans C11
          have D3 := (World.cell?_of_block (a := ⟨bD3, 0, none⟩) (C12c.block bD3 (by omega) (by omega))).trans D3
          have D5 := (World.cell?_of_block (a := ⟨b5, 0, none⟩) (C12c.block b5 (by omega) (by omega))).trans D5
          have D6 := (World.cell?_of_block (a := ⟨b6, 0, none⟩) (C12c.block b6 (by omega) (by omega))).trans D6
          have o3 := o3.keep (Same.of_chg C12c (by omega) (by first | exact .inl (by omega) | exact .inr (by omega)))
          have o5 := o5.keep (Same.of_chg C12c (by omega) (by first | exact .inl (by omega) | exact .inr (by omega)))
          have o6 := o6.keep (Same.of_chg C12c (by omega) (by first | exact .inl (by omega) | exact .inr (by omega)))
          clear C11 R11 C12c
          go_wp2_with fail
          ((with_reducible refine (i_FaceCounts_any w12 A1 m c1 xss R12 (by omega) hmc).mono ?_); rintro e w13 ⟨A8, n8, c8, z8, k8, rfl, H8, o8, hn8, f13⟩)
          have y13 := f13.size
          have B13 := below_then B12 f13 (by omega)
          have R13 := R12.below f13 (by omega)
          have C13 := (f13.cell (p := ⟨b, 0, none⟩) (by simp; omega)).trans C12
          have D3 := (f13.cell (p := ⟨bD3, 0, none⟩) (by simp; omega)).trans D3
          have D5 := (f13.cell (p := ⟨b5, 0, none⟩) (by simp; omega)).trans D5
          have D6 := (f13.cell (p := ⟨b6, 0, none⟩) (by simp; omega)).trans D6
          have D7 := (f13.cell (p := ⟨b7, 0, none⟩) (by simp; omega)).trans D7
          have o3 := o3.below f13 (by omega)
          have o5 := o5.below f13 (by omega)
          have o6 := o6.below f13 (by omega)
          have o7 := o7.below f13 (by omega)
          clear C12 R12
          obtain ⟨rfl, rfl⟩ := Prod.mk.inj (H8.out.trans hfc.out).symm
          clear H8
          go_wp2_with fail
          ((with_reducible refine (i_FaceCounts_any w13 A5 n5 c5 ks o5.rs (by omega) hcap5).mono ?_); rintro e w14 ⟨A9, n9, c9, z9, k9, rfl, H9, o9, hn9, f14⟩)
          have y14 := f14.size
          have B14 := below_then B13 f14 (by omega)
          have R14 := R13.below f14 (by omega)
          have C14 := (f14.cell (p := ⟨b, 0, none⟩) (by simp; omega)).trans C13
          have D3 := (f14.cell (p := ⟨bD3, 0, none⟩) (by simp; omega)).trans D3
          have D5 := (f14.cell (p := ⟨b5, 0, none⟩) (by simp; omega)).trans D5
          have D6 := (f14.cell (p := ⟨b6, 0, none⟩) (by simp; omega)).trans D6
          have D7 := (f14.cell (p := ⟨b7, 0, none⟩) (by simp; omega)).trans D7
          have o3 := o3.below f14 (by omega)
          have o5 := o5.below f14 (by omega)
          have o6 := o6.below f14 (by omega)
          have o7 := o7.below f14 (by omega)
          have o8 := o8.below f14 (by omega)
          clear C13 R13
          obtain ⟨rfl, rfl⟩ := Prod.mk.inj (H9.out.trans kf.out).symm
          clear H9
          go_wp2_with fail
          ((with_reducible refine (i_TypeOf_any w14 A1 m c1 xss R14 (by omega) hmc).mono ?_); rintro e w15 ⟨Aa, na, ca, za, ka, rfl, Ha, oa, hna, f15⟩)
          have y15 := f15.size
          have B15 := below_then B14 f15 (by omega)
          have R15 := R14.below f15 (by omega)
          have C15 := (f15.cell (p := ⟨b, 0, none⟩) (by simp; omega)).trans C14
          have D3 := (f15.cell (p := ⟨bD3, 0, none⟩) (by simp; omega)).trans D3
          have D5 := (f15.cell (p := ⟨b5, 0, none⟩) (by simp; omega)).trans D5
          have D6 := (f15.cell (p := ⟨b6, 0, none⟩) (by simp; omega)).trans D6
          have D7 := (f15.cell (p := ⟨b7, 0, none⟩) (by simp; omega)).trans D7
          have o3 := o3.below f15 (by omega)
          have o5 := o5.below f15 (by omega)
          have o6 := o6.below f15 (by omega)
          have o7 := o7.below f15 (by omega)
          have o8 := o8.below f15 (by omega)
          have o9 := o9.below f15 (by omega)
          clear C14 R14
          obtain ⟨rfl, rfl⟩ := Prod.mk.inj (Ha.out.trans hty.out).symm
          clear Ha
          go_wp2_with fail
          ((with_reducible refine (i_TypeOf_any w15 A5 n5 c5 ks o5.rs (by omega) hcap5).mono ?_); rintro e w16 ⟨Ab, nb, cb, zb, kb, rfl, Hb, ob9, hnb, f16⟩)
          have y16 := f16.size
          have B16 := below_then B15 f16 (by omega)
          have R16 := R15.below f16 (by omega)
          have C16 := (f16.cell (p := ⟨b, 0, none⟩) (by simp; omega)).trans C15
          have D3 := (f16.cell (p := ⟨bD3, 0, none⟩) (by simp; omega)).trans D3
          have D5 := (f16.cell (p := ⟨b5, 0, none⟩) (by simp; omega)).trans D5
          have D6 := (f16.cell (p := ⟨b6, 0, none⟩) (by simp; omega)).trans D6
          have D7 := (f16.cell (p := ⟨b7, 0, none⟩) (by simp; omega)).trans D7
          have o3 := o3.below f16 (by omega)
          have o5 := o5.below f16 (by omega)
          have o6 := o6.below f16 (by omega)
          have o7 := o7.below f16 (by omega)
          have o8 := o8.below f16 (by omega)
          have o9 := o9.below f16 (by omega)
          have oa := oa.below f16 (by omega)
          clear C15 R15
          obtain ⟨rfl, rfl⟩ := Prod.mk.inj (Hb.out.trans kt.out).symm
          clear Hb
          go_wp2_with fail
          ((with_reducible refine (i_IsOrientable_any w16 A1 m c1 xss R16 (by omega) hmc).mono ?_); rintro e w17 ⟨pa, kpa, rfl, Hc, f17⟩)
          have y17 := f17.size
          have B17 := below_then B16 f17 (by omega)
          have R17 := R16.below f17 (by omega)
          have C17 := (f17.cell (p := ⟨b, 0, none⟩) (by simp; omega)).trans C16
          have D3 := (f17.cell (p := ⟨bD3, 0, none⟩) (by simp; omega)).trans D3
          have D5 := (f17.cell (p := ⟨b5, 0, none⟩) (by simp; omega)).trans D5
          have D6 := (f17.cell (p := ⟨b6, 0, none⟩) (by simp; omega)).trans D6
          have D7 := (f17.cell (p := ⟨b7, 0, none⟩) (by simp; omega)).trans D7
          have o3 := o3.below f17 (by omega)
          have o5 := o5.below f17 (by omega)
          have o6 := o6.below f17 (by omega)
          have o7 := o7.below f17 (by omega)
          have o8 := o8.below f17 (by omega)
          have o9 := o9.below f17 (by omega)
          have oa := oa.below f17 (by omega)
          have ob9 := ob9.below f17 (by omega)
          clear C16 R16
          obtain ⟨rfl, rfl⟩ := Prod.mk.inj (Hc.out.trans hor.out).symm
          clear Hc
          go_wp2_with fail
          ((with_reducible refine (i_IsOrientable_any w17 A5 n5 c5 ks o5.rs (by omega) hcap5).mono ?_); rintro e w18 ⟨pb, kpb, rfl, Hd, f18⟩)
          have y18 := f18.size
          have B18 := below_then B17 f18 (by omega)
          have R18 := R17.below f18 (by omega)
          have C18 := (f18.cell (p := ⟨b, 0, none⟩) (by simp; omega)).trans C17
          have D3 := (f18.cell (p := ⟨bD3, 0, none⟩) (by simp; omega)).trans D3
          have D5 := (f18.cell (p := ⟨b5, 0, none⟩) (by simp; omega)).trans D5
          have D6 := (f18.cell (p := ⟨b6, 0, none⟩) (by simp; omega)).trans D6
          have D7 := (f18.cell (p := ⟨b7, 0, none⟩) (by simp; omega)).trans D7
          have o3 := o3.below f18 (by omega)
          have o5 := o5.below f18 (by omega)
          have o6 := o6.below f18 (by omega)
          have o7 := o7.below f18 (by omega)
          have o8 := o8.below f18 (by omega)
          have o9 := o9.below f18 (by omega)
          have oa := oa.below f18 (by omega)
          have ob9 := ob9.below f18 (by omega)
          clear C17 R17
          obtain ⟨rfl, rfl⟩ := Prod.mk.inj (Hd.out.trans ko.out).symm
          clear Hd
          go_wp2_with fail
          ((with_reducible refine (i_DiameterOf_any w18 A1 m c1 xss R18 (by omega) hmc).mono ?_); rintro e w19 ⟨xa, kxa, rfl, He, f19⟩)
          have y19 := f19.size
          have B19 := below_then B18 f19 (by omega)
          have R19 := R18.below f19 (by omega)
          have C19 := (f19.cell (p := ⟨b, 0, none⟩) (by simp; omega)).trans C18
          have D3 := (f19.cell (p := ⟨bD3, 0, none⟩) (by simp; omega)).trans D3
          have D5 := (f19.cell (p := ⟨b5, 0, none⟩) (by simp; omega)).trans D5
          have D6 := (f19.cell (p := ⟨b6, 0, none⟩) (by simp; omega)).trans D6
          have D7 := (f19.cell (p := ⟨b7, 0, none⟩) (by simp; omega)).trans D7
          have o3 := o3.below f19 (by omega)
          have o5 := o5.below f19 (by omega)
          have o6 := o6.below f19 (by omega)
          have o7 := o7.below f19 (by omega)
          have o8 := o8.below f19 (by omega)
          have o9 := o9.below f19 (by omega)
          have oa := oa.below f19 (by omega)
          have ob9 := ob9.below f19 (by omega)
          clear C18 R18
          obtain ⟨rfl, rfl⟩ := Prod.mk.inj (He.out.trans hdi.out).symm
          clear He
          go_wp2_with fail
          ((with_reducible refine (i_DiameterOf_any w19 A5 n5 c5 ks o5.rs (by omega) hcap5).mono ?_); rintro e w20 ⟨xb, kxb, rfl, Hf, f20⟩)
          have y20 := f20.size
          have B20 := below_then B19 f20 (by omega)
          have R20 := R19.below f20 (by omega)
          have C20 := (f20.cell (p := ⟨b, 0, none⟩) (by simp; omega)).trans C19
          have D3 := (f20.cell (p := ⟨bD3, 0, none⟩) (by simp; omega)).trans D3
          have D5 := (f20.cell (p := ⟨b5, 0, none⟩) (by simp; omega)).trans D5
          have D6 := (f20.cell (p := ⟨b6, 0, none⟩) (by simp; omega)).trans D6
          have D7 := (f20.cell (p := ⟨b7, 0, none⟩) (by simp; omega)).trans D7
          have o3 := o3.below f20 (by omega)
          have o5 := o5.below f20 (by omega)
          have o6 := o6.below f20 (by omega)
          have o7 := o7.below f20 (by omega)
          have o8 := o8.below f20 (by omega)
          have o9 := o9.below f20 (by omega)
          have oa := oa.below f20 (by omega)
          have ob9 := ob9.below f20 (by omega)
          clear C19 R19
          obtain ⟨rfl, rfl⟩ := Prod.mk.inj (Hf.out.trans kd.out).symm
          clear Hf
          have d00 : ((0 : Int) != 0) = false := by simp
          go_wp2_with fail
          ((with_reducible refine (like5_any A6 n6 c6 L A3 m c3 w20 o6.rs o3.rs (by omega) (by omega)).mono ?_); rintro e w21 ⟨rfl, f21⟩)
          have y21 := f21.size
          have B21 := below_then B20 f21 (by omega)
          have R21 := R20.below f21 (by omega)
          have C21 := (f21.cell (p := ⟨b, 0, none⟩) (by simp; omega)).trans C20
          have D3 := (f21.cell (p := ⟨bD3, 0, none⟩) (by simp; omega)).trans D3
          have D6 := (f21.cell (p := ⟨b6, 0, none⟩) (by simp; omega)).trans D6
          have D7 := (f21.cell (p := ⟨b7, 0, none⟩) (by simp; omega)).trans D7
          have o3 := o3.below f21 (by omega)
          have o6 := o6.below f21 (by omega)
          have o7 := o7.below f21 (by omega)
          have o8 := o8.below f21 (by omega)
          have o9 := o9.below f21 (by omega)
          have oa := oa.below f21 (by omega)
          have ob9 := ob9.below f21 (by omega)
          clear C20 R20
          go_wp2_with fail
          ((with_reducible refine (like_any A8 n8 c8 cs A9 n9 c9 cs w21 _ _ _ _ o8.ri o9.ri (by omega) (by omega)).mono ?_); rintro e w22 ⟨rfl, f22⟩)
          have y22 := f22.size
          have B22 := below_then B21 f22 (by omega)
          have R22 := R21.below f22 (by omega)
          have C22 := (f22.cell (p := ⟨b, 0, none⟩) (by simp; omega)).trans C21
          have D3 := (f22.cell (p := ⟨bD3, 0, none⟩) (by simp; omega)).trans D3
          have D7 := (f22.cell (p := ⟨b7, 0, none⟩) (by simp; omega)).trans D7
          have o3 := o3.below f22 (by omega)
          have o7 := o7.below f22 (by omega)
          have o8 := o8.below f22 (by omega)
          have o9 := o9.below f22 (by omega)
          have oa := oa.below f22 (by omega)
          have ob9 := ob9.below f22 (by omega)
          clear C21 R21
          rw [decide_eq_true (rfl : cs = cs)]
          have dob : (ob != ob) = false := by simp
          have ddv : (dv != dv) = false := by simp
          go_wp2_with fail
          ((with_reducible refine (same5_any Aa na ca ts Ab nb cb w22 oa.rs ob9.rs (by omega) (by omega)).mono ?_); rintro e w23 ⟨rfl, f23⟩)
          have y23 := f23.size
          have B23 := below_then B22 f23 (by omega)
          have R23 := R22.below f23 (by omega)
          have C23 := (f23.cell (p := ⟨b, 0, none⟩) (by simp; omega)).trans C22
          have D3 := (f23.cell (p := ⟨bD3, 0, none⟩) (by simp; omega)).trans D3
          have D7 := (f23.cell (p := ⟨b7, 0, none⟩) (by simp; omega)).trans D7
          have o3 := o3.below f23 (by omega)
          have o7 := o7.below f23 (by omega)
          have oa := oa.below f23 (by omega)
          have ob9 := ob9.below f23 (by omega)
          clear C22 R22
          go_wp2_with fail
          ((with_reducible refine (i_IsManiplex_any A7 m c7 Fm w23 o7.rs (by omega) hcap7).mono ?_); rintro e w24 ⟨rfl, f24⟩)
          have y24 := f24.size
          have B24 := below_then B23 f24 (by omega)
          have R24 := R23.below f24 (by omega)
          have C24 := (f24.cell (p := ⟨b, 0, none⟩) (by simp; omega)).trans C23
          have D3 := (f24.cell (p := ⟨bD3, 0, none⟩) (by simp; omega)).trans D3
          have D7 := (f24.cell (p := ⟨b7, 0, none⟩) (by simp; omega)).trans D7
          have o3 := o3.below f24 (by omega)
          have o7 := o7.below f24 (by omega)
          clear C23 R23
          rw [fB.out]
          go_wp2_with fail
          ((with_reducible refine (least5_any A7 m c7 Fm A1 m c1 xss w24 o7.rs R24 (by omega) (by omega) hcap7 hmc L fl.out hlX.out).mono ?_); rintro e w25 ⟨rfl, f25⟩)
          have y25 := f25.size
          have B25 := below_then B24 f25 (by omega)
          have R25 := R24.below f25 (by omega)
          have C25 := (f25.cell (p := ⟨b, 0, none⟩) (by simp; omega)).trans C24
          have D3 := (f25.cell (p := ⟨bD3, 0, none⟩) (by simp; omega)).trans D3
          have D7 := (f25.cell (p := ⟨b7, 0, none⟩) (by simp; omega)).trans D7
          have o3 := o3.below f25 (by omega)
          have o7 := o7.below f25 (by omega)
          clear C24 R24
          have o3r := o3.rs
          have o7r := o7.rs
          have dmm : ((m : Int) != (m : Int)) = false := by simp
          have zD3w : bD3 < w25.heap.size := by omega
          have zb7w : b7 < w25.heap.size := by omega
          have zfw : hi7 ≤ w25.heap.size := by omega
          have zlw : w3.heap.size ≤ w25.heap.size := by omega
          have zww : w.heap.size ≤ w25.heap.size := by omega
          clear o3 o7
          replace o3r := Lib.hid o3r
          replace o7r := Lib.hid o7r
          go_wp2_with fail
          go_loopw [31] (fun iv wq => ∃ i : Nat, i ≤ m ∧ iv = .int .i64 i ∧ Hid (cmp2 (L.drop i) (Fm.drop i) ≤ 0) ∧ Below w25.heap.size w25 wq) (fun iv _ => m - (intOf iv).toNat)
          case atStart => exact ⟨0, by omega, rfl, Lib.hid (by rw [List.drop_zero, List.drop_zero]; exact fcm.out), Below.refl _ _⟩
          case round =>
            obtain ⟨i, hi, rfl, hcm, hB⟩ := hrel
            have yi := hB.size
            have zD3 := Nat.lt_of_lt_of_le zD3w yi
            have zb7 := Nat.lt_of_lt_of_le zb7w yi
            have zf := Nat.le_trans zfw yi
            have zl := Nat.le_trans zlw yi
            have zw := Nat.le_trans zww yi
            have E3 := (hB.cell (p := ⟨bD3, 0, none⟩) zD3w).trans D3
            have E7 := (hB.cell (p := ⟨b7, 0, none⟩) zb7w).trans D7
            by_cases him : i < m
            · obtain ⟨b1, ofa, Ak, nk, ck, fr, rfl, _, hb1, hfr, hcf, hRf⟩ := (o7r.out.below hB zfw).at_ him
              obtain ⟨b2, ofb, Al, nl, cl, lr, rfl, _, hb2, hlr, hcl, hRl⟩ := (o3r.out.below hB zlw).at_ him
              have zb1 := Nat.lt_of_lt_of_le hb1 zf
              have zb2 := Nat.lt_of_lt_of_le hb2 zl
              have hfN := fL3.out fr (List.mem_of_getElem? hfr)
              have hlN := fL2.out lr (List.mem_of_getElem? hlr)
              obtain rfl : N = nk := by have := hRf.len; omega
              obtain rfl : N = nl := by have := hRl.len; omega
              have hst := cmp2_step hlr hfr
              have hcm' := hcm.out
              rw [hst] at hcm'
              have hlk : ∀ q, Calls Tryz.prog 19 #[.slice Ak N ck, .slice Al N cl] (wr.drewN q) fun e w'' => e = .returned (.bool (decide (fr = lr))) ∧ ∃ t, w'' = wr.drewN t := fun q => by
                refine (like_q Ak N ck fr Al N cl lr (wr.drewN q) _ _ _ _ hRf hRl zf zl).mono ?_
                rintro e w'' ⟨he, t, ht⟩
                exact ⟨he, q + t, by rw [ht, World.drewN_drewN]⟩
              clear hst
              by_cases e : fr = lr
              · subst e
                rw [decide_eq_true (rfl : fr = fr)] at hlk
                rw [if_pos (cmpL_refl fr)] at hcm'
                replace hlk := Lib.hid hlk
                replace hcm' := Lib.hid hcm'
                replace hfr := Lib.hid hfr
                replace hlr := Lib.hid hlr
                replace hfN := Lib.hid hfN
                replace hlN := Lib.hid hlN
                clear hRf hRl
                go_wp2_with fail
                go_quiet ((go_at_call 19; exact hlk.out _))
                go_wp2_with fail
                go_roundw
                case measure => simp [intOf]; omega
                case rel => exact ⟨i + 1, by omega, by go_num, hcm', below_dn hB _⟩
              · rw [decide_eq_false e] at hlk
                have hne : cmpL lr fr ≠ 0 := fun g => e ((cmpL_zero lr fr).1 g).symm
                rw [if_neg hne] at hcm'
                have hlt : cmpL lr fr < 0 := by omega
                clear hcm' hne
                replace hlk := Lib.hid hlk
                replace hlt := Lib.hid hlt
                replace hfr := Lib.hid hfr
                replace hlr := Lib.hid hlr
                replace hRf := Lib.hid hRf
                replace hRl := Lib.hid hRl
                obtain ⟨wi, rfl⟩ : ∃ wi : World, wi = wr := ⟨_, rfl⟩
                clear e
                go_wp2_with fail
                go_quiet ((go_at_call 19; exact hlk.out _))
                go_wp2_with fail
                go_loopw [32] (fun jv wq => ∃ f : Nat, f ≤ N ∧ jv = .int .i64 f ∧ Hid (cmpL (lr.drop f) (fr.drop f) < 0) ∧ Below wi.heap.size wi wq) (fun jv _ => N - (intOf jv).toNat)
                case atStart => exact ⟨0, by omega, rfl, Lib.hid (by rw [List.drop_zero, List.drop_zero]; exact hlt.out), below_dn (Below.refl _ _) _⟩
                case round =>
                  obtain ⟨f, hf, rfl, hc, hB2⟩ := hrel
                  have F3 := (hB2.cell (p := ⟨bD3, 0, none⟩) zD3).trans E3
                  have F7 := (hB2.cell (p := ⟨b7, 0, none⟩) zb7).trans E7
                  have G1 := (hB2.cell (p := ⟨b1, ofa + i, none⟩) zb1).trans hcf
                  have G2 := (hB2.cell (p := ⟨b2, ofb + i, none⟩) zb2).trans hcl
                  by_cases hfN2 : f < N
                  · obtain ⟨b3, ofc, yv, rfl, _, _, hyv, hcy⟩ := (hRf.out.below hB2 zf).at_ hfN2
                    obtain ⟨b4, ofd, xv, rfl, _, _, hxv, hcx⟩ := (hRl.out.below hB2 zl).at_ hfN2
                    have hst := cmpL_step hxv hyv
                    have hc' := hc.out
                    rw [hst] at hc'
                    clear hst
                    replace hxv := Lib.hid hxv
                    replace hyv := Lib.hid hyv
                    by_cases exy : yv = xv
                    · subst exy
                      rw [if_neg (by omega), if_neg (by omega)] at hc'
                      have dxy : (yv != yv) = false := by simp
                      replace hc' := Lib.hid hc'
                      go_wp2_with fail
                      go_quiet (fail)
                      go_wp2_with fail
                      go_roundw
                      case measure => simp [intOf]; omega
                      case rel => exact ⟨f + 1, by omega, by go_num, hc', below_dn hB2 _⟩
                    · have hxy : xv < yv := by
                        by_cases g1 : xv < yv
                        · exact g1
                        · rw [if_neg g1, if_pos (by omega)] at hc'; omega
                      have dxy : (yv != xv) = true := by simpa using exy
                      have dlt : decide (xv < yv) = true := decide_eq_true hxy
                      clear hc'
                      go_wp2_with fail
                      go_quiet (fail)
                      go_wp2_with fail
                      go_quiet (fail)
                      go_wp2_with fail
                      go_ret
                      exact ⟨rfl, (B25.trans (hB.mono zww)).trans ((below_dn (below_dn hB2 _) _).mono zw)⟩
                  · exfalso
                    have := hc.out
                    rw [List.drop_eq_nil_of_le (by omega), List.drop_eq_nil_of_le (by omega)] at this
                    simp [cmpL] at this
            · obtain rfl : i = m := by omega
              go_wp2_with fail
              go_ret
              exact ⟨rfl, B25.trans (hB.mono zww)⟩
set_option maxRecDepth 100000 in
theorem lifted (os : Os) (started : os.Started) (H : Type) (enc : TypeId × Value → H) :
    ReturnsInHanded {} Tryz.checked os 3 .any (Rows.fnRenumberedSpec.pre6 enc Tryz.prog Tryz.f3 Rows.fnRenumberedRow.domain false) (Rows.fnRenumberedSpec.post enc Tryz.prog Tryz.f3 false true false false) := by
  refine returnsInHanded_of_change (C := Tryz.checked) own started (by kernel_rfl) Tryz.func3
    (ChangeSpec.witness6 (enc := enc) (C := Tryz.checked) false ⟨#[], #[.slice none 0 0], []⟩ 8 (by kernel_rfl) (by kernel_rfl) (by kernel_rfl) (by kernel_rfl)) ?_
  intro W base args ds gs before hval0 hW hcnd _
  have hval : ∀ (j : Nat) t v, Tryz.f3.params[j]? = some t → args[j]? = some v → Value.okWide Tryz.prog W .any base t v := hval0
  have hW' := hW
  obtain ⟨p, q, hA0, hV, rfl, hfz, hnd⟩ := hW
  have hA : DataW.TrodAll enc Tryz.prog W 0 (fun _ => true) true Tryz.f3.params.toList args.toList ds p := hA0
  rw [Tryz.params3] at hA hval
  obtain ⟨v0, vs0, d0, ds0, p0, q0, hargs, rfl, rfl, h0, r0⟩ := trodAll_cons hA
  obtain ⟨rfl, rfl, rfl⟩ := trodAll_nil r0
  obtain rfl : args = #[v0] := by cases args; simp_all
  obtain ⟨rfl, rfl⟩ := trodVars_none hV
  obtain ⟨a0, n0, c0, rfl⟩ := okWide_slice Tryz.underlying22 (hval 0 22 v0 rfl rfl)
  have k0 := h0
  have lt0 : ∀ x ∈ p0, x.block < W.heap.size := by obtain ⟨m, hm⟩ := k0; exact DataW.trod_lt m _ _ _ hm
  obtain ⟨xs0, w0, b0⟩ := open_RB Tryz.underlying22 Tryz.underlying5 (by kernel_rfl) h0
  clear hA0 hval0
  refine (walk a0 n0 c0 xs0 W w0 b0).mono fun e W' ⟨he, bel⟩ => ?_
  subst he
  exact ⟨_, rfl, _, _, _, [], _, [], hW', trodAll_mk1 (shut_bool Tryz.underlying4 _), (trodAll_cons_mk (Below.trod laidOut (by kernel_rfl) (of_decide_eq_true (by kernel_rfl)) k0 bel lt0) trodAll_mk0), rfl, bel.frame _, fun h => by cases h⟩
theorem over : Rows.fnRenumberedRow.holds Tryz.pinned (OpenSpec.ofChange Rows.fnRenumberedSpec) :=
  OpenClaim.holds_of_wide 3 Tryz.f3 rfl rfl rfl rfl rfl rfl rfl ⟨rfl, rfl, rfl, rfl, rfl⟩ rfl rfl rfl rfl rfl (by kernel_rfl) Tryz.func3 (by kernel_rfl)
    (of_decide_eq_true (by kernel_rfl)) (by unfold Func.isWrapper; first | (rw [if_pos (by decide +kernel)]; kernel_rfl) | (rw [if_neg (by decide +kernel)]; exact ⟨rfl, rfl⟩))
    (fun os started H enc _ => lifted os started H enc)
/-- THE STATEMENT -/
theorem proved : Rows.FnRenumberedSaid := over
end Go.Proofs.YtbioelmofceaaaaGreat.fnRenumbered
