/- FnPaths: a first word of a drawn maniplex leads where it should, and no move changes a distance by more than one: the law returns true for every code. No condition. -/
import Derived.Test.YtdaljeghdiknpaaRows
import Derived.Test.YtdaljeghdiknpaaHPaths
namespace Go.Proofs.Ytdaljeghdiknpaa.fnPaths
open Go.ChangeShapes Go.WideShapes Go.ChangeAt Go.RowKit
open Go.ChangeMaps (open_string shut_string)
set_option linter.unusedVariables false
theorem own : ownKnob Try.prog.godebug = none := by kernel_rfl
theorem laidOut : laidOutB Try.prog = true := by kernel_rfl
set_option maxRecDepth 100000 in
set_option maxHeartbeats 8000000 in
theorem walk (a : Option Addr) (n c : Nat) (bs : List Int) (w : World) (h : Rd w 0 w.heap.size a n (bs.map (Value.int .u8))) (hb : ∀ x ∈ bs, 0 ≤ x ∧ x < 256) :
    Calls Try.prog 6 #[.slice a n c] w fun e w' => e = .returned (.bool true) ∧ Below w.heap.size w w' := by
  have hm := h.2.1
  have hbig := bigl_any a n c w hm
  by_cases h4 : 4096 < n
  · rw [decide_eq_true h4] at hbig
    replace hb := Lib.hid hb
    go_enter Try.func6, Try.ntmps6
    go_wp2_with fail
    ((with_reducible refine hbig.mono ?_); rintro e w' ⟨rfl, rfl⟩)
    go_wp2_with fail
    go_ret
    exact ⟨rfl, Below.refl _ _⟩
  · rw [decide_eq_false h4] at hbig
    have hdr := drawWord_any w a n c bs h hb (by omega)
    replace hb := Lib.hid hb
    go_enter Try.func6, Try.ntmps6
    go_wp2_with fail
    ((with_reducible refine hbig.mono ?_); rintro e w' ⟨rfl, rfl⟩)
    go_wp2_with fail
    ((with_reducible refine hdr.mono ?_); rintro e w1 ⟨A1, m, c1, x, y, rfl, hx, hy, xss, R1, hmc, f1⟩)
    clear hbig hdr
    have y1 := f1.size
    have hmx := R1.max
    unfold IR64 at hx hy
    go_wp2_with fail
    obtain ⟨w2, hw2⟩ : ∃ w2, w1.alloc (.cells #[.slice A1 m c1] 40) = w2 := ⟨_, rfl⟩
    have Ba : Below w1.heap.size w1 w2 := by rw [← hw2]; exact (Below.refl _ _).alloc (Nat.le_refl _) _
    have C2 : w2.cell? ⟨w1.heap.size, 0, none⟩ = some (.slice A1 m c1) := by rw [← hw2]; exact al_new _ _ _ _ rfl
    have y2 : w1.heap.size < w2.heap.size := by rw [← hw2]; simp
    rw [hw2]
    have R2 := R1.below Ba (Nat.le_refl _)
    have B2 : Below w.heap.size w w2 := f1.trans (Ba.mono y1)
    obtain ⟨b, hbq⟩ : ∃ b, w1.heap.size = b := ⟨_, rfl⟩
    rw [hbq] at C2 y1 y2 R2 ⊢
    clear hw2 Ba f1 R1 hbq
    go_wp2_with fail
    ((with_reducible refine (i_FirstWord_any w2 A1 m c1 xss R2 (by omega) hmc x hx y hy).mono ?_); rintro e w3 ⟨A3, n3, c3, zs, code, rfl, H3, o3, hn3, f3⟩)
    have y3 := f3.size
    have B3 := below_then B2 f3 (by omega)
    have R3 := R2.below f3 (by omega)
    have C3 := (f3.cell (p := ⟨b, 0, none⟩) (by simp; omega)).trans C2
    clear C2 R2
    go_wp2_with fail
    ((with_reducible refine (s_FirstWord_any w3 A1 m c1 xss R3 (by omega) hmc x hx y hy).mono ?_); rintro e w4 ⟨A4, n4, c4, zs2, code2, rfl, H4, o4, hn4, f4⟩)
    have y4 := f4.size
    have B4 := below_then B3 f4 (by omega)
    have R4 := R3.below f4 (by omega)
    have C4 := (f4.cell (p := ⟨b, 0, none⟩) (by simp; omega)).trans C3
    have o3 := o3.below f4 (by omega)
    clear C3 R3
    obtain ⟨rfl, rfl⟩ : zs = zs2 ∧ code = code2 := by have e := H3.out.trans H4.out.symm; exact Prod.mk.inj e
    clear H4
    have dne : (code != code) = false := by simp
    go_wp2_with fail
    ((with_reducible refine (like_any A3 n3 c3 zs A4 n4 c4 zs w4 _ _ _ _ o3.ri o4.ri (by omega) (by omega)).mono ?_); rintro e w5 ⟨rfl, f5⟩)
    have y5 := f5.size
    have B5 := below_then B4 f5 (by omega)
    have R5 := R4.below f5 (by omega)
    have C5 := (f5.cell (p := ⟨b, 0, none⟩) (by simp; omega)).trans C4
    have o3 := o3.below f5 (by omega)
    clear C4 R4
    rw [decide_eq_true (rfl : zs = zs)]
    clear o4
    by_cases hbad : code = 1 ∨ code = 2
    · replace H3 := Lib.hid H3
      rcases hbad with rfl | rfl
      · go_wp2_with fail
        go_ret
        exact ⟨rfl, B5⟩
      · go_wp2_with fail
        go_ret
        exact ⟨rfl, B5⟩
    · have e1 : (code == 1) = false := by simp; omega
      have e2 : (code == 2) = false := by simp; omega
      have H3' := H3.out
      unfold fwF at H3'
      have hM : isManB xss = true := by
        cases hM : isManB xss with
        | true => rfl
        | false => rw [hM] at H3'; have := (Prod.mk.inj H3').2; omega
      rw [if_pos hM] at H3'
      have hP := isManB_iff.1 hM
      obtain ⟨N, hN⟩ : ∃ N, flg xss = N := ⟨_, rfl⟩
      have hN2 : 2 ≤ N := by rw [← hN]; exact hP.f2
      have hN4 : N ≤ 400 := by rw [← hN]; exact hP.f4
      have hml : xss.length = m := R5.len
      have hm1 : 1 ≤ m := by rw [← hml]; exact hP.r1
      have hm5 : m ≤ 5 := by rw [← hml]; exact hP.r5
      have hS : SysOf xss N := by rw [← hN]; exact hP.sys
      have hcon : Conn xss N := by rw [← hN]; exact hP.conn
      have hinv : Invo xss N := by rw [← hN]; exact hP.invo
      have hxr : inR 0 ((flg xss : Nat) - 1 : Int) x = true := by
        cases hxr : inR 0 ((flg xss : Nat) - 1 : Int) x with
        | true => rfl
        | false => rw [hxr] at H3'; have := (Prod.mk.inj H3').2; omega
      rw [if_pos hxr] at H3'
      have hyr : inR 0 ((flg xss : Nat) - 1 : Int) y = true := by
        cases hyr : inR 0 ((flg xss : Nat) - 1 : Int) y with
        | true => rfl
        | false => rw [hyr] at H3'; have := (Prod.mk.inj H3').2; omega
      rw [if_pos hyr, hN] at H3'
      have hdF : distF xss x = (dist xss N x, 0) := by unfold distF; rw [if_pos hM, if_pos hxr, hN]
      have hxb := inR_iff.1 hxr
      have hyb := inR_iff.1 hyr
      rw [hN] at hxb hyb
      obtain ⟨X, rfl⟩ := Int.eq_ofNat_of_zero_le hxb.1
      obtain ⟨Y, rfl⟩ := Int.eq_ofNat_of_zero_le hyb.1
      have hXN : X < N := by omega
      have hYN : Y < N := by omega
      have hD := dist_fin hS hcon (x := (X : Int)) (by omega) (by omega)
      have hE := dist_fin hS hcon (x := (Y : Int)) (by omega) (by omega)
      have hDl := dist_length hS (x := (X : Int)) (by omega) (by omega)
      have hsy := dist_symm hS hinv hD hE (by omega) (by omega) (by omega) (by omega)
      have hdia : ∀ v ∈ dist xss N (X : Int), v ≤ diaGo xss N N := dia_ge N X hXN
      obtain ⟨D, hDe⟩ : ∃ D, dist xss N (X : Int) = D := ⟨_, rfl⟩
      rw [hDe] at hdF hD hDl hsy hdia
      have hdF' : diaF xss = (diaGo xss N N, 0) := by unfold diaF; rw [if_pos hM, hN]
      obtain ⟨M, hMe⟩ : ∃ M, diaGo xss N N = M := ⟨_, rfl⟩
      rw [hMe] at hdF' hdia
      have hrX := hD.rng (X : Int) (by omega) (by omega)
      have hrY := hD.rng (Y : Int) (by omega) (by omega)
      obtain ⟨dy, hdy⟩ := Int.eq_ofNat_of_zero_le hrY.1
      have hDX : D[X]? = some (0 : Int) := by
        have := get?_getD (xs := D) (k := X) 0 (by omega)
        rw [this]
        have := hD.zero
        unfold dat at this
        rw [Int.toNat_natCast] at this
        rw [this]
      have hDY : D[Y]? = some (dy : Int) := by
        have := get?_getD (xs := D) (k := Y) 0 (by omega)
        rw [this]
        unfold dat at hdy
        rw [Int.toNat_natCast] at hdy
        rw [hdy]
      have hdyM := hdia _ (mem_of_get? hDY)
      have hrun : ∀ d : Nat, dat (dist xss N (Y : Int)) (X : Int) = d → d ≤ 64 → runF xss (X : Int) (fwL xss (dist xss N (Y : Int)) d (X : Int)) = ((Y : Int), 0) ∧ (fwL xss (dist xss N (Y : Int)) d (X : Int)).length = d := by
        intro d hd h64
        obtain ⟨k1, k2⟩ := fw_run hS hinv hE d (X : Int) (by omega) (by omega) hd
        have hlen := fwL_length xss (dist xss N (Y : Int)) d (X : Int)
        refine ⟨?_, hlen⟩
        unfold runF
        rw [if_pos hM, if_pos, k1]
        rw [hxr, hlen]
        simp only [Bool.true_and, Bool.and_eq_true, decide_eq_true_eq]
        refine ⟨h64, ?_⟩
        unfold allIn
        rw [List.all_eq_true]
        intro g hg
        rw [inR_iff]
        have := k2 g hg
        omega
      rw [← hsy, hdy] at H3'
      clear hM hP hxr hyr hE hcon hdia hxb hyb hDe hMe
      replace hD := Lib.hid hD
      replace hS := Lib.hid hS
      replace hinv := Lib.hid hinv
      replace hml := Lib.hid hml
      replace hN := Lib.hid hN
      replace hDl := Lib.hid hDl
      replace hrun := Lib.hid hrun
      replace H3' := Lib.hid H3'
      replace hsy := Lib.hid hsy
      replace hdy := Lib.hid hdy
      replace hDX := Lib.hid hDX
      replace hDY := Lib.hid hDY
      clear H3 hrX hrY hbad
      go_wp2_with fail
      ((with_reducible refine (i_DistancesFrom_any w5 A1 m c1 xss R5 (by omega) hmc (X : Int) ⟨by omega, by omega⟩).mono ?_); rintro e w6 ⟨A7, n7, c7, ds, k7, rfl, H7, o7, hn7, f6⟩)
      have y6 := f6.size
      have B6 := below_then B5 f6 (by omega)
      have R6 := R5.below f6 (by omega)
      have C6 := (f6.cell (p := ⟨b, 0, none⟩) (by simp; omega)).trans C5
      have o3 := o3.below f6 (by omega)
      clear C5 R5
      obtain ⟨rfl, rfl⟩ := Prod.mk.inj (H7.out.trans hdF).symm
      clear H7 hdF
      obtain rfl : N = n7 := by have := o7.lenI; rw [hDl.out] at this; exact this
      have dN : ((N : Int) != (N : Int)) = false := by simp
      have h5 := flags5_any A1 m c1 xss w6 R6 (by omega) (by omega)
      rw [hN.out] at h5
      go_wp2_with fail
      ((with_reducible refine (h5).mono ?_); rintro e w7 ⟨rfl, f7⟩)
      have y7 := f7.size
      have B7 := below_then B6 f7 (by omega)
      have R7 := R6.below f7 (by omega)
      have C7 := (f7.cell (p := ⟨b, 0, none⟩) (by simp; omega)).trans C6
      have o3 := o3.below f7 (by omega)
      have o7 := o7.below f7 (by omega)
      clear C6 R6
      obtain ⟨b2, u2, z0, rfl, _, hb7, hz0, hcz⟩ := o7.ri.at_ hXN
      obtain rfl : (0 : Int) = z0 := by rw [hDX.out] at hz0; exact Option.some.inj hz0
      clear hz0 h5 f3 f4 f5 f6 f7
      go_wp2_with fail
      go_loopw [12] (fun fv wq => ∃ f : Nat, f ≤ N ∧ fv = .int .i64 f ∧ Below w7.heap.size w7 wq) (fun fv _ => N - (intOf fv).toNat)
      case atStart => exact ⟨0, by omega, rfl, Below.refl _ _⟩
      case round =>
        obtain ⟨f, hf, rfl, hB⟩ := hrel
        by_cases hlt : f < N
        · rename World => wf
          go_wp2_with fail
          go_loopw [13] (fun kv wq => ∃ k : Nat, k ≤ m ∧ kv = .int .i64 k ∧ Below w7.heap.size w7 wq) (fun kv _ => m - (intOf kv).toNat)
          case atStart => exact ⟨0, by omega, rfl, hB⟩
          case round =>
            clear hB
            obtain ⟨k, hk, rfl, hB⟩ := hrel
            have Cr := (hB.cell (p := ⟨b, 0, none⟩) (by simp; omega)).trans C7
            by_cases hkm : k < m
            · obtain ⟨b1, u1, Ak, nk, ck, row, rfl, _, _, hrow, hcrow, hRrow⟩ := (R7.below hB (by omega)).at_ hkm
              have hrm := List.mem_of_getElem? hrow
              have hsr := hS.out row hrm
              obtain rfl : N = nk := by have := hRrow.len; omega
              obtain ⟨b3, u3, qv, rfl, _, _, hqv, hcq⟩ := hRrow.at_ hlt
              obtain ⟨q0, q1⟩ := hsr.1 qv (List.mem_of_getElem? hqv)
              obtain ⟨Q, rfl⟩ := Int.eq_ofNat_of_zero_le q0
              have hQ : Q < N := by omega
              have at1 : at' row (f : Int) = (Q : Int) := by unfold at'; simp [List.getD_eq_getElem?_getD, hqv]
              obtain ⟨d1, hd1⟩ : ∃ v, D[f]? = some v := ⟨_, List.getElem?_eq_getElem (by have := hDl.out; omega)⟩
              obtain ⟨d2, hd2⟩ : ∃ v, D[Q]? = some v := ⟨_, List.getElem?_eq_getElem (by have := hDl.out; omega)⟩
              have hc1 := (o7.ri.below hB (by omega)).cell hd1
              have hc2 := (o7.ri.below hB (by omega)).cell hd2
              have t1 : dat D (f : Int) = d1 := by unfold dat; simp [List.getD_eq_getElem?_getD, hd1]
              have t2 : dat D (Q : Int) = d2 := by unfold dat; simp [List.getD_eq_getElem?_getD, hd2]
              have r1 := hD.out.rng (f : Int) (by omega) (by omega)
              have r2 := hD.out.rng (Q : Int) (by omega) (by omega)
              have l1 := hD.out.lip (f : Int) row (by omega) (by omega) hrm
              have l2 := hD.out.lip (Q : Int) row (by omega) (by omega) hrm
              rw [at1, t1, t2] at l1
              rw [← at1, hinv.out row hrm (f : Int) (by omega) (by omega), at1, t1, t2] at l2
              rw [t1] at r1
              rw [t2] at r2
              obtain ⟨gp, hgp⟩ : ∃ gp, d1 - d2 = gp := ⟨_, rfl⟩
              have hwg : IntKind.i64.wrap gp = gp := by rw [IntKind.wrap_i64]; omega
              have k1 : decide (gp < -1) = false := by simp; omega
              have k2 : decide (1 < gp) = false := by simp; omega
              clear t1 t2 r1 r2 l1 l2 at1
              replace hrow := Lib.hid hrow
              replace hqv := Lib.hid hqv
              replace hd1 := Lib.hid hd1
              replace hd2 := Lib.hid hd2
              replace hrm := Lib.hid hrm
              replace hsr := Lib.hid hsr
              go_wp2_with fail
              go_quiet (fail)
              go_wp2_with fail
              go_roundw
              case measure => simp [intOf]; omega
              case rel => exact ⟨k + 1, by omega, by go_num, below_dn hB _⟩
            · obtain rfl : k = m := by omega
              go_wp2_with fail
              go_roundw
              case measure => simp [intOf]; omega
              case rel => exact ⟨f + 1, by omega, by go_num, hB⟩
        · obtain rfl : f = N := by omega
          obtain ⟨w8, rfl⟩ : ∃ w8 : World, w8 = wr := ⟨_, rfl⟩
          have y8 := hB.size
          have B8 := below_then B7 hB (by omega)
          have R8 := R7.below hB (by omega)
          have C8 := (hB.cell (p := ⟨b, 0, none⟩) (by simp; omega)).trans C7
          have p3 := o3.below hB (by omega)
          have p7 := o7.below hB (by omega)
          clear C7 R7 hcz hB
          clear o3 o7
          have hcY := p7.ri.cell hDY.out
          by_cases h64 : (dy : Int) ≤ 64
          · have H4 := H3'.out
            rw [if_pos (decide_eq_true h64)] at H4
            obtain ⟨rfl, rfl⟩ := Prod.mk.inj H4
            rw [show ((dy : Int)).toNat = dy from Int.toNat_natCast dy] at p3
            have hr := hrun.out dy (by rw [← hsy.out]; exact hdy.out) (by omega)
            obtain ⟨W, hW⟩ : ∃ W, fwL xss (dist xss f (Y : Int)) dy (X : Int) = W := ⟨_, rfl⟩
            rw [hW] at hr p3
            have hn3e : n3 = dy := by have := p3.lenI; rw [hr.2] at this; exact this.symm
            subst hn3e
            have hr1 := hr.1
            replace hr1 := Lib.hid hr1
            replace hW := Lib.hid hW
            clear hr H4 H3' hrun
            go_wp2_with fail
            ((with_reducible refine (i_RunMoves_any w8 A1 m c1 xss R8 (by omega) hmc (X : Int) ⟨by omega, by omega⟩ A3 n3 c3 W p3.ri (by omega)).mono ?_); rintro e w9 ⟨ye, ke, rfl, H9, f9⟩)
            have y9 := f9.size
            have B9 := below_then B8 f9 (by omega)
            have R9 := R8.below f9 (by omega)
            have C9 := (f9.cell (p := ⟨b, 0, none⟩) (by simp; omega)).trans C8
            have p7 := p7.below f9 (by omega)
            clear C8 R8
            obtain ⟨rfl, rfl⟩ := Prod.mk.inj (H9.out.trans hr1.out)
            clear H9 hr1 hcY
            go_wp2_with fail
            ((with_reducible refine (i_DiameterOf_any w9 A1 m c1 xss R9 (by omega) hmc).mono ?_); rintro e w10 ⟨yd, kd, rfl, H10, f10⟩)
            have y10 := f10.size
            have B10 := below_then B9 f10 (by omega)
            have R10 := R9.below f10 (by omega)
            have C10 := (f10.cell (p := ⟨b, 0, none⟩) (by simp; omega)).trans C9
            have p7 := p7.below f10 (by omega)
            clear C9 R9
            obtain ⟨rfl, rfl⟩ := Prod.mk.inj (H10.out.trans hdF').symm
            clear H10 hdF'
            have hcY := p7.ri.cell hDY.out
            have dY : ((Y : Int) == (Y : Int)) = true := by simp
            have dd : ((n3 : Int) == (n3 : Int)) = true := by simp
            have dm : decide ((n3 : Int) ≤ M) = true := by simp; omega
            go_wp2_with fail
            go_ret
            exact ⟨rfl, B10⟩
          · have H4 := H3'.out
            rw [if_neg (by simpa using h64)] at H4
            obtain ⟨rfl, rfl⟩ := Prod.mk.inj H4
            have d64 : decide ((64 : Int) < (dy : Int)) = true := by simp; omega
            clear H4 H3' hrun
            go_wp2_with fail
            go_ret
            exact ⟨rfl, B8⟩
set_option maxRecDepth 100000 in
theorem lifted (os : Os) (started : os.Started) (H : Type) (enc : TypeId × Value → H) :
    ReturnsInHanded {} Try.checked os 6 .any (Rows.fnPathsSpec.pre6 enc Try.prog Try.f6 Rows.fnPathsRow.domain false) (Rows.fnPathsSpec.post enc Try.prog Try.f6 false true false false) := by
  refine returnsInHanded_of_change (C := Try.checked) own started (by kernel_rfl) Try.func6
    (ChangeSpec.witness6 (enc := enc) (C := Try.checked) false ⟨#[], #[.slice none 0 0], []⟩ 8 (by kernel_rfl) (by kernel_rfl) (by kernel_rfl) (by kernel_rfl)) ?_
  intro W base args ds gs before hval0 hW hcnd _
  have hval : ∀ (j : Nat) t v, Try.f6.params[j]? = some t → args[j]? = some v → Value.okWide Try.prog W .any base t v := hval0
  have hW' := hW
  obtain ⟨p, q, hA0, hV, rfl, hfz, hnd⟩ := hW
  have hA : DataW.TrodAll enc Try.prog W 0 (fun _ => true) true Try.f6.params.toList args.toList ds p := hA0
  rw [Try.params6] at hA hval
  obtain ⟨v0, vs0, d0, ds0, p0, q0, hargs, rfl, rfl, h0, r0⟩ := trodAll_cons hA
  obtain ⟨rfl, rfl, rfl⟩ := trodAll_nil r0
  obtain rfl : args = #[v0] := by cases args; simp_all
  obtain ⟨rfl, rfl⟩ := trodVars_none hV
  obtain ⟨a0, n0, c0, rfl⟩ := okWide_slice Try.underlying22 (hval 0 22 v0 rfl rfl)
  have k0 := h0
  have lt0 : ∀ x ∈ p0, x.block < W.heap.size := by obtain ⟨m, hm⟩ := k0; exact DataW.trod_lt m _ _ _ hm
  obtain ⟨xs0, w0, b0⟩ := open_RB Try.underlying22 Try.underlying5 (by kernel_rfl) h0
  clear hA0 hval0
  refine (walk a0 n0 c0 xs0 W w0 b0).mono fun e W' ⟨he, bel⟩ => ?_
  subst he
  exact ⟨_, rfl, _, _, _, [], _, [], hW', trodAll_mk1 (shut_bool Try.underlying4 _), (trodAll_cons_mk (Below.trod laidOut (by kernel_rfl) (of_decide_eq_true (by kernel_rfl)) k0 bel lt0) trodAll_mk0), rfl, bel.frame _, fun h => by cases h⟩
theorem over : Rows.fnPathsRow.holds Try.pinned (OpenSpec.ofChange Rows.fnPathsSpec) :=
  OpenClaim.holds_of_wide 6 Try.f6 rfl rfl rfl rfl rfl rfl rfl ⟨rfl, rfl, rfl, rfl, rfl⟩ rfl rfl rfl rfl rfl (by kernel_rfl) Try.func6 (by kernel_rfl)
    (of_decide_eq_true (by kernel_rfl)) (by unfold Func.isWrapper; first | (rw [if_pos (by decide +kernel)]; kernel_rfl) | (rw [if_neg (by decide +kernel)]; exact ⟨rfl, rfl⟩))
    (fun os started H enc _ => lifted os started H enc)
/-- THE STATEMENT -/
theorem proved : Rows.FnPathsSaid := over
end Go.Proofs.Ytdaljeghdiknpaa.fnPaths
