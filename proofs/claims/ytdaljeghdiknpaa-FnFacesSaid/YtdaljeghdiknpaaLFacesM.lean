/- FnFaces: the numbers of faces of a drawn maniplex are those of the labels, and the Euler characteristic is their alternating sum: the law returns true for every code. No condition. -/
import Derived.Test.YtdaljeghdiknpaaRows
import Derived.Test.YtdaljeghdiknpaaHFaces
namespace Go.Proofs.Ytdaljeghdiknpaa.fnFaces
open Go.ChangeShapes Go.WideShapes Go.ChangeAt Go.RowKit
open Go.ChangeMaps (open_string shut_string)
set_option linter.unusedVariables false
theorem own : ownKnob Try.prog.godebug = none := by kernel_rfl
theorem laidOut : laidOutB Try.prog = true := by kernel_rfl
def sgn (i : Nat) : Int := if i % 2 = 0 then 1 else -1
set_option maxRecDepth 100000 in
set_option maxHeartbeats 8000000 in
theorem walk (a : Option Addr) (n c : Nat) (bs : List Int) (w : World) (h : Rd w 0 w.heap.size a n (bs.map (Value.int .u8))) (hb : ∀ x ∈ bs, 0 ≤ x ∧ x < 256) :
    Calls Try.prog 5 #[.slice a n c] w fun e w' => e = .returned (.bool true) ∧ Below w.heap.size w w' := by
  have hm := h.2.1
  have hbig := bigl_any a n c w hm
  by_cases h4 : 4096 < n
  · rw [decide_eq_true h4] at hbig
    replace hb := Lib.hid hb
    go_enter Try.func5, Try.ntmps5
    go_wp2_with fail
    ((with_reducible refine hbig.mono ?_); rintro e w' ⟨rfl, rfl⟩)
    go_wp2_with fail
    go_ret
    exact ⟨rfl, Below.refl _ _⟩
  · rw [decide_eq_false h4] at hbig
    have hdr := drawCounts_any w a n c bs h hb (by omega)
    replace hb := Lib.hid hb
    go_enter Try.func5, Try.ntmps5
    go_wp2_with fail
    ((with_reducible refine hbig.mono ?_); rintro e w' ⟨rfl, rfl⟩)
    go_wp2_with fail
    ((with_reducible refine hdr.mono ?_); rintro e w1 ⟨A1, m, c1, rfl, xss, R1, hmc, f1⟩)
    clear hbig hdr
    have y1 := f1.size
    have hmx := R1.max
    go_wp2_with fail
    obtain ⟨w2, hw2⟩ : ∃ w2, w1.alloc (.cells #[.slice A1 m c1] 40) = w2 := ⟨_, rfl⟩
    have Ba : Below w1.heap.size w1 w2 := by rw [← hw2]; exact (Below.refl _ _).alloc (Nat.le_refl _) _
    have C2 : w2.cell? ⟨w1.heap.size, 0, none⟩ = some (.slice A1 m c1) := by rw [← hw2]; exact al_new _ _ _ _ rfl
    have y2 : w1.heap.size < w2.heap.size := by rw [← hw2]; simp
    rw [hw2]
    have R2 := R1.below Ba (Nat.le_refl _)
    have B2 : Below w.heap.size w w2 := f1.trans (Ba.mono y1)
    obtain ⟨b, hbq⟩ : ∃ b, w1.heap.size = b := ⟨_, rfl⟩
    rw [hbq] at C2 y1 y2 R2 ⊢
    clear hw2 Ba f1 R1 hbq
    go_wp2_with fail
    ((with_reducible refine (i_FaceCounts_any w2 A1 m c1 xss R2 (by omega) hmc).mono ?_); rintro e w3 ⟨A3, n3, c3, zs, code, rfl, H3, o3, hn3, f3⟩)
    have y3 := f3.size
    have B3 := below_then B2 f3 (by omega)
    have R3 := R2.below f3 (by omega)
    have C3 := (f3.cell (p := ⟨b, 0, none⟩) (by simp; omega)).trans C2
    clear C2 R2
    go_wp2_with fail
    ((with_reducible refine (s_FaceCounts_any w3 A1 m c1 xss R3 (by omega) hmc).mono ?_); rintro e w4 ⟨A4, n4, c4, zs2, code2, rfl, H4, o4, hn4, f4⟩)
    have y4 := f4.size
    have B4 := below_then B3 f4 (by omega)
    have R4 := R3.below f4 (by omega)
    have C4 := (f4.cell (p := ⟨b, 0, none⟩) (by simp; omega)).trans C3
    have o3 := o3.below f4 (by omega)
    clear C3 R3
    obtain ⟨rfl, rfl⟩ : zs = zs2 ∧ code = code2 := by have e := H3.out.trans H4.out.symm; exact Prod.mk.inj e
    clear H4
    have dne : (code != code) = false := by simp
    go_wp2_with fail
    ((with_reducible refine (like_any A3 n3 c3 zs A4 n4 c4 zs w4 _ _ _ _ o3.ri o4.ri (by omega) (by omega)).mono ?_); rintro e w5 ⟨rfl, f5⟩)
    have y5 := f5.size
    have B5 := below_then B4 f5 (by omega)
    have R5 := R4.below f5 (by omega)
    have C5 := (f5.cell (p := ⟨b, 0, none⟩) (by simp; omega)).trans C4
    have o3 := o3.below f5 (by omega)
    clear C4 R4
    rw [decide_eq_true (rfl : zs = zs)]
    clear o4
    go_wp2_with fail
    ((with_reducible refine (i_IsManiplex_any A1 m c1 xss w5 R5 (by omega) hmc).mono ?_); rintro e w6 ⟨rfl, f6⟩)
    have y6 := f6.size
    have B6 := below_then B5 f6 (by omega)
    have R6 := R5.below f6 (by omega)
    have C6 := (f6.cell (p := ⟨b, 0, none⟩) (by simp; omega)).trans C5
    have o3 := o3.below f6 (by omega)
    clear C5 R5
    cases hM : isManB xss with
    | false =>
      have e1 : zs = [] ∧ code = 1 := by have e := H3.out; unfold fcF at e; rw [hM] at e; exact Prod.mk.inj e
      obtain ⟨rfl, rfl⟩ := e1
      replace hM := Lib.hid hM
      go_wp2_with fail
      go_ret
      exact ⟨rfl, B6⟩
    | true =>
      have hP := isManB_iff.1 hM
      obtain ⟨N, hN⟩ : ∃ N, flg xss = N := ⟨_, rfl⟩
      have hN2 : 2 ≤ N := by rw [← hN]; exact hP.f2
      have hN4 : N ≤ 400 := by rw [← hN]; exact hP.f4
      have hml : xss.length = m := R6.len
      have hm1 : 1 ≤ m := by rw [← hml]; exact hP.r1
      have hm5 : m ≤ 5 := by rw [← hml]; exact hP.r5
      have hS : SysOf xss N := by rw [← hN]; exact hP.sys
      have e1 : zs = cntsL xss N ∧ code = 0 := by have e := H3.out; unfold fcF at e; rw [if_pos hM, hN] at e; exact Prod.mk.inj e
      obtain ⟨rfl, rfl⟩ := e1
      have hfl : ∀ i : Nat, i < m → fclF xss (i : Int) = (labL (xss.eraseIdx i) N, 0) := by
        intro i hi
        unfold fclF
        rw [if_pos hM, hN, if_pos (by simp; omega), Int.toNat_natCast]
      have heu : eulF xss = (eulGo (cntsL xss N) m, 0) := by unfold eulF; rw [if_pos hM, hN, hml]
      have hSL : ∀ i : Nat, SysOf (xss.eraseIdx i) N := fun i p hp => hS p (List.mem_of_mem_eraseIdx hp)
      have hcb := cntsL_bound (xss := xss) (n := N) hN4
      have heb := eulGo_bound (l := cntsL xss N) (B := 400) (by omega) hcb
      have hn3e : m = n3 := by have := o3.lenI; rw [cntsL_length, hml] at this; exact this
      subst hn3e
      clear H3 hM hP hcb
      replace hS := Lib.hid hS
      replace hml := Lib.hid hml
      replace hN := Lib.hid hN
      replace hfl := Lib.hid hfl
      replace heu := Lib.hid heu
      replace hSL := Lib.hid hSL
      replace heb := Lib.hid heb
      have d0 : ((0 : Int) != 0) = false := by simp
      clear f3 f4 f5 f6
      go_wp2_with fail
      go_loopw [8, 9, 10] (fun tv sv iv wq => ∃ i : Nat, i ≤ m ∧ tv = .int .i64 (eulGo (cntsL xss N) i) ∧ sv = .int .i64 (sgn i) ∧ iv = .int .i64 i ∧ Below w6.heap.size w6 wq) (fun _ _ iv _ => m - (intOf iv).toNat)
      case atStart => exact ⟨0, by omega, rfl, rfl, rfl, Below.refl _ _⟩
      case round =>
        obtain ⟨i, hi, rfl, rfl, rfl, hB⟩ := hrel
        obtain ⟨wi, rfl⟩ : ∃ wi : World, wi = wr := ⟨_, rfl⟩
        have yi := hB.size
        have Bi := below_then B6 hB (by omega)
        have Ri := R6.below hB (by omega)
        have Ci := (hB.cell (p := ⟨b, 0, none⟩) (by simp; omega)).trans C6
        have oi := o3.below hB (by omega)
        by_cases him : i < m
        · have hflI := hfl.out i him
          have hSLi := hSL.out i
          obtain ⟨L, hL⟩ : ∃ L, xss.eraseIdx i = L := ⟨_, rfl⟩
          rw [hL] at hflI hSLi
          have hcI : (cntsL xss N)[i]? = some (cntR L N : Int) := by rw [cntsL_get (by have := hml.out; omega), hL]
          have hmemL : ∀ (k : Nat) row, k ≠ i → xss[k]? = some row → row ∈ L := by
            intro k row hk hr
            rw [← hL]
            exact List.mem_eraseIdx_iff_getElem?.2 ⟨k, hk, hr⟩
          have hfI := i_FaceLabels_any wi A1 m c1 xss Ri (by omega) hmc (i : Int) ⟨by omega, by omega⟩
          replace hL := Lib.hid hL
          replace hSLi := Lib.hid hSLi
          replace hmemL := Lib.hid hmemL
          replace hflI := Lib.hid hflI
          go_wp2_with fail
          ((with_reducible refine hfI.mono ?_); rintro e w7 ⟨A7, n7, c7, ls, k7, rfl, H7, o7, hn7, f7⟩)
          obtain ⟨rfl, rfl⟩ := Prod.mk.inj (H7.out.trans hflI.out)
          clear H7 hfI
          obtain rfl : N = n7 := by have := o7.lenI; rw [labL_length] at this; exact this
          have y7 := f7.size
          have R7 := Ri.below f7 (by omega)
          have C7 := (f7.cell (p := ⟨b, 0, none⟩) (by simp; omega)).trans Ci
          have oi := oi.below f7 (by omega)
          have h5 := flags5_any A1 m c1 xss w7 R7 (by omega) (by omega)
          rw [hN.out] at h5
          have dN : ((N : Int) != (N : Int)) = false := by simp
          go_wp2_with fail
          ((with_reducible refine h5.mono ?_); rintro e w8 ⟨rfl, f8⟩)
          have y8 := f8.size
          have R8 := R7.below f8 (by omega)
          have C8 := (f8.cell (p := ⟨b, 0, none⟩) (by simp; omega)).trans C7
          have oi := oi.below f8 (by omega)
          have o7 := o7.below f8 (by omega)
          have B8 : Below w6.heap.size w6 w8 := below_then (below_then hB f7 (by omega)) f8 (by omega)
          clear h5 C7 R7 Ci Ri f7 f8
          go_wp2_with fail
          go_loopw [13, 14] (fun mv fv wq => ∃ f : Nat, f ≤ N ∧ mv = .int .i64 (cntR L f : Nat) ∧ fv = .int .i64 f ∧ Below w8.heap.size w8 wq) (fun _ fv _ => N - (intOf fv).toNat)
          case atStart => exact ⟨0, by omega, by simp [cntR], rfl, Below.refl _ _⟩
          case round =>
            clear hB
            obtain ⟨f, hf, rfl, rfl, hB⟩ := hrel
            obtain ⟨wf, rfl⟩ : ∃ wf : World, wf = wr := ⟨_, rfl⟩
            have yf := hB.size
            have Rf := R8.below hB (by omega)
            have Cf := (hB.cell (p := ⟨b, 0, none⟩) (by simp; omega)).trans C8
            have h5 := flags5_any A1 m c1 xss wf Rf (by omega) (by omega)
            rw [hN.out] at h5
            by_cases hlt : f < N
            · have hle := cntR_le_n (list := L) f
              obtain ⟨x, hx⟩ := Int.eq_ofNat_of_zero_le (labOf_nonneg L f)
              have hxl : (labL L N)[f]? = some (x : Int) := by rw [labL_get hlt, hx]
              have hst := lab_step hSLi.out hlt
              rw [hx] at hst
              obtain ⟨q, hq⟩ : ∃ q, cntR L f = q := ⟨_, rfl⟩
              obtain ⟨q2, hq2⟩ : ∃ q, cntR L (f + 1) = q := ⟨_, rfl⟩
              rw [hq, hq2] at hst
              rw [hq] at hle ⊢
              go_wp2_with fail
              ((with_reducible refine h5.mono ?_); rintro e w9 ⟨rfl, f9⟩)
              have y9 := f9.size
              have B9 : Below w8.heap.size w8 w9 := below_then hB f9 (by omega)
              have C9 := (f9.cell (p := ⟨b, 0, none⟩) (by simp; omega)).trans Cf
              have R9 := Rf.below f9 (by omega)
              have o7f := o7.below B9 (by omega)
              obtain ⟨b2, u2, xv, rfl, _, _, hxv, hcx⟩ := o7f.ri.at_ hlt
              obtain rfl : (x : Int) = xv := by rw [hxl] at hxv; exact Option.some.inj hxv
              have dx : decide ((x : Int) < 0) = false := by simp
              clear hxv h5 Cf Rf f9 hB
              replace hxl := Lib.hid hxl
              replace hx := Lib.hid hx
              replace hq := Lib.hid hq
              replace hq2 := Lib.hid hq2
              rcases hst with ⟨g1, g2⟩ | ⟨g1, g2⟩
              · obtain rfl : x = q := by omega
                have d1 : decide ((x : Int) < (x : Int)) = false := by simp
                have d2 : ((x : Int) == (x : Int)) = true := by simp
                have hq2e : q2 = x + 1 := g2
                clear g1 g2
                subst hq2e
                go_wp2_with fail
                go_loopw [15] (fun kv wq => ∃ k : Nat, k ≤ m ∧ kv = .int .i64 k ∧ Below w9.heap.size w9 wq) (fun kv _ => m - (intOf kv).toNat)
                case atStart => exact ⟨0, by omega, rfl, Below.refl _ _⟩
                case round =>
                  obtain ⟨k, hk, rfl, hB⟩ := hrel
                  have yk := hB.size
                  have Ck := (hB.cell (p := ⟨b, 0, none⟩) (by simp; omega)).trans C9
                  by_cases hkm : k < m
                  · by_cases hki : k = i
                    · subst hki
                      have dk : ((k : Int) != (k : Int)) = false := by simp
                      go_wp2_with fail
                      go_quiet (fail)
                      go_wp2_with fail
                      go_roundw
                      case measure => simp [intOf]; omega
                      case rel => exact ⟨k + 1, by omega, by go_num, below_dn hB _⟩
                    · have dk : ((k : Int) != (i : Int)) = true := by simp; omega
                      obtain ⟨b1, u1, Ak, nk, ck, row, rfl, _, _, hrow, hcrow, hRrow⟩ := (R9.below hB (by omega)).at_ hkm
                      have hsr := hS.out row (List.mem_of_getElem? hrow)
                      obtain rfl : N = nk := by have := hRrow.len; omega
                      obtain ⟨b3, u3, qv, rfl, _, _, hqv, hcq⟩ := hRrow.at_ hlt
                      obtain ⟨Q, rfl, hQ, hlq⟩ := lab_at hSLi.out hlt (hmemL.out k row hki hrow) hqv
                      rw [hx.out] at hlq
                      have hcQ := (o7f.ri.below hB (by omega)).cell hlq
                      have hcP := (o7f.ri.below hB (by omega)).cell hxl.out
                      have dne2 : ((x : Int) != (x : Int)) = false := by simp
                      replace hrow := Lib.hid hrow
                      replace hqv := Lib.hid hqv
                      replace hlq := Lib.hid hlq
                      replace hsr := Lib.hid hsr
                      go_wp2_with fail
                      go_quiet (fail)
                      go_wp2_with fail
                      go_roundw
                      case measure => simp [intOf]; omega
                      case rel => exact ⟨k + 1, by omega, by go_num, below_dn hB _⟩
                  · have dkm : decide ((k : Int) < (m : Int)) = false := by simp; omega
                    go_wp2_with fail
                    go_roundw
                    case measure => simp [intOf]; omega
                    case rel => exact ⟨f + 1, by omega, by first | (rw [hq2.out]; done) | (rw [hq2.out]; go_num), by go_num, below_then B9 hB (by omega)⟩
              · have g3 : x < q := by omega
                have d1 : decide ((q : Int) < (x : Int)) = false := by simp; omega
                have d2 : ((x : Int) == (q : Int)) = false := by simp; omega
                have hq2e : q2 = q := g2
                clear g1 g2
                subst hq2e
                go_wp2_with fail
                go_loopw [15] (fun kv wq => ∃ k : Nat, k ≤ m ∧ kv = .int .i64 k ∧ Below w9.heap.size w9 wq) (fun kv _ => m - (intOf kv).toNat)
                case atStart => exact ⟨0, by omega, rfl, Below.refl _ _⟩
                case round =>
                  obtain ⟨k, hk, rfl, hB⟩ := hrel
                  have yk := hB.size
                  have Ck := (hB.cell (p := ⟨b, 0, none⟩) (by simp; omega)).trans C9
                  by_cases hkm : k < m
                  · by_cases hki : k = i
                    · subst hki
                      have dk : ((k : Int) != (k : Int)) = false := by simp
                      go_wp2_with fail
                      go_quiet (fail)
                      go_wp2_with fail
                      go_roundw
                      case measure => simp [intOf]; omega
                      case rel => exact ⟨k + 1, by omega, by go_num, below_dn hB _⟩
                    · have dk : ((k : Int) != (i : Int)) = true := by simp; omega
                      obtain ⟨b1, u1, Ak, nk, ck, row, rfl, _, _, hrow, hcrow, hRrow⟩ := (R9.below hB (by omega)).at_ hkm
                      have hsr := hS.out row (List.mem_of_getElem? hrow)
                      obtain rfl : N = nk := by have := hRrow.len; omega
                      obtain ⟨b3, u3, qv, rfl, _, _, hqv, hcq⟩ := hRrow.at_ hlt
                      obtain ⟨Q, rfl, hQ, hlq⟩ := lab_at hSLi.out hlt (hmemL.out k row hki hrow) hqv
                      rw [hx.out] at hlq
                      have hcQ := (o7f.ri.below hB (by omega)).cell hlq
                      have hcP := (o7f.ri.below hB (by omega)).cell hxl.out
                      have dne2 : ((x : Int) != (x : Int)) = false := by simp
                      replace hrow := Lib.hid hrow
                      replace hqv := Lib.hid hqv
                      replace hlq := Lib.hid hlq
                      replace hsr := Lib.hid hsr
                      go_wp2_with fail
                      go_quiet (fail)
                      go_wp2_with fail
                      go_roundw
                      case measure => simp [intOf]; omega
                      case rel => exact ⟨k + 1, by omega, by go_num, below_dn hB _⟩
                  · have dkm : decide ((k : Int) < (m : Int)) = false := by simp; omega
                    go_wp2_with fail
                    go_roundw
                    case measure => simp [intOf]; omega
                    case rel => exact ⟨f + 1, by omega, by first | (rw [hq2.out]; done) | (rw [hq2.out]; go_num), by go_num, below_then B9 hB (by omega)⟩
            · obtain rfl : f = N := by omega
              have B9 : Below w6.heap.size w6 wf := below_then B8 hB (by omega)
              have oi2 := oi.below hB (by omega)
              obtain ⟨b2, u2, xv, rfl, _, _, hxv, hcx⟩ := oi2.ri.at_ him
              obtain ⟨q, hq⟩ : ∃ q, cntR L f = q := ⟨_, rfl⟩
              have hle := cntR_le_n (list := L) f
              rw [hq] at hcI hle ⊢
              obtain rfl : (q : Int) = xv := by rw [hcI] at hxv; exact Option.some.inj hxv
              have dq : ((q : Int) != (q : Int)) = false := by simp
              have hb1 := heb.out i
              have hes := eulGo_succ (cntsL xss f) i
              rw [show (cntsL xss f).getD i 0 = (q : Int) from getD_some hcI] at hes
              obtain ⟨T, hT⟩ : ∃ T, eulGo (cntsL xss f) i = T := ⟨_, rfl⟩
              rw [hT] at hes hb1 ⊢
              have hTb : -2000 ≤ T ∧ T ≤ 2000 := by omega
              have dlt : decide ((f : Int) < (f : Int)) = false := by simp
              clear hxv
              replace hcI := Lib.hid hcI
              replace hq := Lib.hid hq
              replace hT := Lib.hid hT
              have w1' : IntKind.i64.wrap (T + (q : Int)) = T + (q : Int) := by rw [IntKind.wrap_i64]; omega
              have w2' : IntKind.i64.wrap (-(q : Int)) = -(q : Int) := by rw [IntKind.wrap_i64]; omega
              have w3' : IntKind.i64.wrap (T + -(q : Int)) = T + -(q : Int) := by rw [IntKind.wrap_i64]; omega
              go_wp2_with fail
              ((with_reducible refine h5.mono ?_); rintro e wz ⟨rfl, fz⟩)
              have Bz : Below w6.heap.size w6 wz := below_then B9 fz (by omega)
              have hcz := (fz.cell (p := ⟨b2, u2 + i, none⟩) (by simp; omega)).trans hcx
              rcases Nat.mod_two_eq_zero_or_one i with he | he
              · have s1 : sgn i = 1 := by unfold sgn; rw [if_pos he]
                have s2 : sgn (i + 1) = -1 := by unfold sgn; rw [if_neg (by omega)]
                rw [if_pos he] at hes
                rw [s1]
                replace hes := Lib.hid hes
                replace s2 := Lib.hid s2
                clear s1 he
                go_wp2_with fail
                go_roundw
                case measure => simp [intOf]; omega
                case rel => exact ⟨i + 1, by omega, by rw [hes.out], by rw [s2.out], by go_num, Bz⟩
              · have s1 : sgn i = -1 := by unfold sgn; rw [if_neg (by omega)]
                have s2 : sgn (i + 1) = 1 := by unfold sgn; rw [if_pos (by omega)]
                rw [if_neg (by omega)] at hes
                rw [s1]
                replace hes := Lib.hid hes
                replace s2 := Lib.hid s2
                clear s1 he
                go_wp2_with fail
                go_roundw
                case measure => simp [intOf]; omega
                case rel => exact ⟨i + 1, by omega, by rw [hes.out, Int.sub_eq_add_neg], by rw [s2.out], by go_num, Bz⟩
        · obtain rfl : i = m := by omega
          have heI := i_EulerCharacteristic_any wi A1 i c1 xss Ri (by omega) hmc
          have dlt : decide ((i : Int) < (i : Int)) = false := by simp
          go_wp2_with fail
          ((with_reducible refine heI.mono ?_); rintro e w7 ⟨yy, k7, rfl, H7, f7⟩)
          obtain ⟨rfl, rfl⟩ := Prod.mk.inj (H7.out.trans heu.out)
          clear H7 heI
          have B7 := below_then Bi f7 (by omega)
          go_wp2_with fail
          go_ret
          exact ⟨rfl, B7⟩
set_option maxRecDepth 100000 in
theorem lifted (os : Os) (started : os.Started) (H : Type) (enc : TypeId × Value → H) :
    ReturnsInHanded {} Try.checked os 5 .any (Rows.fnFacesSpec.pre6 enc Try.prog Try.f5 Rows.fnFacesRow.domain false) (Rows.fnFacesSpec.post enc Try.prog Try.f5 false true false false) := by
  refine returnsInHanded_of_change (C := Try.checked) own started (by kernel_rfl) Try.func5
    (ChangeSpec.witness6 (enc := enc) (C := Try.checked) false ⟨#[], #[.slice none 0 0], []⟩ 8 (by kernel_rfl) (by kernel_rfl) (by kernel_rfl) (by kernel_rfl)) ?_
  intro W base args ds gs before hval0 hW hcnd _
  have hval : ∀ (j : Nat) t v, Try.f5.params[j]? = some t → args[j]? = some v → Value.okWide Try.prog W .any base t v := hval0
  have hW' := hW
  obtain ⟨p, q, hA0, hV, rfl, hfz, hnd⟩ := hW
  have hA : DataW.TrodAll enc Try.prog W 0 (fun _ => true) true Try.f5.params.toList args.toList ds p := hA0
  rw [Try.params5] at hA hval
  obtain ⟨v0, vs0, d0, ds0, p0, q0, hargs, rfl, rfl, h0, r0⟩ := trodAll_cons hA
  obtain ⟨rfl, rfl, rfl⟩ := trodAll_nil r0
  obtain rfl : args = #[v0] := by cases args; simp_all
  obtain ⟨rfl, rfl⟩ := trodVars_none hV
  obtain ⟨a0, n0, c0, rfl⟩ := okWide_slice Try.underlying22 (hval 0 22 v0 rfl rfl)
  have k0 := h0
  have lt0 : ∀ x ∈ p0, x.block < W.heap.size := by obtain ⟨m, hm⟩ := k0; exact DataW.trod_lt m _ _ _ hm
  obtain ⟨xs0, w0, b0⟩ := open_RB Try.underlying22 Try.underlying5 (by kernel_rfl) h0
  clear hA0 hval0
  refine (walk a0 n0 c0 xs0 W w0 b0).mono fun e W' ⟨he, bel⟩ => ?_
  subst he
  exact ⟨_, rfl, _, _, _, [], _, [], hW', trodAll_mk1 (shut_bool Try.underlying4 _), (trodAll_cons_mk (Below.trod laidOut (by kernel_rfl) (of_decide_eq_true (by kernel_rfl)) k0 bel lt0) trodAll_mk0), rfl, bel.frame _, fun h => by cases h⟩
theorem over : Rows.fnFacesRow.holds Try.pinned (OpenSpec.ofChange Rows.fnFacesSpec) :=
  OpenClaim.holds_of_wide 5 Try.f5 rfl rfl rfl rfl rfl rfl rfl ⟨rfl, rfl, rfl, rfl, rfl⟩ rfl rfl rfl rfl rfl (by kernel_rfl) Try.func5 (by kernel_rfl)
    (of_decide_eq_true (by kernel_rfl)) (by unfold Func.isWrapper; first | (rw [if_pos (by decide +kernel)]; kernel_rfl) | (rw [if_neg (by decide +kernel)]; exact ⟨rfl, rfl⟩))
    (fun os started H enc _ => lifted os started H enc)
/-- THE STATEMENT -/
theorem proved : Rows.FnFacesSaid := over
end Go.Proofs.Ytdaljeghdiknpaa.fnFaces
