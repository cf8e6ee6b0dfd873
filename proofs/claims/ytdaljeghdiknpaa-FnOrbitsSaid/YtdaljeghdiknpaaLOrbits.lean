/- FnOrbits: the orbits of a drawn system are kept by its permutations, each is what its points lead to, and they are numbered by their least points: the law returns true for every code. No condition. -/
import Derived.Test.YtdaljeghdiknpaaRows
import Derived.Test.YtdaljeghdiknpaaOpen
import Derived.Test.YtdaljeghdiknpaaOpenB
import Derived.Test.YtdaljeghdiknpaaDrwO
import Derived.Test.YtdaljeghdiknpaaOrbO
import Derived.Test.YtdaljeghdiknpaaWord
import Derived.Test.YtdaljeghdiknpaaLike
import Derived.Test.YtdaljeghdiknpaaLabP
namespace Go.Proofs.Ytdaljeghdiknpaa.fnOrbits
open Go.ChangeShapes Go.WideShapes Go.ChangeAt Go.RowKit
open Go.ChangeMaps (open_string shut_string)
set_option linter.unusedVariables false
theorem own : ownKnob Try.prog.godebug = none := by kernel_rfl
theorem laidOut : laidOutB Try.prog = true := by kernel_rfl
theorem big_any (a : Option Addr) (n c : Nat) (w : World) (hn : n ≤ 9223372036854775807) : Calls Try.prog 11 #[.slice a n c] w fun e w' => e = .returned (.bool (decide (4096 < n))) ∧ w = w' := by
  have hd : decide ((4096 : Int) < (n : Int)) = decide (4096 < n) := decide_eq_decide.2 (by omega)
  replace hd := Lib.hid hd
  go_enter Try.func11, Try.ntmps11
  go_wp2_with fail
  go_ret
  exact ⟨ret_bool hd.out, rfl⟩
set_option maxRecDepth 100000 in
set_option maxHeartbeats 8000000 in
theorem walk (a : Option Addr) (n c : Nat) (bs : List Int) (w : World) (h : Rd w 0 w.heap.size a n (bs.map (Value.int .u8))) (hb : ∀ x ∈ bs, 0 ≤ x ∧ x < 256) :
    Calls Try.prog 3 #[.slice a n c] w fun e w' => e = .returned (.bool true) ∧ Below w.heap.size w w' := by
  obtain ⟨j0, hj0, hy0, hy1, hy2⟩ := info_parts infoI
  have hm := h.2.1
  have hbig := big_any a n c w hm
  by_cases h4 : 4096 < n
  · rw [decide_eq_true h4] at hbig
    replace hb := Lib.hid hb
    go_enter Try.func3, Try.ntmps3
    go_wp2_with fail
    ((with_reducible refine hbig.mono ?_); rintro e w' ⟨rfl, rfl⟩)
    go_wp2_with fail
    go_ret
    exact ⟨rfl, Below.refl _ _⟩
  · rw [decide_eq_false h4] at hbig
    have hdr := drawOrbit_any w a n c bs h hb (by omega)
    replace hb := Lib.hid hb
    go_enter Try.func3, Try.ntmps3
    go_wp2_with fail
    ((with_reducible refine hbig.mono ?_); rintro e w' ⟨rfl, rfl⟩)
    go_wp2_with fail
    ((with_reducible refine hdr.mono ?_); rintro e w1 ⟨N, A1, m, c1, rfl, xss, o1, hm1, hxl, hN0, hN1, f1⟩)
    clear hbig hdr
    have y1 := f1.size
    have B1 : Below w.heap.size w w1 := f1
    replace hxl := Lib.hid hxl
    have hml := Lib.hid o1.len
    go_wp2_with fail
    ((with_reducible refine (i_OrbitLabels_any w1 N ⟨by omega, by omega⟩ A1 m c1 xss o1.rs (by omega)).mono ?_); rintro e w2 ⟨A2, n2, c2, zs, code, rfl, H2, o2, hn2, f2⟩)
    have y2 := f2.size
    have B2 := below_then B1 f2 (by omega)
    have o1 := o1.below f2 (by omega)
    go_wp2_with fail
    ((with_reducible refine (s_OrbitLabels_any w2 N ⟨by omega, by omega⟩ A1 m c1 xss o1.rs (by omega)).mono ?_); rintro e w3 ⟨A3, n3, c3, zs2, code2, rfl, H3, o3, hn3, f3⟩)
    obtain ⟨rfl, rfl⟩ : zs = zs2 ∧ code = code2 := by have e := H2.out.trans H3.out.symm; exact Prod.mk.inj e
    clear H3
    have y3 := f3.size
    have B3 := below_then B2 f3 (by omega)
    have o1 := o1.below f3 (by omega)
    have o2 := o2.below f3 (by omega)
    go_wp2_with fail
    ((with_reducible refine (like_any A2 n2 c2 zs A3 n3 c3 zs w3 _ _ _ _ o2.ri o3.ri (by omega) (by omega)).mono ?_); rintro e w4 ⟨rfl, f4⟩)
    rw [decide_eq_true (rfl : zs = zs)]
    have y4 := f4.size
    have B4 := below_then B3 f4 (by omega)
    have o1 := o1.below f4 (by omega)
    have o2 := o2.below f4 (by omega)
    clear o3
    cases hok : isSysB N xss with
    | false =>
      have hcode : code = 1 := by have e := H2.out; unfold orbLF at e; rw [hok] at e; exact (Prod.mk.inj e).2
      subst hcode
      replace hok := Lib.hid hok
      go_wp2_with fail
      go_ret
      exact ⟨rfl, B4⟩
    | true =>
      have hz : zs = labL xss N.toNat ∧ code = 0 := by
        have e := H2.out
        unfold orbLF at e
        rw [if_pos hok] at e
        exact Prod.mk.inj e
      obtain ⟨rfl, rfl⟩ := hz
      obtain ⟨K, rfl⟩ := Int.eq_ofNat_of_zero_le (isSysB_iff.1 hok).1
      have hNK : ((K : Int)).toNat = K := Int.toNat_natCast K
      rw [hNK] at o2
      have hK4 := (sysOf hok).2
      have hS := Lib.hid (sysOf hok).1
      have hnK : n2 = K := by have := o2.lenI; rw [labL_length] at this; omega
      obtain rfl : K = n2 := hnK.symm
      clear hnK H2 hNK
      replace hok := Lib.hid hok
      go_wp2_with fail
      go_loopw [9, 10] (fun nv pv wr => ∃ p q : Nat, q ≤ p ∧ p ≤ K ∧ nv = .int .i64 q ∧ pv = .int .i64 p ∧ Hid (cntR xss p = q) ∧ Below w4.heap.size w4 wr) (fun _ pv _ => K - (intOf pv).toNat)
      case atStart => exact ⟨0, 0, by omega, by omega, rfl, rfl, Lib.hid (by simp [cntR]), Below.refl _ _⟩
      case round =>
        obtain ⟨p, q, hqp, hpK, rfl, rfl, hc, hB⟩ := hrel
        by_cases hlt : p < K
        · obtain ⟨b2, u2, xv, rfl, _, _, hxp, hcp⟩ := (o2.ri.below hB (by omega)).at_ hlt
          rw [labL_get hlt] at hxp
          obtain ⟨L, hLp⟩ := Int.eq_ofNat_of_zero_le (labOf_nonneg xss p)
          obtain rfl : (L : Int) = xv := by rw [← hLp]; exact Option.some.inj hxp
          clear hxp
          have hxp : Hid ((labL xss K)[p]? = some (L : Int)) := Lib.hid (by rw [labL_get hlt, hLp])
          replace hLp := Lib.hid hLp
          rcases lab_step hS.out hlt with ⟨g1, g2⟩ | ⟨g1, g2⟩
          · obtain rfl : L = q := by have := hLp.out; have := hc.out; omega
            have hc2 : Hid (cntR xss (p + 1) = L + 1) := Lib.hid (by rw [g2, hc.out])
            clear g1 g2
            have d1 : decide ((L : Int) < (L : Int)) = false := by simp
            have d2 : ((L : Int) == (L : Int)) = true := by simp
            go_wp2_with fail
            go_loopw [11] (fun iv wq => ∃ j : Nat, j ≤ m ∧ iv = .int .i64 j ∧ Below w4.heap.size w4 wq) (fun iv _ => m - (intOf iv).toNat)
            case atStart => exact ⟨0, by omega, rfl, hB⟩
            case round =>
              clear hB hcp
              obtain ⟨j, hj, rfl, hB⟩ := hrel
              by_cases hjm : j < m
              · obtain ⟨b1, u1, Ak, nk, ck, row, rfl, _, _, hrow, hcrow, hRrow⟩ := (o1.below hB (by omega)).rs.at_ hjm
                have hrl : nk = K := by have := hRrow.len; have := (hS.out row (List.mem_of_getElem? hrow)).2.2; omega
                subst hrl
                obtain ⟨b3, u3, qv, rfl, _, _, hqv, hcq⟩ := hRrow.at_ hlt
                obtain ⟨Q, rfl, hQ, hlq⟩ := lab_at hS.out hlt (List.mem_of_getElem? hrow) hqv
                rw [hLp.out] at hlq
                have hcQ := ((o2.ri.below hB (by omega)).cell hlq)
                have hcP := ((o2.ri.below hB (by omega)).cell hxp.out)
                have dne : ((L : Int) != (L : Int)) = false := by simp
                replace hrow := Lib.hid hrow
                replace hqv := Lib.hid hqv
                replace hlq := Lib.hid hlq
                go_wp2_with fail
                go_quiet (fail)
                go_wp2_with fail
                go_roundw
                case rel => exact ⟨j + 1, by omega, by go_num, below_dn hB _⟩
                case measure => simp [intOf]; omega
              · have hjm2 : decide ((j : Int) < (m : Int)) = false := by simp; omega
                go_wp2_with fail
                go_roundw
                case rel => exact ⟨p + 1, L + 1, by omega, by omega, by go_num, by go_num, hc2, hB⟩
                case measure => simp [intOf]; omega
          · have g3 : L < q := by have := hLp.out; have := hc.out; omega
            have hc2 : Hid (cntR xss (p + 1) = q) := Lib.hid (by rw [g2, hc.out])
            clear g1 g2
            have d1 : decide ((q : Int) < (L : Int)) = false := by simp; omega
            have d2 : ((L : Int) == (q : Int)) = false := by simp; omega
            go_wp2_with fail
            go_loopw [11] (fun iv wq => ∃ j : Nat, j ≤ m ∧ iv = .int .i64 j ∧ Below w4.heap.size w4 wq) (fun iv _ => m - (intOf iv).toNat)
            case atStart => exact ⟨0, by omega, rfl, hB⟩
            case round =>
              clear hB hcp
              obtain ⟨j, hj, rfl, hB⟩ := hrel
              by_cases hjm : j < m
              · obtain ⟨b1, u1, Ak, nk, ck, row, rfl, _, _, hrow, hcrow, hRrow⟩ := (o1.below hB (by omega)).rs.at_ hjm
                have hrl : nk = K := by have := hRrow.len; have := (hS.out row (List.mem_of_getElem? hrow)).2.2; omega
                subst hrl
                obtain ⟨b3, u3, qv, rfl, _, _, hqv, hcq⟩ := hRrow.at_ hlt
                obtain ⟨Q, rfl, hQ, hlq⟩ := lab_at hS.out hlt (List.mem_of_getElem? hrow) hqv
                rw [hLp.out] at hlq
                have hcQ := ((o2.ri.below hB (by omega)).cell hlq)
                have hcP := ((o2.ri.below hB (by omega)).cell hxp.out)
                have dne : ((L : Int) != (L : Int)) = false := by simp
                replace hrow := Lib.hid hrow
                replace hqv := Lib.hid hqv
                replace hlq := Lib.hid hlq
                go_wp2_with fail
                go_quiet (fail)
                go_wp2_with fail
                go_roundw
                case rel => exact ⟨j + 1, by omega, by go_num, below_dn hB _⟩
                case measure => simp [intOf]; omega
              · have hjm2 : decide ((j : Int) < (m : Int)) = false := by simp; omega
                go_wp2_with fail
                go_roundw
                case rel => exact ⟨p + 1, q, by omega, by omega, by go_num, by go_num, hc2, hB⟩
                case measure => simp [intOf]; omega
        · rename World => v4
          obtain rfl : p = K := by omega
          have y5 := hB.size
          have B5 := below_then B4 hB (by omega)
          have o1 := o1.below hB (by omega)
          have o2 := o2.below hB (by omega)
          by_cases hp0 : p = 0
          · subst hp0
            go_wp2_with fail
            go_ret
            exact ⟨rfl, B5⟩
          · have dp : ((p : Int) == 0) = false := by simp; omega
            have hp1 : 1 ≤ p := by omega
            have hrb := roll_any v4 a n c bs ((h.keep (Same.of_below B5 (Nat.le_refl _))).more (Nat.le_refl _) (by omega)) hb.out (by omega) 703 (by omega)
            rw [show ((703 : Nat) : Int) = 703 from rfl] at hrb
            go_wp2_with fail
            ((with_reducible refine hrb.mono ?_); rintro e w5 ⟨Hs, rfl, s5, f5⟩)
            clear hrb hB f4 f3 f2 f1 B4 B3 B2 B1
            have y6 := f5.size
            have B6 := below_then B5 f5 (by omega)
            have hsl := s5.lt
            have o1 := o1.below f5 (by omega)
            have o2 := o2.below f5 (by omega)
            have hbn := below_nat w5 _ _ _ _ _ _ _ _ s5 (p : Int) (by omega) (by omega)
            go_wp2_with fail
            ((with_reducible refine hbn.mono ?_); rintro e w6 ⟨v, rfl, hv, i6, h6, s6, C6⟩)
            clear hbn s5
            have y7 := C6.size
            have B7 : Below w.heap.size w w6 := B6.trans (C6.below (by omega) (by omega))
            have o1 := o1.keep (Same.of_chg C6 (by omega) (.inl (by omega)))
            have o2 := o2.keep (Same.of_chg C6 (by omega) (.inl (by omega)))
            have hvp : v < p := by omega
            have hOF := orbit_in hok.out hvp
            replace hOF := Lib.hid hOF
            go_wp2_with fail
            ((with_reducible refine (i_OrbitOf_any w6 (p : Int) ⟨by omega, by omega⟩ A1 m c1 xss o1.rs (by omega) (v : Int) ⟨by omega, by omega⟩).mono ?_); rintro e w7 ⟨A7, n7, c7, l7, k7, rfl, H7, o7, hn7, f7⟩)
            obtain ⟨rfl, rfl⟩ := Prod.mk.inj (H7.out.trans hOF.out)
            clear H7 hOF
            have y8 := f7.size
            have B8 := below_then B7 f7 (by omega)
            have s7 := s6.below f7 s6.lt
            have o1 := o1.below f7 (by omega)
            have o2 := o2.below f7 (by omega)
            clear s6 C6 f7 f5 B6 B5
            obtain ⟨M, hMv⟩ := Int.eq_ofNat_of_zero_le (labOf_nonneg xss v)
            rw [hMv] at o7
            have hxv : Hid ((labL xss p)[v]? = some (M : Int)) := Lib.hid (by rw [labL_get hvp, hMv])
            replace hMv := Lib.hid hMv
            have h0 := World.ownsRow_lit (e := 2) (base := w7.heap.size) (size := 1) w7 #[] 0 (Nat.le_refl _) (by omega) rfl
            go_wp2_with fail
            go_loopw [16, 17] (fun ov iv wr => ∃ (k : Nat) (A3 : Option Addr) (n3 c3 : Nat), k ≤ p ∧ n3 ≤ k ∧ ov = .slice A3 n3 c3 ∧ iv = .int .i64 k ∧ wr.ownsRow w7.heap.size 2 1 (.slice A3 n3 c3) n3 ((plc (labL xss p) (M : Int) k).map (Value.int .i64)) ∧ Below w7.heap.size w7 wr) (fun _ iv _ => p - (intOf iv).toNat)
            case atStart => exact ⟨0, _, 0, 0, by omega, by omega, rfl, rfl, by simpa [plc] using h0, (Below.refl _ _).alloc (Nat.le_refl _) _⟩
            case round =>
              clear h0
              obtain ⟨k, A3, n3, c3, hk, hnk, rfl, rfl, ho, hB⟩ := hrel
              have hsize := hB.size
              by_cases hkp : k < p
              · obtain ⟨b2, u2, yv, rfl, _, _, hyv, hcy⟩ := (o2.ri.below hB (by omega)).at_ hkp
                have hcv := (o2.ri.below hB (by omega)).cell hxv.out
                have hg := getD_some (d := (0 : Int)) hyv
                have hps := plc_succ (labL xss p) (M : Int) k
                rw [hg] at hps
                by_cases e : (M : Int) = yv
                · subst e
                  have e' : ((M : Int) == (M : Int)) = true := by simp
                  rw [if_pos rfl] at hps
                  replace hps := Lib.hid hps
                  replace hyv := Lib.hid hyv
                  replace hg := Lib.hid hg
                  go_wp2_with fail
                  go_quiet (fail)
                  have ho' : (wr.drewN nq).ownsRow w7.heap.size 2 1 (.slice A3 n3 c3) n3 ((plc (labL xss p) (M : Int) k).map (Value.int .i64)) := ho
                  go_wp2_with (at_builtin; refine wpList_append1 (wr.drewN nq) rfl (.tmp 121) (.tmp 123) 27 rfl w7.heap.size 2 j0 (.int .i64 0) 8 Try.underlying27 hj0 hy0 hy1 hy2 rfl (by omega) _ n3 c3 _ (.int .i64 k) rfl ho' _ rfl rfl rfl (by omega) hsize ?_)
                  intro g4 c4 wz ho2 hg2 hlo2 hlt2 hor2
                  have hb4 : Below w7.heap.size w7 wz := (below_dn hB nq).grown hg2 hsize (fun q hq => by have := (ho'.lt q hq).1; omega)
                  clear ho ho' hB hg2 hcy hcv
                  go_wp2_with fail
                  go_roundw
                  case measure => simp [intOf]; omega
                  case rel => exact ⟨k + 1, _, n3 + 1, c4, by omega, by omega, rfl, by go_num, by rw [hps.out]; simpa using ho2, hb4⟩
                · have e' : (yv == (M : Int)) = false := by simpa using fun g => e g.symm
                  rw [if_neg e, List.append_nil] at hps
                  replace hps := Lib.hid hps
                  replace hyv := Lib.hid hyv
                  replace hg := Lib.hid hg
                  clear e
                  go_wp2_with fail
                  go_quiet (fail)
                  go_wp2_with fail
                  go_roundw
                  case measure => simp [intOf]; omega
                  case rel => exact ⟨k + 1, A3, n3, c3, by omega, by omega, rfl, by go_num, by rw [hps.out]; exact ho, below_dn hB _⟩
              · rename World => v8
                obtain rfl : k = p := by omega
                have B9 := below_then B8 hB (by omega)
                have o8 := Own.of_row ho
                have o1 := o1.below hB (by omega)
                have o7 := o7.below hB (by omega)
                have s8 := s7.below hB (by omega)
                have b0 := World.ownsRow_lit (e := 2) (base := v8.heap.size) (size := 1) v8 #[] 0 (Nat.le_refl _) (by omega) rfl
                have Bz : Below v8.heap.size v8 (v8.alloc (.cells #[] 2)) := (Below.refl _ _).alloc (Nat.le_refl _) _
                have T0 : WrdS v8 (v8.alloc (.cells #[] 2)) _ _ 79 2 a n c bs [] _ 0 _ _ := ⟨b0, s8.below Bz s8.lt, Chg.of_below _ _ Bz, s8.lt⟩
                have hbn := below_nat _ _ _ _ _ _ _ _ _ T0.src 12 (by omega) (by omega)
                clear b0 Bz s8 s7 ho hB o2
                go_wp2_with fail
                ((with_reducible refine hbn.mono ?_); rintro e w9 ⟨J, rfl, hJ, i9, h9, s9, C9⟩)
                clear hbn
                have T1 := Lib.hid (T0.next s9 C9)
                clear T0 s9 C9
                go_wp2_with fail
                go_loopw [18, 19] (fun lv kv wq => ∃ (j : Nat) (A4 : Option Addr) (c4 : Nat) (ys : List Int) (i' h' : Nat), lv = .slice A4 ys.length c4 ∧ kv = .int .i64 j ∧ ys.length + j ≤ 11 ∧ Hid (∀ g ∈ ys, 0 ≤ g ∧ g < xss.length) ∧ Hid (WrdS v8 wq v4.heap.size v4.heap.size 79 2 a n c bs ys A4 c4 i' h')) (fun _ kv _ => (intOf kv).toNat)
                case atStart => exact ⟨J, _, _, [], _, _, rfl, rfl, by simp; omega, Lib.hid (by simp), T1⟩
                case round =>
                  clear T1
                  obtain ⟨j, A4, c4, ys, i', h', rfl, rfl, hyj, hys, hT⟩ := hrel
                  have T := hT.out
                  have sr := T.chg.size
                  by_cases hj1 : 0 < j
                  · have d0 : decide ((0 : Int) < (j : Int)) = true := by simp; omega
                    by_cases hm0 : 0 < m
                    · have d3 : decide ((0 : Int) < (m : Int)) = true := by simp; omega
                      have hbn := below_nat _ _ _ _ _ _ _ _ _ T.src (m : Int) (by omega) (by omega)
                      go_wp2_with fail
                      ((with_reducible refine hbn.mono ?_); rintro e wa ⟨J2, rfl, hJ2, ia, ha, sa, Ca⟩)
                      clear hbn
                      have Ta := T.next sa Ca
                      have hza := Ta.chg.size
                      go_wp2_with (at_builtin; refine wpList_append1 wa rfl (.tmp 137) (.tmp 142) 27 rfl v8.heap.size 2 j0 (.int .i64 0) 8 Try.underlying27 hj0 hy0 hy1 hy2 rfl (by omega) _ ys.length c4 _ (.int .i64 J2) rfl Ta.row _ rfl rfl rfl (by omega) hza ?_)
                      intro g4 cx wz ho2 hg2 hlo2 hlt2 hor2
                      have TX := Ta.app hg2 ho2
                      have hys2 : ∀ g ∈ ys ++ [(J2 : Int)], 0 ≤ g ∧ g < xss.length := by
                        intro g hg
                        rcases List.mem_append.1 hg with g1 | g1
                        · exact hys.out g g1
                        · rw [List.mem_singleton.1 g1]; have := hml.out; omega
                      replace hys2 := Lib.hid hys2
                      clear d0 d3
                      go_wp2_with fail
                      go_roundw
                      case rel => exact ⟨j - 1, _, cx, ys ++ [(J2 : Int)], _, _, by rw [List.length_append]; rfl, by go_num, by rw [List.length_append]; simp; omega, hys2, Lib.hid TX⟩
                      case measure => simp [intOf]; omega
                    · have d3 : decide ((0 : Int) < (m : Int)) = false := by simp; omega
                      have hal := apply_in hok.out hvp (word := ys) (by omega) hys.out
                      have hA1 := Lib.hid hal.1
                      have hA2 := Lib.hid hal.2
                      clear hal
                      rw [hMv.out] at hA2
                      have o1 := o1.keep (Same.of_chg T.chg (by omega) (.inl (by omega)))
                      have o7 := o7.keep (Same.of_chg T.chg (by omega) (.inr (by omega)))
                      have o8 := o8.keep (Same.of_chg T.chg (by omega) (.inr (by omega)))
                      have oy := Own.of_row T.row
                      have Bq : Below w.heap.size w wr := B9.trans (T.chg.below (by omega) (by omega))
                      go_wp2_with fail
                      ((with_reducible refine (i_ApplyWord_any wr (k : Int) ⟨by omega, by omega⟩ A1 m c1 xss o1.rs (by omega) A4 ys.length c4 ys oy.ri (by omega) (v : Int) ⟨by omega, by omega⟩).mono ?_); rintro e wb ⟨yy, kk, rfl, Hy, fb⟩)
                      obtain ⟨rfl, rfl⟩ := Prod.mk.inj (Hy.out.trans hA1.out)
                      clear Hy hA1
                      have yb := fb.size
                      have Bb := below_then Bq fb (by omega)
                      have o7 := o7.below fb (by omega)
                      have o8 := o8.below fb (by omega)
                      go_wp2_with fail
                      ((with_reducible refine (like_any A7 n7 c7 _ A3 n3 c3 _ wb _ _ _ _ o7.ri o8.ri (by omega) (by omega)).mono ?_); rintro e wc ⟨rfl, fc⟩)
                      rw [decide_eq_true rfl]
                      have Bc := below_then Bb fc (by omega)
                      have o7 := o7.below fc (by omega)
                      go_wp2_with fail
                      ((with_reducible refine (hasInt_any A7 n7 c7 _ _ wc o7.ri).mono ?_); rintro e wd ⟨rfl, rfl⟩)
                      rw [hA2.out]
                      go_wp2_with fail
                      go_ret
                      exact ⟨rfl, Bc⟩
                  · have d0 : decide ((0 : Int) < (j : Int)) = false := by simp; omega
                    have hal := apply_in hok.out hvp (word := ys) (by omega) hys.out
                    have hA1 := Lib.hid hal.1
                    have hA2 := Lib.hid hal.2
                    clear hal
                    rw [hMv.out] at hA2
                    have o1 := o1.keep (Same.of_chg T.chg (by omega) (.inl (by omega)))
                    have o7 := o7.keep (Same.of_chg T.chg (by omega) (.inr (by omega)))
                    have o8 := o8.keep (Same.of_chg T.chg (by omega) (.inr (by omega)))
                    have oy := Own.of_row T.row
                    have Bq : Below w.heap.size w wr := B9.trans (T.chg.below (by omega) (by omega))
                    go_wp2_with fail
                    ((with_reducible refine (i_ApplyWord_any wr (k : Int) ⟨by omega, by omega⟩ A1 m c1 xss o1.rs (by omega) A4 ys.length c4 ys oy.ri (by omega) (v : Int) ⟨by omega, by omega⟩).mono ?_); rintro e wb ⟨yy, kk, rfl, Hy, fb⟩)
                    obtain ⟨rfl, rfl⟩ := Prod.mk.inj (Hy.out.trans hA1.out)
                    clear Hy hA1
                    have yb := fb.size
                    have Bb := below_then Bq fb (by omega)
                    have o7 := o7.below fb (by omega)
                    have o8 := o8.below fb (by omega)
                    go_wp2_with fail
                    ((with_reducible refine (like_any A7 n7 c7 _ A3 n3 c3 _ wb _ _ _ _ o7.ri o8.ri (by omega) (by omega)).mono ?_); rintro e wc ⟨rfl, fc⟩)
                    rw [decide_eq_true rfl]
                    have Bc := below_then Bb fc (by omega)
                    have o7 := o7.below fc (by omega)
                    go_wp2_with fail
                    ((with_reducible refine (hasInt_any A7 n7 c7 _ _ wc o7.ri).mono ?_); rintro e wd ⟨rfl, rfl⟩)
                    rw [hA2.out]
                    go_wp2_with fail
                    go_ret
                    exact ⟨rfl, Bc⟩
set_option maxRecDepth 100000 in
theorem lifted (os : Os) (started : os.Started) (H : Type) (enc : TypeId × Value → H) :
    ReturnsInHanded {} Try.checked os 3 .any (Rows.fnOrbitsSpec.pre6 enc Try.prog Try.f3 Rows.fnOrbitsRow.domain false) (Rows.fnOrbitsSpec.post enc Try.prog Try.f3 false true false false) := by
  refine returnsInHanded_of_change (C := Try.checked) own started (by kernel_rfl) Try.func3
    (ChangeSpec.witness6 (enc := enc) (C := Try.checked) false ⟨#[], #[.slice none 0 0], []⟩ 8 (by kernel_rfl) (by kernel_rfl) (by kernel_rfl) (by kernel_rfl)) ?_
  intro W base args ds gs before hval0 hW hcnd _
  have hval : ∀ (j : Nat) t v, Try.f3.params[j]? = some t → args[j]? = some v → Value.okWide Try.prog W .any base t v := hval0
  have hW' := hW
  obtain ⟨p, q, hA0, hV, rfl, hfz, hnd⟩ := hW
  have hA : DataW.TrodAll enc Try.prog W 0 (fun _ => true) true Try.f3.params.toList args.toList ds p := hA0
  rw [Try.params3] at hA hval
  obtain ⟨v0, vs0, d0, ds0, p0, q0, hargs, rfl, rfl, h0, r0⟩ := trodAll_cons hA
  obtain ⟨rfl, rfl, rfl⟩ := trodAll_nil r0
  obtain rfl : args = #[v0] := by cases args; simp_all
  obtain ⟨rfl, rfl⟩ := trodVars_none hV
  obtain ⟨a0, n0, c0, rfl⟩ := okWide_slice Try.underlying22 (hval 0 22 v0 rfl rfl)
  have k0 := h0
  have lt0 : ∀ x ∈ p0, x.block < W.heap.size := by obtain ⟨m, hm⟩ := k0; exact DataW.trod_lt m _ _ _ hm
  obtain ⟨xs0, w0, b0⟩ := open_RB Try.underlying22 Try.underlying5 (by kernel_rfl) h0
  clear hA0 hval0
  refine (walk a0 n0 c0 xs0 W w0 b0).mono fun e W' ⟨he, bel⟩ => ?_
  subst he
  exact ⟨_, rfl, _, _, _, [], _, [], hW', trodAll_mk1 (shut_bool Try.underlying4 _), (trodAll_cons_mk (Below.trod laidOut (by kernel_rfl) (of_decide_eq_true (by kernel_rfl)) k0 bel lt0) trodAll_mk0), rfl, bel.frame _, fun h => by cases h⟩
theorem over : Rows.fnOrbitsRow.holds Try.pinned (OpenSpec.ofChange Rows.fnOrbitsSpec) :=
  OpenClaim.holds_of_wide 3 Try.f3 rfl rfl rfl rfl rfl rfl rfl ⟨rfl, rfl, rfl, rfl, rfl⟩ rfl rfl rfl rfl rfl (by kernel_rfl) Try.func3 (by kernel_rfl)
    (of_decide_eq_true (by kernel_rfl)) (by unfold Func.isWrapper; first | (rw [if_pos (by decide +kernel)]; kernel_rfl) | (rw [if_neg (by decide +kernel)]; exact ⟨rfl, rfl⟩))
    (fun os started H enc _ => lifted os started H enc)
/-- THE STATEMENT -/
theorem proved : Rows.FnOrbitsSaid := over
end Go.Proofs.Ytdaljeghdiknpaa.fnOrbits
