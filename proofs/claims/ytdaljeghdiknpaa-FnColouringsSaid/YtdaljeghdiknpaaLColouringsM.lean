/- FnColourings: the colouring, the orientability and the distances of a drawn maniplex agree: the law returns true for every code. No condition. -/
import Derived.Test.YtdaljeghdiknpaaRows
import Derived.Test.YtdaljeghdiknpaaHColourings
namespace Go.Proofs.Ytdaljeghdiknpaa.fnColourings
open Go.ChangeShapes Go.WideShapes Go.ChangeAt Go.RowKit
open Go.ChangeMaps (open_string shut_string)
set_option linter.unusedVariables false
theorem own : ownKnob Try.prog.godebug = none := by kernel_rfl
theorem laidOut : laidOutB Try.prog = true := by kernel_rfl
set_option maxRecDepth 100000 in
set_option maxHeartbeats 8000000 in
theorem walk (a : Option Addr) (n c : Nat) (bs : List Int) (w : World) (h : Rd w 0 w.heap.size a n (bs.map (Value.int .u8))) (hb : ∀ x ∈ bs, 0 ≤ x ∧ x < 256) :
    Calls Try.prog 4 #[.slice a n c] w fun e w' => e = .returned (.bool true) ∧ Below w.heap.size w w' := by
  have hm := h.2.1
  have hbig := bigl_any a n c w hm
  by_cases h4 : 4096 < n
  · rw [decide_eq_true h4] at hbig
    replace hb := Lib.hid hb
    go_enter Try.func4, Try.ntmps4
    go_wp2_with fail
    ((with_reducible refine hbig.mono ?_); rintro e w' ⟨rfl, rfl⟩)
    go_wp2_with fail
    go_ret
    exact ⟨rfl, Below.refl _ _⟩
  · rw [decide_eq_false h4] at hbig
    have hdr := drawColouring_any w a n c bs h hb (by omega)
    replace hb := Lib.hid hb
    go_enter Try.func4, Try.ntmps4
    go_wp2_with fail
    ((with_reducible refine hbig.mono ?_); rintro e w' ⟨rfl, rfl⟩)
    go_wp2_with fail
    ((with_reducible refine hdr.mono ?_); rintro e w1 ⟨A1, m, c1, rfl, xss, R1, hmc, f1⟩)
    clear hbig hdr
    have y1 := f1.size
    have hmx := R1.max
    go_wp2_with fail
    obtain ⟨w2, hw2⟩ : ∃ w2, w1.alloc (.cells #[.slice A1 m c1] 40) = w2 := ⟨_, rfl⟩
    have Ba : Below w1.heap.size w1 w2 := by rw [← hw2]; exact (Below.refl _ _).alloc (Nat.le_refl _) _
    have C2 : w2.cell? ⟨w1.heap.size, 0, none⟩ = some (.slice A1 m c1) := by rw [← hw2]; exact al_new _ _ _ _ rfl
    have y2 : w1.heap.size < w2.heap.size := by rw [← hw2]; simp
    rw [hw2]
    have R2 := R1.below Ba (Nat.le_refl _)
    have B2 : Below w.heap.size w w2 := f1.trans (Ba.mono y1)
    obtain ⟨b, hbq⟩ : ∃ b, w1.heap.size = b := ⟨_, rfl⟩
    rw [hbq] at C2 y1 y2 R2 ⊢
    clear hw2 Ba f1 R1 hbq
    go_wp2_with fail
    ((with_reducible refine (i_ColouringOf_any w2 A1 m c1 xss R2 (by omega) hmc).mono ?_); rintro e w3 ⟨A3, n3, c3, zs, code, rfl, H3, o3, hn3, f3⟩)
    have y3 := f3.size
    have B3 := below_then B2 f3 (by omega)
    have R3 := R2.below f3 (by omega)
    have C3 := (f3.cell (p := ⟨b, 0, none⟩) y2).trans C2
    clear C2 R2
    go_wp2_with fail
    ((with_reducible refine (s_ColouringOf_any w3 A1 m c1 xss R3 (by omega) hmc).mono ?_); rintro e w4 ⟨A4, n4, c4, zs2, code2, rfl, H4, o4, hn4, f4⟩)
    obtain ⟨rfl, rfl⟩ : zs = zs2 ∧ code = code2 := by have e := H3.out.trans H4.out.symm; exact Prod.mk.inj e
    clear H4
    have y4 := f4.size
    have B4 := below_then B3 f4 (by omega)
    have R4 := R3.below f4 (by omega)
    have C4 := (f4.cell (p := ⟨b, 0, none⟩) (by simp; omega)).trans C3
    have o3 := o3.below f4 (by omega)
    have dne : (code != code) = false := by simp
    clear C3 R3
    go_wp2_with fail
    ((with_reducible refine (like_any A3 n3 c3 zs A4 n4 c4 zs w4 _ _ _ _ o3.ri o4.ri (by omega) (by omega)).mono ?_); rintro e w5 ⟨rfl, f5⟩)
    rw [decide_eq_true (rfl : zs = zs)]
    have y5 := f5.size
    have B5 := below_then B4 f5 (by omega)
    have R5 := R4.below f5 (by omega)
    have C5 := (f5.cell (p := ⟨b, 0, none⟩) (by simp; omega)).trans C4
    have o3 := o3.below f5 (by omega)
    clear o4 C4 R4
    go_wp2_with fail
    ((with_reducible refine (i_IsOrientable_any w5 A1 m c1 xss R5 (by omega) hmc).mono ?_); rintro e w6 ⟨y, cd, rfl, H6, f6⟩)
    have y6 := f6.size
    have B6 := below_then B5 f6 (by omega)
    have R6 := R5.below f6 (by omega)
    have C6 := (f6.cell (p := ⟨b, 0, none⟩) (by simp; omega)).trans C5
    have o3 := o3.below f6 (by omega)
    clear C5 R5
    cases hM : isManB xss with
    | false =>
      have e1 : zs = [] ∧ code = 1 := by have e := H3.out; unfold colF at e; rw [hM] at e; exact Prod.mk.inj e
      have e2 : y = false ∧ cd = 1 := by have e := H6.out; unfold oriF at e; rw [hM] at e; exact Prod.mk.inj e
      obtain ⟨rfl, rfl⟩ := e1
      obtain ⟨rfl, rfl⟩ := e2
      replace hM := Lib.hid hM
      go_wp2_with fail
      go_ret
      exact ⟨rfl, B6⟩
    | true =>
      have hP := isManB_iff.1 hM
      obtain ⟨N, hN⟩ : ∃ N, flg xss = N := ⟨_, rfl⟩
      have hN2 : 2 ≤ N := by rw [← hN]; exact hP.f2
      have hN4 : N ≤ 400 := by rw [← hN]; exact hP.f4
      have hml : xss.length = m := R6.len
      have hm1 : 1 ≤ m := by rw [← hml]; exact hP.r1
      have hm5 : m ≤ 5 := by rw [← hml]; exact hP.r5
      have hS : SysOf xss N := by rw [← hN]; exact hP.sys
      have hcon : Conn xss N := by rw [← hN]; exact hP.conn
      have hdF : distF xss 0 = (dist xss N 0, 0) := by
        unfold distF
        rw [if_pos hM, hN, if_pos]
        unfold inR
        simp
        omega
      have hD := dist_fin hS hcon (x := 0) (by omega) (by omega)
      have hDl := dist_length hS (x := 0) (by omega) (by omega)
      have e2 : y = colB xss N (dist xss N 0) ∧ cd = 0 := by have e := H6.out; unfold oriF at e; rw [if_pos hM, hN] at e; exact Prod.mk.inj e
      obtain ⟨rfl, rfl⟩ := e2
      have H3' := H3.out
      unfold colF at H3'
      rw [if_pos hM, hN] at H3'
      clear H3 H6 hM hP
      obtain ⟨D, hDe⟩ : ∃ D, dist xss N 0 = D := ⟨_, rfl⟩
      rw [hDe] at hdF hD hDl H3' ⊢
      replace hD := Lib.hid hD
      replace hS := Lib.hid hS
      replace hml := Lib.hid hml
      replace hN := Lib.hid hN
      replace hDl := Lib.hid hDl
      clear hcon hDe
      cases hcol : colB xss N D with
      | false =>
        have e1 : zs = [] ∧ code = 5 := by rw [hcol] at H3'; exact Prod.mk.inj H3'
        obtain ⟨rfl, rfl⟩ := e1
        clear H3' 
        replace hcol := Lib.hid hcol
        go_wp2_with fail
        ((with_reducible refine (i_DistancesFrom_any w6 A1 m c1 xss R6 (by omega) hmc 0 ⟨by omega, by omega⟩).mono ?_); rintro e w7 ⟨A7, n7, c7, ds, k7, rfl, H7, o7, hn7, f7⟩)
        obtain ⟨rfl, rfl⟩ := Prod.mk.inj (H7.out.trans hdF).symm
        clear H7 hdF
        have y7 := f7.size
        have B7 := below_then B6 f7 (by omega)
        have R7 := R6.below f7 (by omega)
        have C7 := (f7.cell (p := ⟨b, 0, none⟩) (by simp; omega)).trans C6
        have o3 := o3.below f7 (by omega)
        clear C6 R6
        obtain rfl : N = n7 := by have := o7.lenI; rw [hDl.out] at this; exact this
        have h5 := flags5_any A1 m c1 xss w7 R7 (by omega) (by omega)
        rw [hN.out] at h5
        go_wp2_with fail
        ((with_reducible refine h5.mono ?_); rintro e w8 ⟨rfl, f8⟩)
        have y8 := f8.size
        have B8 := below_then B7 f8 (by omega)
        have R8 := R7.below f8 (by omega)
        have C8 := (f8.cell (p := ⟨b, 0, none⟩) (by simp; omega)).trans C7
        have o3 := o3.below f8 (by omega)
        have o7 := o7.below f8 (by omega)
        have dN : ((N : Int) != (N : Int)) = false := by simp
        clear C7 R7 h5 f8 f7 f6 f5 f4 f3
        go_wp2_with fail
        go_loopw [12, 13] (fun ev fv wq => ∃ (f : Nat) (o : Bool), f ≤ N ∧ ev = .bool o ∧ Hid (o = (List.range f).all fun y => edgesB xss D (y : Int)) ∧ fv = .int .i64 f ∧ Below w8.heap.size w8 wq) (fun _ fv _ => N - (intOf fv).toNat)
        case atStart => exact ⟨0, true, by omega, rfl, Lib.hid rfl, rfl, Below.refl _ _⟩
        case round =>
          obtain ⟨f, o, hf, rfl, ho, rfl, hB⟩ := hrel
          by_cases hlt : f < N
          · rename World => wf
            go_wp2_with fail
            go_loopw [12, 14] (fun ev kv wq => ∃ (k : Nat) (o : Bool), k ≤ m ∧ ev = .bool o ∧ Hid (o = (((List.range f).all fun y => edgesB xss D (y : Int)) && (xss.take k).all (edgeB D (f : Int)))) ∧ kv = .int .i64 k ∧ Below w8.heap.size w8 wq) (fun _ kv _ => m - (intOf kv).toNat)
            case atStart => exact ⟨0, o, by omega, rfl, Lib.hid (by rw [ho.out]; simp), rfl, hB⟩
            case round =>
              clear hB ho
              obtain ⟨k, o, hk, rfl, ho, rfl, hB⟩ := hrel
              have Cr := (hB.cell (p := ⟨b, 0, none⟩) (by simp; omega)).trans C8
              by_cases hkm : k < m
              · obtain ⟨b1, u1, Ak, nk, ck, row, rfl, _, _, hrow, hcrow, hRrow⟩ := (R8.below hB (by omega)).at_ hkm
                have hrm := List.mem_of_getElem? hrow
                have hsr := hS.out row hrm
                obtain rfl : N = nk := by have := hRrow.len; omega
                obtain ⟨b3, u3, qv, rfl, _, _, hqv, hcq⟩ := hRrow.at_ hlt
                obtain ⟨q0, q1⟩ := hsr.1 qv (List.mem_of_getElem? hqv)
                obtain ⟨Q, rfl⟩ := Int.eq_ofNat_of_zero_le q0
                have hQ : Q < N := by omega
                have at1 : at' row (f : Int) = (Q : Int) := by unfold at'; simp [List.getD_eq_getElem?_getD, hqv]
                obtain ⟨b2, u2, d1, rfl, _, _, hd1, hc1⟩ := (o7.ri.below hB (by omega)).at_ hlt
                obtain ⟨d2, hd2⟩ : ∃ v, D[Q]? = some v := ⟨_, List.getElem?_eq_getElem (by have := hDl.out; omega)⟩
                have hc2 := (o7.ri.below hB (by omega)).cell hd2
                have t1 : dat D (f : Int) = d1 := by unfold dat; simp [List.getD_eq_getElem?_getD, hd1]
                have t2 : dat D (Q : Int) = d2 := by unfold dat; simp [List.getD_eq_getElem?_getD, hd2]
                have r1 := hD.out.rng (f : Int) (by omega) (by omega)
                have r2 := hD.out.rng (Q : Int) (by omega) (by omega)
                rw [t1] at r1
                rw [t2] at r2
                obtain ⟨a1, rfl⟩ := Int.eq_ofNat_of_zero_le r1.1
                obtain ⟨a2, rfl⟩ := Int.eq_ofNat_of_zero_le r2.1
                have hE : edgeB D (f : Int) row = decide (a2 % 2 ≠ a1 % 2) := by
                  unfold edgeB
                  rw [at1, t1, t2]
                  exact decide_eq_decide.2 (by omega)
                obtain ⟨s1, hs1⟩ : ∃ s : Nat, (a1 : Int) + 1 = (s : Int) := ⟨a1 + 1, by omega⟩
                obtain ⟨s2, hs2⟩ : ∃ s : Nat, (s1 : Int) + (a2 : Int) = (s : Int) := ⟨s1 + a2, by omega⟩
                obtain ⟨r, hr⟩ : ∃ r : Nat, Int.tmod (s2 : Int) 2 = (r : Int) := ⟨s2 % 2, rfl⟩
                have hrv : s2 % 2 = r := Int.ofNat.inj hr
                have ra : a1 < 400 ∧ a2 < 400 := by omega
                have htk := all_take_succ (f := edgeB D (f : Int)) hrow
                replace htk := Lib.hid htk
                by_cases hE2 : a2 % 2 ≠ a1 % 2
                · obtain rfl : r = 0 := by omega
                  rw [decide_eq_true hE2] at hE
                  clear hE2 hrv
                  replace hrow := Lib.hid hrow
                  replace hqv := Lib.hid hqv
                  replace hd1 := Lib.hid hd1
                  replace hd2 := Lib.hid hd2
                  replace hE := Lib.hid hE
                  replace hrm := Lib.hid hrm
                  replace hsr := Lib.hid hsr
                  clear at1 t1 t2 r1 r2
                  go_wp2_with fail
                  go_quiet (fail)
                  go_wp2_with fail
                  go_quiet (fail)
                  go_wp2_with fail
                  go_roundw
                  case measure => simp [intOf]; omega
                  case rel => exact ⟨k + 1, o, by omega, rfl, Lib.hid (by rw [htk.out, hE.out, ho.out]; simp), by go_num, by first | exact below_dn (below_dn hB _) _ | exact below_dn hB _⟩
                · obtain rfl : r = 1 := by omega
                  rw [decide_eq_false hE2] at hE
                  clear hE2 hrv
                  replace hrow := Lib.hid hrow
                  replace hqv := Lib.hid hqv
                  replace hd1 := Lib.hid hd1
                  replace hd2 := Lib.hid hd2
                  replace hE := Lib.hid hE
                  replace hrm := Lib.hid hrm
                  replace hsr := Lib.hid hsr
                  clear at1 t1 t2 r1 r2
                  go_wp2_with fail
                  go_quiet (fail)
                  go_wp2_with fail
                  go_quiet (fail)
                  go_wp2_with fail
                  go_roundw
                  case measure => simp [intOf]; omega
                  case rel => exact ⟨k + 1, false, by omega, rfl, Lib.hid (by rw [htk.out, hE.out]; simp), by go_num, by first | exact below_dn (below_dn hB _) _ | exact below_dn hB _⟩
              · obtain rfl : k = m := by omega
                go_wp2_with fail
                go_roundw
                case measure => simp [intOf]; omega
                case rel =>
                  refine ⟨f + 1, o, by omega, rfl, Lib.hid ?_, by go_num, hB⟩
                  rw [ho.out, List.take_of_length_le (by have := hml.out; omega), List.range_succ, List.all_append]
                  simp [edgesB]
          · obtain rfl : f = N := by omega
            obtain rfl : o = false := ho.out.trans hcol.out
            go_wp2_with fail
            go_ret
            exact ⟨rfl, B8.trans (hB.mono (by omega))⟩
      | true =>
        have e1 : zs = parL D ∧ code = 0 := by rw [hcol] at H3'; exact Prod.mk.inj H3'
        obtain ⟨rfl, rfl⟩ := e1
        clear H3' 
        have hall : ∀ f : Nat, f < N → ∀ p ∈ xss, edgeB D (f : Int) p = true := by
          unfold colB at hcol
          intro f hf p hp
          have := List.all_eq_true.1 hcol f (List.mem_range.2 hf)
          unfold edgesB at this
          exact List.all_eq_true.1 this p hp
        have hn3e : n3 = N := by have := o3.lenI; unfold parL at this; rw [List.length_map, hDl.out] at this; omega
        obtain rfl : N = n3 := hn3e.symm
        replace hall := Lib.hid hall
        replace hcol := Lib.hid hcol
        go_wp2_with fail
        ((with_reducible refine (i_DistancesFrom_any w6 A1 m c1 xss R6 (by omega) hmc 0 ⟨by omega, by omega⟩).mono ?_); rintro e w7 ⟨A7, n7, c7, ds, k7, rfl, H7, o7, hn7, f7⟩)
        obtain ⟨rfl, rfl⟩ := Prod.mk.inj (H7.out.trans hdF).symm
        clear H7 hdF
        have y7 := f7.size
        have B7 := below_then B6 f7 (by omega)
        have R7 := R6.below f7 (by omega)
        have C7 := (f7.cell (p := ⟨b, 0, none⟩) (by simp; omega)).trans C6
        have o3 := o3.below f7 (by omega)
        clear C6 R6
        obtain rfl : N = n7 := by have := o7.lenI; rw [hDl.out] at this; exact this
        have h5 := flags5_any A1 m c1 xss w7 R7 (by omega) (by omega)
        rw [hN.out] at h5
        go_wp2_with fail
        ((with_reducible refine h5.mono ?_); rintro e w8 ⟨rfl, f8⟩)
        have y8 := f8.size
        have B8 := below_then B7 f8 (by omega)
        have R8 := R7.below f8 (by omega)
        have C8 := (f8.cell (p := ⟨b, 0, none⟩) (by simp; omega)).trans C7
        have o3 := o3.below f8 (by omega)
        have o7 := o7.below f8 (by omega)
        have dN : ((N : Int) != (N : Int)) = false := by simp
        clear C7 R7 h5 f8 f7 f6 f5 f4 f3
        go_wp2_with fail
        go_loopw [12, 13] (fun ev fv wq => ∃ f : Nat, f ≤ N ∧ ev = .bool true ∧ fv = .int .i64 f ∧ Below w8.heap.size w8 wq) (fun _ fv _ => N - (intOf fv).toNat)
        case atStart => exact ⟨0, by omega, rfl, rfl, Below.refl _ _⟩
        case round =>
          obtain ⟨f, hf, rfl, rfl, hB⟩ := hrel
          by_cases hlt : f < N
          · rename World => wf
            go_wp2_with fail
            go_loopw [12, 14] (fun ev kv wq => ∃ k : Nat, k ≤ m ∧ ev = .bool true ∧ kv = .int .i64 k ∧ Below w8.heap.size w8 wq) (fun _ kv _ => m - (intOf kv).toNat)
            case atStart => exact ⟨0, by omega, rfl, rfl, hB⟩
            case round =>
              clear hB
              obtain ⟨k, hk, rfl, rfl, hB⟩ := hrel
              have Cr := (hB.cell (p := ⟨b, 0, none⟩) (by simp; omega)).trans C8
              by_cases hkm : k < m
              · obtain ⟨b1, u1, Ak, nk, ck, row, rfl, _, _, hrow, hcrow, hRrow⟩ := (R8.below hB (by omega)).at_ hkm
                have hrm := List.mem_of_getElem? hrow
                have hsr := hS.out row hrm
                obtain rfl : N = nk := by have := hRrow.len; omega
                obtain ⟨b3, u3, qv, rfl, _, _, hqv, hcq⟩ := hRrow.at_ hlt
                obtain ⟨q0, q1⟩ := hsr.1 qv (List.mem_of_getElem? hqv)
                obtain ⟨Q, rfl⟩ := Int.eq_ofNat_of_zero_le q0
                have hQ : Q < N := by omega
                have at1 : at' row (f : Int) = (Q : Int) := by unfold at'; simp [List.getD_eq_getElem?_getD, hqv]
                obtain ⟨b2, u2, d1, rfl, _, _, hd1, hc1⟩ := (o7.ri.below hB (by omega)).at_ hlt
                obtain ⟨d2, hd2⟩ : ∃ v, D[Q]? = some v := ⟨_, List.getElem?_eq_getElem (by have := hDl.out; omega)⟩
                have hc2 := (o7.ri.below hB (by omega)).cell hd2
                have t1 : dat D (f : Int) = d1 := by unfold dat; simp [List.getD_eq_getElem?_getD, hd1]
                have t2 : dat D (Q : Int) = d2 := by unfold dat; simp [List.getD_eq_getElem?_getD, hd2]
                have r1 := hD.out.rng (f : Int) (by omega) (by omega)
                have r2 := hD.out.rng (Q : Int) (by omega) (by omega)
                rw [t1] at r1
                rw [t2] at r2
                obtain ⟨a1, rfl⟩ := Int.eq_ofNat_of_zero_le r1.1
                obtain ⟨a2, rfl⟩ := Int.eq_ofNat_of_zero_le r2.1
                have hE : edgeB D (f : Int) row = decide (a2 % 2 ≠ a1 % 2) := by
                  unfold edgeB
                  rw [at1, t1, t2]
                  exact decide_eq_decide.2 (by omega)
                obtain ⟨s1, hs1⟩ : ∃ s : Nat, (a1 : Int) + 1 = (s : Int) := ⟨a1 + 1, by omega⟩
                obtain ⟨s2, hs2⟩ : ∃ s : Nat, (s1 : Int) + (a2 : Int) = (s : Int) := ⟨s1 + a2, by omega⟩
                obtain ⟨r, hr⟩ : ∃ r : Nat, Int.tmod (s2 : Int) 2 = (r : Int) := ⟨s2 % 2, rfl⟩
                have hrv : s2 % 2 = r := Int.ofNat.inj hr
                have ra : a1 < 400 ∧ a2 < 400 := by omega
                have hE1 := hall.out f hlt row hrm
                rw [hE] at hE1
                have hE2 := of_decide_eq_true hE1
                obtain rfl : r = 0 := by omega
                have hd1' : (parL D)[f]? = some (((a1 % 2 : Nat)) : Int) := by unfold parL; rw [List.getElem?_map, hd1]; rfl
                have hd2' : (parL D)[Q]? = some (((a2 % 2 : Nat)) : Int) := by unfold parL; rw [List.getElem?_map, hd2]; rfl
                obtain ⟨b4, u4, v4, rfl, _, _, hv4, hc4⟩ := (o3.ri.below hB (by omega)).at_ hlt
                have hc5 := (o3.ri.below hB (by omega)).cell hd2'
                obtain rfl : (((a1 % 2 : Nat)) : Int) = v4 := by rw [hd1'] at hv4; exact Option.some.inj hv4
                obtain ⟨e1, he1⟩ : ∃ e1, a1 % 2 = e1 := ⟨_, rfl⟩
                obtain ⟨e2, he2⟩ : ∃ e2, a2 % 2 = e2 := ⟨_, rfl⟩
                rw [he1] at hc4
                rw [he2] at hc5
                have hne : ((e1 : Int) == (e2 : Int)) = false := by simp; omega
                replace hd1' := Lib.hid hd1'
                replace hd2' := Lib.hid hd2'
                replace hv4 := Lib.hid hv4
                clear hE1 hE2 he1 he2 hrv
                replace hrow := Lib.hid hrow
                replace hqv := Lib.hid hqv
                replace hd1 := Lib.hid hd1
                replace hd2 := Lib.hid hd2
                replace hE := Lib.hid hE
                replace hrm := Lib.hid hrm
                replace hsr := Lib.hid hsr
                clear at1 t1 t2 r1 r2
                go_wp2_with fail
                go_quiet (fail)
                go_wp2_with fail
                go_quiet (fail)
                go_wp2_with fail
                go_roundw
                case measure => simp [intOf]; omega
                case rel => exact ⟨k + 1, by omega, rfl, by go_num, by first | exact below_dn (below_dn hB _) _ | exact below_dn hB _⟩
              · obtain rfl : k = m := by omega
                go_wp2_with fail
                go_roundw
                case measure => simp [intOf]; omega
                case rel => exact ⟨f + 1, by omega, rfl, by go_num, hB⟩
          · obtain rfl : f = N := by omega
            go_wp2_with fail
            go_ret
            exact ⟨rfl, B8.trans (hB.mono (by omega))⟩
set_option maxRecDepth 100000 in
theorem lifted (os : Os) (started : os.Started) (H : Type) (enc : TypeId × Value → H) :
    ReturnsInHanded {} Try.checked os 4 .any (Rows.fnColouringsSpec.pre6 enc Try.prog Try.f4 Rows.fnColouringsRow.domain false) (Rows.fnColouringsSpec.post enc Try.prog Try.f4 false true false false) := by
  refine returnsInHanded_of_change (C := Try.checked) own started (by kernel_rfl) Try.func4
    (ChangeSpec.witness6 (enc := enc) (C := Try.checked) false ⟨#[], #[.slice none 0 0], []⟩ 8 (by kernel_rfl) (by kernel_rfl) (by kernel_rfl) (by kernel_rfl)) ?_
  intro W base args ds gs before hval0 hW hcnd _
  have hval : ∀ (j : Nat) t v, Try.f4.params[j]? = some t → args[j]? = some v → Value.okWide Try.prog W .any base t v := hval0
  have hW' := hW
  obtain ⟨p, q, hA0, hV, rfl, hfz, hnd⟩ := hW
  have hA : DataW.TrodAll enc Try.prog W 0 (fun _ => true) true Try.f4.params.toList args.toList ds p := hA0
  rw [Try.params4] at hA hval
  obtain ⟨v0, vs0, d0, ds0, p0, q0, hargs, rfl, rfl, h0, r0⟩ := trodAll_cons hA
  obtain ⟨rfl, rfl, rfl⟩ := trodAll_nil r0
  obtain rfl : args = #[v0] := by cases args; simp_all
  obtain ⟨rfl, rfl⟩ := trodVars_none hV
  obtain ⟨a0, n0, c0, rfl⟩ := okWide_slice Try.underlying22 (hval 0 22 v0 rfl rfl)
  have k0 := h0
  have lt0 : ∀ x ∈ p0, x.block < W.heap.size := by obtain ⟨m, hm⟩ := k0; exact DataW.trod_lt m _ _ _ hm
  obtain ⟨xs0, w0, b0⟩ := open_RB Try.underlying22 Try.underlying5 (by kernel_rfl) h0
  clear hA0 hval0
  refine (walk a0 n0 c0 xs0 W w0 b0).mono fun e W' ⟨he, bel⟩ => ?_
  subst he
  exact ⟨_, rfl, _, _, _, [], _, [], hW', trodAll_mk1 (shut_bool Try.underlying4 _), (trodAll_cons_mk (Below.trod laidOut (by kernel_rfl) (of_decide_eq_true (by kernel_rfl)) k0 bel lt0) trodAll_mk0), rfl, bel.frame _, fun h => by cases h⟩
theorem over : Rows.fnColouringsRow.holds Try.pinned (OpenSpec.ofChange Rows.fnColouringsSpec) :=
  OpenClaim.holds_of_wide 4 Try.f4 rfl rfl rfl rfl rfl rfl rfl ⟨rfl, rfl, rfl, rfl, rfl⟩ rfl rfl rfl rfl rfl (by kernel_rfl) Try.func4 (by kernel_rfl)
    (of_decide_eq_true (by kernel_rfl)) (by unfold Func.isWrapper; first | (rw [if_pos (by decide +kernel)]; kernel_rfl) | (rw [if_neg (by decide +kernel)]; exact ⟨rfl, rfl⟩))
    (fun os started H enc _ => lifted os started H enc)
/-- THE STATEMENT -/
theorem proved : Rows.FnColouringsSaid := over
end Go.Proofs.Ytdaljeghdiknpaa.fnColourings
