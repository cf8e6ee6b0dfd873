/- Walks: the distances of all flags from a flag, the program's (by a queue) and the reference's. Up to 400 flags. -/
import Derived.Test.YtpbkdjkgaalegaaDistP
import Derived.Test.YtpbkdjkgaalegaaQue
import Derived.Test.YtpbkdjkgaalegaaRun
namespace Go.Proofs.Ytpbkdjkgaalegaa
open Go.RowKit
set_option linter.unusedVariables false
set_option maxRecDepth 100000
theorem dat_get {d : List Int} {z : Nat} {n : Nat} (hl : d.length = n) (hz : z < n) : d[z]? = some (dat d (z : Int)) := by
  unfold dat; rw [Int.toNat_natCast]; exact get?_getD 0 (by omega)
set_option maxHeartbeats 4000000 in
theorem distances_any (b : Nat) (A : Option Addr) (n c : Nat) (xss : List (List Int)) (x : Int) (w : World) (hc : w.cell? ⟨b, 0, none⟩ = some (.slice A n c)) (hbs : b < w.heap.size) {lo hi : Nat} (h : RS w lo hi A n xss) (hhi : hi ≤ w.heap.size) (hn : 0 < n) (N : Nat) (hN : flg xss = N) (h4 : N ≤ 400) (hs : SysOf xss N) (hx0 : 0 ≤ x) (hx1 : x < N) :
    Calls Try.prog 80 #[.pointer (some ⟨b, 0, none⟩), .int .i64 x] w fun e w' => ∃ A1, e = .returned (.slice A1 N N) ∧ Own w' w.heap.size w'.heap.size 2 A1 N N ((dist xss N x).map (Value.int .i64)) ∧ Below w.heap.size w w' := by
  obtain ⟨j0, hj0, hy0, hy1, hy2⟩ := info_parts infoI
  have hm := h.max
  have hl := Lib.hid h.len
  obtain ⟨x, rfl⟩ : ∃ q : Nat, x = q := ⟨x.toNat, by omega⟩
  have hst := DMet.start (list := xss) hx0 hx1
  replace hst := Lib.hid hst
  replace hs := Lib.hid hs
  have hR := rs_alloc h hhi (.cells #[.int .i64 (-1)] 2)
  have hC : (w.alloc (.cells #[.int .i64 (-1)] 2)).cell? ⟨b, 0, none⟩ = some (.slice A n c) := (al_old _ _ _ _ hbs).trans hc
  go_enter Try.func80, Try.ntmps80
  go_wp2_with fail
  ((with_reducible refine (flags_any _ A n c xss _ hC hR hn).mono ?_); rintro e w' ⟨rfl, rfl⟩)
  rw [hN]
  go_wp2_with fail
  ((with_reducible refine (repeat_any _ _ N (-1) _ (ri_lit1 w _ _) (by simp) (by omega)).mono ?_); rintro e w1 ⟨A1, rfl, ho1, hb1⟩)
  have hB1 : Below w.heap.size w w1 := ((Below.refl _ _).alloc (Nat.le_refl _) _).trans (hb1.mono (by simp))
  replace ho1 := ho1.more (lo' := w.heap.size) (hi' := w1.heap.size) (by simp) (Nat.le_refl _)
  have hz1 := hB1.size
  clear hb1 hR hC
  obtain ⟨b1, x1, rfl, hb1, hb2, hb3, hxx, hcx, hfx⟩ := ho1.atI (k := x) (by omega)
  clear hxx
  have hC1 := (hB1.cell (p := ⟨b, 0, none⟩) (by simp; omega)).trans hc
  have hxN : x < N := by omega
  go_wp2_with fail
  have hset := (ho1.setI (b := b1) (k := x) 0).keep (same_alloc _ (.cells #[.int .i64 (x : Int)] 2) _ _ (by simp))
  have hopen := Que.of_own (own_lit1 (w1.setCell ⟨b1, x, none⟩ (.int .i64 0)) 2 (x : Int) (lo := w1.heap.size) (by simp))
  rw [World.size_setCell] at hopen
  have hbA : Below w.heap.size w ((w1.setCell ⟨b1, x, none⟩ (.int .i64 0)).alloc (.cells #[.int .i64 (x : Int)] 2)) := (hB1.setCell (by simp; omega) _).alloc (by simp; omega) _
  clear ho1 hB1 hcx hfx
  go_loopg [6] (N + 2) (fun f ov wq => ∃ (i : Nat) (d pre q : List Int) (A2 : Option Addr) (c2 : Nat), ov = .slice A2 q.length c2 ∧ f + i = N + 2 ∧ pre.length = i ∧ q.length ≤ 400 ∧ Hid (dGo xss (N + 1 - i) (d, pre ++ q) i = dGo xss (N + 1) (dstart N x) 0) ∧ Hid (DMet xss N x d (pre ++ q) i) ∧
      Own wq w.heap.size w1.heap.size 2 (some ⟨b1, 0, none⟩) N N (d.map (Value.int .i64)) ∧ Que wq w1.heap.size A2 q.length c2 (q.map (Value.int .i64)) ∧ w1.heap.size ≤ wq.heap.size ∧ Below w.heap.size w wq)
  case atStart =>
    exact ⟨0, (dstart N x).1, [], [(x : Int)], _, 1, rfl, by omega, rfl, by simp, Lib.hid rfl, Lib.hid hst.out, by simpa [dstart] using hset, hopen, by simp, hbA⟩
  case round =>
    clear hset hopen hbA hst
    obtain ⟨i, d, pre, q, A2, c2, rfl, hfn, hpl, hql, heq, hd, ho, hop, hz, hb⟩ := hrel
    have hlen := hd.out.met.len
    rw [List.length_append] at hlen
    obtain ⟨f, rfl⟩ : ∃ f, gk = f + 1 := ⟨gk - 1, by omega⟩
    rcases q with _ | ⟨y, q⟩
    · have hcq := hop.max
      go_wp2_with fail
      go_ret
      refine ⟨_, rfl, ?_, hb⟩
      have h1 := heq.out
      rw [dGo_stop (by simp; omega)] at h1
      unfold dist
      rw [← h1]
      exact ho.more (Nat.le_refl _) hz
    · have hiN : (pre ++ y :: q)[i]? = some y := by rw [List.getElem?_append_right (by omega), show i - pre.length = 0 by omega]; rfl
      have hyr := hd.out.met.rng y (mem_of_get? hiN)
      have hyd := hd.out.datn (mem_of_get? hiN)
      obtain ⟨y, rfl⟩ : ∃ q : Nat, y = q := ⟨y.toNat, by omega⟩
      obtain ⟨g2, o2, rfl, hg2, hg3⟩ := hop.addr
      have hgc := hop.cell (k := 0) (v := .int .i64 (y : Int)) rfl
      rw [Nat.add_zero] at hgc
      rw [List.length_cons] at hop hql ⊢
      have hcap := hop.cap
      have hcm := hop.max
      have hCk := (hb.cell (p := ⟨b, 0, none⟩) (by simp; omega)).trans hc
      replace hiN := Lib.hid hiN
      replace hyd := Lib.hid hyd
      go_wp2_with fail
      obtain ⟨wo, hwo⟩ : ∃ wo : World, wo = wr := ⟨_, rfl⟩
      go_loopw [6, 33] (fun ov kv wq => ∃ (k : Nat) (d2 q2 : List Int) (A3 : Option Addr) (c3 : Nat), k ≤ n ∧ kv = .int .i64 k ∧ ov = .slice A3 (q2.length + 1) c3 ∧ q2.length ≤ 400 ∧ Hid ((d2, pre ++ (y : Int) :: q2) = dStep (xss.take k) y (d, pre ++ (y : Int) :: q)) ∧ Hid (DMet xss N x d2 (pre ++ (y : Int) :: q2) i) ∧
          Own wq w.heap.size w1.heap.size 2 (some ⟨b1, 0, none⟩) N N (d2.map (Value.int .i64)) ∧ Que wq w1.heap.size A3 (q2.length + 1) c3 (((y : Int) :: q2).map (Value.int .i64)) ∧ w1.heap.size ≤ wq.heap.size ∧ Below w.heap.size w wq) (fun _ kv _ => n - (intOf kv).toNat)
      case atStart => exact ⟨0, d, q, _, c2, by omega, rfl, rfl, by omega, Lib.hid rfl, hd, ho, hop, hz, hb⟩
      case round =>
        clear ho hop hz hb hgc hwo hcap hcm hCk
        obtain ⟨k, d2, q2, A3, c3, hk, rfl, rfl, hq2, hds, hd2, ho, hop, hz, hb⟩ := hrel
        have hiN2 : (pre ++ (y : Int) :: q2)[i]? = some (y : Int) := by rw [List.getElem?_append_right (by omega), show i - pre.length = 0 by omega]; rfl
        have hlen2 := hd2.out.met.len
        rw [List.length_append, List.length_cons] at hlen2
        have hdl := hd2.out.dl
        have hyd2 := hd2.out.datn (mem_of_get? hiN2)
        by_cases hkm : k < n
        · obtain ⟨bb, oo, Ak, nk, ck, p, rfl, _, _, hp, hpc, hpr⟩ := (h.below hb hhi).at_ hkm
          have hpm := mem_of_get? hp
          obtain ⟨hpr0, hpn, hpll⟩ := hs.out p hpm
          have hnk := hpr.len
          have hynk : y < nk := by omega
          obtain ⟨bp, oq, v, rfl, _, _, hv, hvc⟩ := hpr.at_ hynk
          have hva : at' p y = v := by unfold at'; rw [Int.toNat_natCast]; exact getD_some hv
          obtain ⟨hv0, hv1⟩ := hpr0 v (mem_of_get? hv)
          obtain ⟨v, rfl⟩ : ∃ q : Nat, v = q := ⟨v.toNat, by omega⟩
          have htk := take_succ_of hp
          have hcv := ho.cellI (dat_get hdl (show v < N by omega))
          have hcy := ho.cellI (dat_get hdl (show y < N by omega))
          have hfr := ho.frz v
          have hvr := hd2.out.datr hv0 hv1
          have hyd0 := hyd2.1
          have hyd1 := hyd2.2
          have hvN : v < N := by omega
          have hyN : y < N := by omega
          have hsp := dMove_spec (s := (d2, pre ++ (y : Int) :: q2)) hs.out hd2.out hiN2 hpm
          have hmv : dMove y (d2, pre ++ (y : Int) :: q2) p = dStep (xss.take (k + 1)) y (d, pre ++ (y : Int) :: q) := by rw [htk, dStep_snoc, ← hds.out]
          unfold dMove at hmv hsp
          rw [hva] at hmv hsp
          by_cases hneg : dat d2 v < 0
          · rw [if_pos hneg] at hmv hsp
            have e2 : pre ++ (y : Int) :: q2 ++ [(v : Int)] = pre ++ (y : Int) :: (q2 ++ [(v : Int)]) := by simp
            rw [Int.toNat_natCast, e2] at hmv hsp
            have hmet2 := hsp.1
            have hlen3 := hmet2.met.len
            rw [List.length_append, List.length_cons, List.length_append, List.length_singleton] at hlen3
            have hdd : decide (dat d2 v < 0) = true := decide_eq_true hneg
            replace hmet2 := Lib.hid hmet2
            replace hmv := Lib.hid hmv
            replace hp := Lib.hid hp
            replace hv := Lib.hid hv
            replace htk := Lib.hid htk
            replace hva := Lib.hid hva
            replace hpr0 := Lib.hid hpr0
            replace hpll := Lib.hid hpll
            replace hiN2 := Lib.hid hiN2
            clear hsp e2 hdl hyd2
            generalize dat d2 v = u at *
            generalize dat d2 y = u2 at *
            have hop' := hop.far (p := ⟨b1, v, none⟩) hb2 (.int .i64 (u2 + 1))
            have hss : (wr.setCell ⟨b1, v, none⟩ (.int .i64 (u2 + 1))).heap.size = wr.heap.size := World.size_setCell _ _ _
            replace hss := Lib.hid hss
            go_wp2_with (at_builtin; refine wpList_appendQ (wr.setCell ⟨b1, v, none⟩ (.int .i64 (u2 + 1))) rfl (.tmp 54) (.tmp 56) 26 rfl w1.heap.size 2 j0 (.int .i64 0) 8 Try.underlying26 hj0 hy0 hy1 hy2 rfl (by omega) A3 (q2.length + 1) c3 _ (.int .i64 v) rfl hop' _ rfl (World.size_setCell _ _ _).symm rfl (by omega) (by rw [hss.out]; exact hz) ?_)
            intro A4 c4 w2 hop4 hbe
            have hb4 : Below w.heap.size w w2 := (hb.setCell (p := ⟨b1, v, none⟩) hb1 (.int .i64 (u2 + 1))).trans (hbe.mono hz1)
            have ho4 := (ho.setI (b := b1) (k := v) (u2 + 1)).below hbe (Nat.le_refl _)
            have hz4 : w1.heap.size ≤ w2.heap.size := by have := hbe.size; have := hss.out; omega
            clear ho hop hop' hb hpc hvc hcv hcy hfr hpr hbe
            go_wp2_with fail
            go_roundw
            case measure => simp [intOf]; omega
            case rel =>
              exact ⟨k + 1, d2.set v (u2 + 1), q2 ++ [(v : Int)], A4, c4, by omega, by go_num, by rw [List.length_append]; rfl, by simp; omega, hmv, hmet2, ho4, by simpa using hop4, hz4, hb4⟩
          · rw [if_neg hneg] at hmv hsp
            have hdd : decide (dat d2 v < 0) = false := decide_eq_false hneg
            replace hmv := Lib.hid hmv
            replace hp := Lib.hid hp
            replace hv := Lib.hid hv
            replace htk := Lib.hid htk
            replace hva := Lib.hid hva
            replace hpr0 := Lib.hid hpr0
            replace hpll := Lib.hid hpll
            replace hiN2 := Lib.hid hiN2
            clear hsp hdl hyd2
            generalize dat d2 v = u at *
            generalize dat d2 y = u2 at *
            go_wp2_with fail
            go_roundw
            case measure => simp [intOf]; omega
            case rel => exact ⟨k + 1, d2, q2, A3, c3, by omega, by go_num, rfl, hq2, hmv, hd2, ho, hop, hz, hb⟩
        · have hkm' : k = n := by omega
          subst hkm'
          obtain ⟨g4, o4, rfl, hg4, hg5⟩ := hop.addr
          have hcap := hop.cap
          have hcm := hop.max
          replace hiN2 := Lib.hid hiN2
          replace hdl := Lib.hid hdl
          replace hyd2 := Lib.hid hyd2
          have hds2 : (d2, pre ++ (y : Int) :: q2) = dStep xss y (d, pre ++ (y : Int) :: q) := by have := hds.out; rwa [List.take_of_length_le (by have := hl.out; omega)] at this
          have hnx : DMet xss N x d2 (pre ++ (y : Int) :: q2) (i + 1) := by
            have := dStep_next (s := (d, pre ++ (y : Int) :: q)) hs.out hd.out hiN.out
            rw [← hds2] at this
            exact this
          have hgo : dGo xss (N + 1 - (i + 1)) (d2, pre ++ (y : Int) :: q2) (i + 1) = dGo xss (N + 1) (dstart N x) 0 := by
            have h1 := heq.out
            rw [show N + 1 - i = (N - i) + 1 by omega, dGo_step (s := (d, pre ++ (y : Int) :: q)) hiN.out, ← hds2] at h1
            rw [← h1, show N + 1 - (i + 1) = N - i by omega]
          have e3 : pre ++ (y : Int) :: q2 = (pre ++ [(y : Int)]) ++ q2 := by simp
          rw [e3] at hnx hgo
          replace hds2 := Lib.hid hds2
          replace hnx := Lib.hid hnx
          replace hgo := Lib.hid hgo
          replace e3 := Lib.hid e3
          by_cases hc1 : c3 = 1
          · go_wp2_with fail
            go_roundg f
            case measure => omega
            case rel => exact ⟨i + 1, d2, pre ++ [(y : Int)], q2, _, c3 - 1, by rw [hc1], by omega, by simp; omega, by omega, hgo, hnx, ho, hop.pop (.inr ⟨hc1, rfl⟩), hz, hb⟩
          · go_wp2_with fail
            go_roundg f
            case measure => omega
            case rel => exact ⟨i + 1, d2, pre ++ [(y : Int)], q2, _, c3 - 1, rfl, by omega, by simp; omega, by omega, hgo, hnx, ho, hop.pop (.inl rfl), hz, hb⟩
set_option maxHeartbeats 4000000 in
theorem l02Distances_any (A : Option Addr) (n c : Nat) (xss : List (List Int)) (x : Int) (w : World) {lo hi : Nat} (h : RS w lo hi A n xss) (hhi : hi ≤ w.heap.size) (hn : 0 < n) (N : Nat) (hN : flg xss = N) (h4 : N ≤ 400) (hs : SysOf xss N) (hx0 : 0 ≤ x) (hx1 : x < N) :
    Calls Try.prog 44 #[.agg #[.slice A n c], .int .i64 x] w fun e w' => ∃ (A1 : Option Addr) (c1 : Nat), e = .returned (.slice A1 N c1) ∧ Own w' w.heap.size w'.heap.size 2 A1 N c1 ((dist xss N x).map (Value.int .i64)) ∧ Below w.heap.size w w' := by
  obtain ⟨j0, hj0, hy0, hy1, hy2⟩ := info_parts infoI
  have hm := h.max
  have hl := Lib.hid h.len
  obtain ⟨x, rfl⟩ : ∃ q : Nat, x = q := ⟨x.toNat, by omega⟩
  have hst := DMet.start (list := xss) hx0 hx1
  replace hst := Lib.hid hst
  replace hs := Lib.hid hs
  have hR := rs_alloc h hhi (.cells #[.slice A n c] 29)
  have hC : (w.alloc (.cells #[.slice A n c] 29)).cell? ⟨w.heap.size, 0, none⟩ = some (.slice A n c) := al_new _ _ _ _ rfl
  have hB : Below w.heap.size w (w.alloc (.cells #[.slice A n c] 29)) := (Below.refl _ _).alloc (Nat.le_refl _) _
  have h0 := World.ownsRow_lit (e := 2) (base := (w.alloc (.cells #[.slice A n c] 29)).heap.size) (size := 1) (w.alloc (.cells #[.slice A n c] 29)) #[] 0 (Nat.le_refl _) (by omega) rfl
  go_enter Try.func44, Try.ntmps44
  go_wp2_with fail
  obtain ⟨W1, hW⟩ : ∃ W1 : World, w.alloc (.cells #[.slice A n c] 29) = W1 := ⟨_, rfl⟩
  have hzW : W1.heap.size = w.heap.size + 1 := by rw [← hW]; simp
  rw [hW] at hR hC hB h0 ⊢
  clear hW
  have h0 : (W1.alloc (.cells #[] 2)).ownsRow W1.heap.size 2 1 (.slice (some ⟨w.heap.size + 1, 0, none⟩) 0 0) 0 (([] : List Int).map (Value.int .i64)) := by rw [← hzW]; exact h0
  go_loopw [5, 6] (fun ov iv wr => ∃ (i : Nat) (A1 : Option Addr) (c1 : Nat), i ≤ N ∧ ov = .slice A1 i c1 ∧ iv = .int .i64 i ∧ Own wr W1.heap.size wr.heap.size 2 A1 i c1 ((List.replicate i (-1)).map (Value.int .i64)) ∧ Below W1.heap.size W1 wr) (fun _ iv _ => N - (intOf iv).toNat)
  case atStart => exact ⟨0, _, 0, by omega, rfl, rfl, Own.of_row h0, (Below.refl _ _).alloc (Nat.le_refl _) _⟩
  case round =>
    clear h0
    obtain ⟨i, A1, c1, hi, rfl, rfl, ho, hb⟩ := hrel
    have hsize := hb.size
    have hCk := (hb.cell (p := ⟨w.heap.size, 0, none⟩) (by simp; omega)).trans hC
    by_cases hlt : i < N
    · go_wp2_with fail
      ((with_reducible refine (l02Flags_any A n c xss _ (hR.below hb (by omega)) (by omega) hn).mono ?_); rintro e w2 ⟨rfl, f2⟩)
      rw [hN]
      have y2 := f2.size
      have ho2 := ho.below f2 (Nat.le_refl _)
      have hb2 := below_then hb f2 (by omega)
      go_wp2_with (at_builtin; refine wpList_append1 w2 rfl (.tmp 18) (.tmp 19) 26 rfl W1.heap.size 2 j0 (.int .i64 0) 8 Try.underlying26 hj0 hy0 hy1 hy2 rfl (by omega) _ i c1 _ (.int .i64 (-1)) rfl ho2.1 _ rfl rfl rfl (by omega) (by omega) ?_)
      intro g4 c4 w3 ho3 hg3 hlo3 hlt3 hor3
      have hb4 : Below W1.heap.size W1 w3 := hb2.grown hg3 (by omega) (fun q hq => by have := (ho2.1.lt q hq).1; omega)
      clear ho hb hg3 ho2 hb2 f2 hCk
      go_wp2_with fail
      go_roundw
      case measure => simp [intOf]; omega
      case rel => exact ⟨i + 1, _, c4, by omega, rfl, by go_num, by rw [hzW, List.replicate_succ']; simpa using Own.of_row ho3, hb4⟩
    · have hin : i = N := by omega
      subst hin
      go_wp2_with fail
      ((with_reducible refine (l02Flags_any A n c xss _ (hR.below hb (by omega)) (by omega) hn).mono ?_); rintro e w1 ⟨rfl, f1⟩)
      rw [hN]
      have y1 := f1.size
      have ho1 := (ho.below f1 (Nat.le_refl _)).more (hi' := w1.heap.size) (Nat.le_refl _) y1
      have hb1 := below_then hb f1 (by omega)
      clear ho hb f1
      obtain ⟨b1, x1, rfl, hb11, hb12, hb13, hxx, hcx, hfx⟩ := ho1.atI (k := x) (by omega)
      clear hxx
      have hxN : x < i := by omega
      go_wp2_with fail
      have hset := (ho1.setI (b := b1) (k := x) 0).keep (same_alloc _ (.cells #[.int .i64 (x : Int)] 2) _ _ (by simp))
      have hopen := Que.of_own (own_lit1 (w1.setCell ⟨b1, x, none⟩ (.int .i64 0)) 2 (x : Int) (lo := w1.heap.size) (by simp))
      rw [World.size_setCell] at hopen
      have hbA : Below W1.heap.size W1 ((w1.setCell ⟨b1, x, none⟩ (.int .i64 0)).alloc (.cells #[.int .i64 (x : Int)] 2)) := (hb1.setCell (by simp; omega) _).alloc (by simp; omega) _
      clear ho1 hb1 hcx hfx
      go_loopw [7, 8] (fun ov jv wq => ∃ (j : Nat) (d out : List Int) (A2 : Option Addr) (c2 : Nat), j ≤ out.length ∧ out.length ≤ i ∧ ov = .slice A2 out.length c2 ∧ jv = .int .i64 j ∧ Hid (dGo xss (i + 1 - j) (d, out) j = dGo xss (i + 1) (dstart i x) 0) ∧ Hid (DMet xss i x d out j) ∧
          Own wq W1.heap.size w1.heap.size 2 (some ⟨b1, 0, none⟩) i c1 (d.map (Value.int .i64)) ∧ Que wq w1.heap.size A2 out.length c2 (out.map (Value.int .i64)) ∧ w1.heap.size ≤ wq.heap.size ∧ Below W1.heap.size W1 wq) (fun _ jv _ => i - (intOf jv).toNat)
      case atStart => exact ⟨0, (dstart i x).1, [(x : Int)], _, 1, by simp, by simp; omega, rfl, rfl, Lib.hid rfl, Lib.hid hst.out, by simpa [dstart] using hset, hopen, by simp, hbA⟩
      case round =>
        clear hset hopen hbA hst
        obtain ⟨j, d, out, A2, c2, hj, hln, rfl, rfl, heq, hd, ho, hop, hz, hb⟩ := hrel
        have hcap := hop.cap
        have hcm := hop.max
        by_cases hlt2 : j < out.length
        · obtain ⟨y, hy⟩ : ∃ y, out[j]? = some y := ⟨_, List.getElem?_eq_getElem hlt2⟩
          have hyr := hd.out.met.rng y (mem_of_get? hy)
          obtain ⟨y, rfl⟩ : ∃ q : Nat, y = q := ⟨y.toNat, by omega⟩
          replace hy := Lib.hid hy
          go_wp2_with fail
          obtain ⟨wo, hwo⟩ : ∃ wo : World, wo = wr := ⟨_, rfl⟩
          go_loopw [7, 9] (fun ov kv wq => ∃ (k : Nat) (d2 out2 : List Int) (A3 : Option Addr) (c3 : Nat), k ≤ n ∧ out2.length ≤ i ∧ ov = .slice A3 out2.length c3 ∧ kv = .int .i64 k ∧ Hid ((d2, out2) = dStep (xss.take k) y (d, out)) ∧ Hid (DMet xss i x d2 out2 j) ∧ Hid (out2[j]? = some (y : Int)) ∧
              Own wq W1.heap.size w1.heap.size 2 (some ⟨b1, 0, none⟩) i c1 (d2.map (Value.int .i64)) ∧ Que wq w1.heap.size A3 out2.length c3 (out2.map (Value.int .i64)) ∧ w1.heap.size ≤ wq.heap.size ∧ Below W1.heap.size W1 wq) (fun _ kv _ => n - (intOf kv).toNat)
          case atStart => exact ⟨0, d, out, _, c2, by omega, hln, rfl, rfl, Lib.hid rfl, hd, hy, ho, hop, hz, hb⟩
          case round =>
            clear ho hop hz hb hwo hcap hcm
            obtain ⟨k, d2, out2, A3, c3, hk, hln2, rfl, rfl, hds, hd2, hy2', ho, hop, hz, hb⟩ := hrel
            have hCk := (hb.cell (p := ⟨w.heap.size, 0, none⟩) (by simp; omega)).trans hC
            have hjl : j < out2.length := (List.getElem?_eq_some_iff.1 hy2'.out).1
            have hdl := hd2.out.dl
            have hyd2 := hd2.out.datn (mem_of_get? hy2'.out)
            by_cases hkm : k < n
            · obtain ⟨bb, oo, Ak, nk, ck, p, rfl, _, _, hp, hpc, hpr⟩ := (hR.below hb (by omega)).at_ hkm
              have hpm := mem_of_get? hp
              obtain ⟨hpr0, hpn, hpll⟩ := hs.out p hpm
              have hnk := hpr.len
              have hynk : y < nk := by omega
              obtain ⟨bp, oq, v, rfl, _, _, hv, hvc⟩ := hpr.at_ hynk
              have hva : at' p y = v := by unfold at'; rw [Int.toNat_natCast]; exact getD_some hv
              obtain ⟨hv0, hv1⟩ := hpr0 v (mem_of_get? hv)
              obtain ⟨v, rfl⟩ : ∃ q : Nat, v = q := ⟨v.toNat, by omega⟩
              have htk := take_succ_of hp
              have hcv := ho.cellI (dat_get hdl (show v < i by omega))
              have hcy := ho.cellI (dat_get hdl (show y < i by omega))
              have hfr := ho.frz v
              have hvr := hd2.out.datr hv0 hv1
              have hyd0 := hyd2.1
              have hyd1 := hyd2.2
              have hvN : v < i := by omega
              have hyN : y < i := by omega
              obtain ⟨g3, o3, rfl, hg3, hg4⟩ := hop.addr
              have hcap := hop.cap
              have hcm := hop.max
              have hoc := hop.cell (k := j) (v := .int .i64 (y : Int)) (by simp [hy2'.out])
              have hsp := dMove_spec (s := (d2, out2)) hs.out hd2.out hy2'.out hpm
              have hmv : dMove y (d2, out2) p = dStep (xss.take (k + 1)) y (d, out) := by rw [htk, dStep_snoc, ← hds.out]
              unfold dMove at hmv hsp
              rw [hva] at hmv hsp
              by_cases hneg : dat d2 v < 0
              · rw [if_pos hneg] at hmv hsp
                rw [Int.toNat_natCast] at hmv hsp
                have hmet2 := hsp.1
                have hget2 := hsp.2.1
                have hlen3 := hmet2.met.len
                rw [List.length_append, List.length_singleton] at hlen3
                have hdd : decide (dat d2 v < 0) = true := decide_eq_true hneg
                replace hmet2 := Lib.hid hmet2
                replace hget2 := Lib.hid hget2
                replace hmv := Lib.hid hmv
                replace hp := Lib.hid hp
                replace hv := Lib.hid hv
                replace htk := Lib.hid htk
                replace hva := Lib.hid hva
                replace hpr0 := Lib.hid hpr0
                replace hpll := Lib.hid hpll
                clear hsp hdl hyd2
                generalize dat d2 v = u at *
                generalize dat d2 y = u2 at *
                go_wp2_with fail
                go_quiet (fail)
                have hop' := (hop.drewN nq).far (p := ⟨b1, v, none⟩) hb12 (.int .i64 (u2 + 1))
                have hss : ((wr.drewN nq).setCell ⟨b1, v, none⟩ (.int .i64 (u2 + 1))).heap.size = wr.heap.size := World.size_setCell _ _ _
                replace hss := Lib.hid hss
                go_wp2_with (at_builtin; refine wpList_appendQ ((wr.drewN nq).setCell ⟨b1, v, none⟩ (.int .i64 (u2 + 1))) rfl (.tmp 66) (.tmp 68) 26 rfl w1.heap.size 2 j0 (.int .i64 0) 8 Try.underlying26 hj0 hy0 hy1 hy2 rfl (by omega) _ out2.length c3 _ (.int .i64 v) rfl hop' _ rfl (World.size_setCell _ _ _).symm rfl (by omega) (by rw [hss.out]; exact hz) ?_)
                intro A4 c4 w2 hop4 hbe
                have hb4 : Below W1.heap.size W1 w2 := ((below_dn hb nq).setCell (p := ⟨b1, v, none⟩) hb11 (.int .i64 (u2 + 1))).trans (hbe.mono (by omega))
                have ho4 : Own w2 W1.heap.size w1.heap.size 2 (some ⟨b1, 0, none⟩) i c1 ((d2.set v (u2 + 1)).map (Value.int .i64)) := (Own.setI (w := wr.drewN nq) (b := b1) (k := v) ho (u2 + 1)).below hbe (Nat.le_refl _)
                have hz4 : w1.heap.size ≤ w2.heap.size := by have := hbe.size; have := hss.out; omega
                clear ho hop hop' hb hpc hvc hcv hcy hfr hpr hbe hoc hCk
                go_wp2_with fail
                go_roundw
                case measure => simp [intOf]; omega
                case rel =>
                  exact ⟨k + 1, d2.set v (u2 + 1), out2 ++ [(v : Int)], A4, c4, by omega, by simp; omega, by rw [List.length_append]; rfl, by go_num, hmv, hmet2, hget2, ho4, by simpa using hop4, hz4, hb4⟩
              · rw [if_neg hneg] at hmv hsp
                have hdd : decide (dat d2 v < 0) = false := decide_eq_false hneg
                replace hmv := Lib.hid hmv
                replace hp := Lib.hid hp
                replace hv := Lib.hid hv
                replace htk := Lib.hid htk
                replace hva := Lib.hid hva
                replace hpr0 := Lib.hid hpr0
                replace hpll := Lib.hid hpll
                clear hsp hdl hyd2
                generalize dat d2 v = u at *
                generalize dat d2 y = u2 at *
                go_wp2_with fail
                go_quiet (fail)
                go_wp2_with fail
                go_roundw
                case measure => simp [intOf]; omega
                case rel => exact ⟨k + 1, d2, out2, _, c3, by omega, hln2, rfl, by go_num, hmv, hd2, hy2', ho, hop.drewN nq, hz, below_dn hb _⟩
            · have hkm' : k = n := by omega
              subst hkm'
              replace hdl := Lib.hid hdl
              replace hyd2 := Lib.hid hyd2
              have hds2 : (d2, out2) = dStep xss y (d, out) := by have := hds.out; rwa [List.take_of_length_le (by have := hl.out; omega)] at this
              have hnx : DMet xss i x d2 out2 (j + 1) := by
                have := dStep_next (s := (d, out)) hs.out hd.out hy.out
                rw [← hds2] at this
                exact this
              have hgo : dGo xss (i + 1 - (j + 1)) (d2, out2) (j + 1) = dGo xss (i + 1) (dstart i x) 0 := by
                have h1 := heq.out
                rw [show i + 1 - j = (i - j) + 1 by omega, dGo_step (s := (d, out)) hy.out, ← hds2] at h1
                rw [← h1, show i + 1 - (j + 1) = i - j by omega]
              replace hds2 := Lib.hid hds2
              replace hnx := Lib.hid hnx
              replace hgo := Lib.hid hgo
              go_wp2_with fail
              go_roundw
              case measure => simp [intOf]; omega
              case rel => exact ⟨j + 1, d2, out2, _, c3, by omega, hln2, rfl, by go_num, hgo, hnx, ho, hop, hz, hb⟩
        · go_wp2_with fail
          go_ret
          refine ⟨_, c1, rfl, ?_, hB.trans (hb.mono (by omega))⟩
          have h1 := heq.out
          rw [dGo_stop (by simp; omega)] at h1
          unfold dist
          rw [← h1]
          exact ho.more (by omega) hz
end Go.Proofs.Ytpbkdjkgaalegaa
