/- Walks: the colouring of the flags, the program's (by a queue) and the reference's (parities of the distances). Up to 400 flags. -/
import Derived.Test.YtonojnblcleggaaColP
import Derived.Test.YtonojnblcleggaaDist
namespace Go.Proofs.Ytonojnblcleggaa
open Go.RowKit
set_option linter.unusedVariables false
set_option maxRecDepth 100000
theorem always_any (x : Int) (w : World) : Calls Try.prog 107 #[.int .i64 x] w fun e w' => e = .returned (.bool true) ∧ w = w' := by
  go_enter Try.func107, Try.ntmps107
  go_wp2_with fail
  go_ret
  exact ⟨rfl, rfl⟩
set_option maxHeartbeats 4000000 in
theorem coloured_any (b : Nat) (A : Option Addr) (n c : Nat) (xss : List (List Int)) (w : World) (hc : w.cell? ⟨b, 0, none⟩ = some (.slice A n c)) (hbs : b < w.heap.size) {lo hi : Nat} (h : RS w lo hi A n xss) (hhi : hi ≤ w.heap.size) (hn : 0 < n) (N : Nat) (hN : flg xss = N) (h4 : N ≤ 400) (hs : SysOf xss N) (hx1 : 0 < N) (hcon : Conn xss N) :
    Calls Try.prog 106 #[.pointer (some ⟨b, 0, none⟩), .func (.func 107) #[] #[]] w fun e w' => ∃ A1, e = .returned (.tuple #[.slice A1 N N, .bool (colB xss N (dist xss N 0))]) ∧ Own w' w.heap.size w'.heap.size 2 A1 N N ((parL (dist xss N 0)).map (Value.int .i64)) ∧ Below w.heap.size w w' := by
  obtain ⟨j0, hj0, hy0, hy1, hy2⟩ := info_parts infoI
  have hm := h.max
  have hl := Lib.hid h.len
  have hst := DMet.start (n := N) (x := 0) (list := xss) (by omega) (by omega)
  have hcs := Col.start (n := N) (x := 0) (by omega) (by omega)
  replace hcs := Lib.hid hcs
  replace hcon := Lib.hid hcon
  obtain ⟨D, hD⟩ : ∃ D, D = dist xss N 0 := ⟨_, rfl⟩
  rw [← hD]
  replace hD := Lib.hid hD
  replace hst := Lib.hid hst
  replace hs := Lib.hid hs
  have hR := rs_alloc h hhi (.cells #[.int .i64 (-1)] 2)
  have hC : (w.alloc (.cells #[.int .i64 (-1)] 2)).cell? ⟨b, 0, none⟩ = some (.slice A n c) := (al_old _ _ _ _ hbs).trans hc
  go_enter Try.func106, Try.ntmps106
  go_wp2_with fail
  ((with_reducible refine (flags_any _ A n c xss _ hC hR hn).mono ?_); rintro e w' ⟨rfl, rfl⟩)
  rw [hN]
  go_wp2_with fail
  ((with_reducible refine (repeat_any _ _ N (-1) _ (ri_lit1 w _ _) (by simp) (by omega)).mono ?_); rintro e w1 ⟨A1, rfl, ho1, hb1⟩)
  have hB1 : Below w.heap.size w w1 := ((Below.refl _ _).alloc (Nat.le_refl _) _).trans (hb1.mono (by simp))
  replace ho1 := ho1.more (lo' := w.heap.size) (hi' := w1.heap.size) (by simp) (Nat.le_refl _)
  have hz1 := hB1.size
  clear hb1 hR hC
  obtain ⟨b1, x1, rfl, hb1, hb2, hb3, hxx, hcx, hfx⟩ := ho1.atI (k := 0) (by omega)
  clear hxx
  have hC1 := (hB1.cell (p := ⟨b, 0, none⟩) (by simp; omega)).trans hc
  go_wp2_with fail
  have hset := (ho1.setI (b := b1) (k := 0) 0).keep (same_alloc _ (.cells #[.int .i64 0] 2) _ _ (by simp))
  have hopen := Que.of_own (own_lit1 (w1.setCell ⟨b1, 0, none⟩ (.int .i64 0)) 2 0 (lo := w1.heap.size) (by simp))
  rw [World.size_setCell] at hopen
  have hbA : Below w.heap.size w ((w1.setCell ⟨b1, 0, none⟩ (.int .i64 0)).alloc (.cells #[.int .i64 0] 2)) := (hB1.setCell (by simp; omega) _).alloc (by simp; omega) _
  clear ho1 hB1 hcx hfx
  go_loopg [7, 8] (N + 2) (fun f okv ov wq => ∃ (i : Nat) (d cs pre q : List Int) (A2 : Option Addr) (c2 : Nat) (ob : Bool), okv = .bool ob ∧ ov = .slice A2 q.length c2 ∧ Hid (ob = pre.all (edgesB xss D)) ∧ Hid (Col N d cs) ∧ f + i = N + 2 ∧ pre.length = i ∧ q.length ≤ 400 ∧ Hid (dGo xss (N + 1 - i) (d, pre ++ q) i = dGo xss (N + 1) (dstart N 0) 0) ∧ Hid (DMet xss N 0 d (pre ++ q) i) ∧
      Own wq w.heap.size w1.heap.size 2 (some ⟨b1, 0, none⟩) N N (cs.map (Value.int .i64)) ∧ Que wq w1.heap.size A2 q.length c2 (q.map (Value.int .i64)) ∧ w1.heap.size ≤ wq.heap.size ∧ Below w.heap.size w wq)
  case atStart =>
    exact ⟨0, (dstart N 0).1, (dstart N 0).1, [], [0], _, 1, true, rfl, rfl, Lib.hid rfl, hcs, by omega, rfl, by simp, Lib.hid rfl, Lib.hid hst.out, by simpa [dstart] using hset, hopen, by simp, hbA⟩
  case round =>
    clear hset hopen hbA hst
    obtain ⟨i, d, cs, pre, q, A2, c2, ob, rfl, rfl, hob, hcol, hfn, hpl, hql, heq, hd, ho, hop, hz, hb⟩ := hrel
    have hlen := hd.out.met.len
    rw [List.length_append] at hlen
    obtain ⟨f, rfl⟩ : ∃ f, gk = f + 1 := ⟨gk - 1, by omega⟩
    rcases q with _ | ⟨y, q⟩
    · have hcq := hop.max
      go_wp2_with fail
      go_ret2
      have h1 := heq.out
      rw [dGo_stop (by simp; omega)] at h1
      have hdD : d = D := by rw [hD.out]; unfold dist; rw [← h1]
      subst hdD
      have hfin := dist_fin hs.out hcon.out (show (0 : Int) ≤ 0 by omega) (show (0 : Int) < N by omega)
      rw [← hD.out] at hfin
      have hmem : ∀ z : Int, 0 ≤ z → z < N → z ∈ pre ++ [] := fun z z0 z1 => (hd.out.pos z z0 z1).1 (hfin.rng z z0 z1).1
      rw [← hcol.out.end_ (fun z z0 z1 => (hfin.rng z z0 z1).1)]
      have hob2 : ob = colB xss N d := by rw [hob.out]; unfold colB; rw [← all_out hd.out.met (met_full hmem) (edgesB xss d)]; simp
      rw [← hob2]
      exact ⟨_, rfl, ho.more (Nat.le_refl _) hz, hb⟩
    · have hiN : (pre ++ y :: q)[i]? = some y := by rw [List.getElem?_append_right (by omega), show i - pre.length = 0 by omega]; rfl
      have hyr := hd.out.met.rng y (mem_of_get? hiN)
      have hyd := hd.out.datn (mem_of_get? hiN)
      obtain ⟨y, rfl⟩ : ∃ q : Nat, y = q := ⟨y.toNat, by omega⟩
      obtain ⟨g2, o2, rfl, hg2, hg3⟩ := hop.addr
      have hgc := hop.cell (k := 0) (v := .int .i64 (y : Int)) rfl
      rw [Nat.add_zero] at hgc
      rw [List.length_cons] at hop hql ⊢
      have hcap := hop.cap
      have hcm := hop.max
      have hCk := (hb.cell (p := ⟨b, 0, none⟩) (by simp; omega)).trans hc
      replace hiN := Lib.hid hiN
      replace hyd := Lib.hid hyd
      go_wp2_with fail
      obtain ⟨wo, hwo⟩ : ∃ wo : World, wo = wr := ⟨_, rfl⟩
      go_loopw [7, 8, 34] (fun okv ov kv wq => ∃ (k : Nat) (d2 cs2 q2 : List Int) (A3 : Option Addr) (c3 : Nat) (ob2 : Bool), okv = .bool ob2 ∧ Hid (ob2 = (pre.all (edgesB xss D) && (xss.take k).all (edgeB D y))) ∧ Hid (Col N d2 cs2) ∧ k ≤ n ∧ kv = .int .i64 k ∧ ov = .slice A3 (q2.length + 1) c3 ∧ q2.length ≤ 400 ∧ Hid ((d2, pre ++ (y : Int) :: q2) = dStep (xss.take k) y (d, pre ++ (y : Int) :: q)) ∧ Hid (DMet xss N 0 d2 (pre ++ (y : Int) :: q2) i) ∧
          Own wq w.heap.size w1.heap.size 2 (some ⟨b1, 0, none⟩) N N (cs2.map (Value.int .i64)) ∧ Que wq w1.heap.size A3 (q2.length + 1) c3 (((y : Int) :: q2).map (Value.int .i64)) ∧ w1.heap.size ≤ wq.heap.size ∧ Below w.heap.size w wq) (fun _ _ kv _ => n - (intOf kv).toNat)
      case atStart => exact ⟨0, d, cs, q, _, c2, ob, rfl, Lib.hid (by simpa using hob.out), hcol, by omega, rfl, rfl, by omega, Lib.hid rfl, hd, ho, hop, hz, hb⟩
      case round =>
        clear ho hop hz hb hgc hwo hcap hcm hCk
        obtain ⟨k, d2, cs2, q2, A3, c3, ob2, rfl, hob2, hcol2, hk, rfl, rfl, hq2, hds, hd2, ho, hop, hz, hb⟩ := hrel
        have hiN2 : (pre ++ (y : Int) :: q2)[i]? = some (y : Int) := by rw [List.getElem?_append_right (by omega), show i - pre.length = 0 by omega]; rfl
        have hlen2 := hd2.out.met.len
        rw [List.length_append, List.length_cons] at hlen2
        have hdl := hd2.out.dl
        have hyd2 := hd2.out.datn (mem_of_get? hiN2)
        by_cases hkm : k < n
        · obtain ⟨bb, oo, Ak, nk, ck, p, rfl, _, _, hp, hpc, hpr⟩ := (h.below hb hhi).at_ hkm
          have hpm := mem_of_get? hp
          obtain ⟨hpr0, hpn, hpll⟩ := hs.out p hpm
          have hnk := hpr.len
          have hynk : y < nk := by omega
          obtain ⟨bp, oq, v, rfl, _, _, hv, hvc⟩ := hpr.at_ hynk
          have hva : at' p y = v := by unfold at'; rw [Int.toNat_natCast]; exact getD_some hv
          obtain ⟨hv0, hv1⟩ := hpr0 v (mem_of_get? hv)
          obtain ⟨v, rfl⟩ : ∃ q : Nat, v = q := ⟨v.toNat, by omega⟩
          have htk := take_succ_of hp
          have hcl := hcol2.out.2.1
          have hcv := ho.cellI (dat_get hcl (show v < N by omega))
          have hcy := ho.cellI (dat_get hcl (show y < N by omega))
          have hfr := ho.frz v
          have hyd0 := hyd2.1
          have hvN : v < N := by omega
          have hyN : y < N := by omega
          have hcyv := hcol2.out.val (z := (y : Int)) (by omega) (by omega) hyd0
          have hcvn := hcol2.out.neg (z := (v : Int)) (by omega) (by omega)
          have hsp := dMove_spec (s := (d2, pre ++ (y : Int) :: q2)) hs.out hd2.out hiN2 hpm
          have hmv : dMove y (d2, pre ++ (y : Int) :: q2) p = dStep (xss.take (k + 1)) y (d, pre ++ (y : Int) :: q) := by rw [htk, dStep_snoc, ← hds.out]
          have hDk : ∀ z ∈ (dMove y (d2, pre ++ (y : Int) :: q2) p).2, dat D z = dat (dMove y (d2, pre ++ (y : Int) :: q2) p).1 z := by
            intro z hz'
            rw [hmv] at hz' ⊢
            have := final_keep (f := N - i) (s := (d, pre ++ (y : Int) :: q)) hs.out hd.out hiN.out hz'
            rw [show N - i + 1 = N + 1 - i by omega, heq.out] at this
            rw [hD.out]
            exact this
          have hes := edges_snoc hp hob2.out
          have hu0 : 0 ≤ dat cs2 y ∧ dat cs2 y ≤ 1 := by rw [hcyv]; omega
          by_cases hneg : dat d2 v < 0
          · have hed := edge_new (p := p) hs.out hd2.out hiN2 hpm (by rw [hva]; exact hneg) hDk
            rw [hed, Bool.and_true] at hes
            have hco := hcol2.out.set (g := (v : Int)) (y := (y : Int)) (by omega) (by omega) (by omega) (by omega) hyd0
            unfold dMove at hmv hsp
            rw [hva] at hmv hsp
            rw [if_pos hneg] at hmv hsp
            have e2 : pre ++ (y : Int) :: q2 ++ [(v : Int)] = pre ++ (y : Int) :: (q2 ++ [(v : Int)]) := by simp
            rw [Int.toNat_natCast, e2] at hmv hsp
            rw [Int.toNat_natCast] at hco
            have hmet2 := hsp.1
            have hlen3 := hmet2.met.len
            rw [List.length_append, List.length_cons, List.length_append, List.length_singleton] at hlen3
            have hdd : decide (dat cs2 v < 0) = true := decide_eq_true (hcvn.2 hneg)
            replace hes := Lib.hid hes
            replace hco := Lib.hid hco
            replace hed := Lib.hid hed
            replace hDk := Lib.hid hDk
            replace hmet2 := Lib.hid hmet2
            replace hmv := Lib.hid hmv
            replace hp := Lib.hid hp
            replace hv := Lib.hid hv
            replace htk := Lib.hid htk
            replace hva := Lib.hid hva
            replace hpr0 := Lib.hid hpr0
            replace hpll := Lib.hid hpll
            replace hiN2 := Lib.hid hiN2
            clear hsp e2 hdl hyd2 hcl hcvn hcyv hneg hyd0
            generalize dat cs2 v = u at *
            generalize dat cs2 y = u2 at *
            have hop' := hop.far (p := ⟨b1, v, none⟩) hb2 (.int .i64 (1 - u2))
            have hss : (wr.setCell ⟨b1, v, none⟩ (.int .i64 (1 - u2))).heap.size = wr.heap.size := World.size_setCell _ _ _
            replace hss := Lib.hid hss
            go_wp2_with fail
            ((with_reducible refine (always_any _ _).mono ?_); rintro e w' ⟨rfl, rfl⟩)
            go_wp2_with (at_builtin; refine wpList_appendQ (wr.setCell ⟨b1, v, none⟩ (.int .i64 (1 - u2))) rfl (.tmp 62) (.tmp 64) 22 rfl w1.heap.size 2 j0 (.int .i64 0) 8 Try.underlying22 hj0 hy0 hy1 hy2 rfl (by omega) A3 (q2.length + 1) c3 _ (.int .i64 v) rfl hop' _ rfl (World.size_setCell _ _ _).symm rfl (by omega) (by rw [hss.out]; exact hz) ?_)
            intro A4 c4 w2 hop4 hbe
            have hb4 : Below w.heap.size w w2 := (hb.setCell (p := ⟨b1, v, none⟩) hb1 (.int .i64 (1 - u2))).trans (hbe.mono hz1)
            have ho4 := (ho.setI (b := b1) (k := v) (1 - u2)).below hbe (Nat.le_refl _)
            have hz4 : w1.heap.size ≤ w2.heap.size := by have := hbe.size; have := hss.out; omega
            clear ho hop hop' hb hpc hvc hcv hcy hfr hpr hbe
            go_wp2_with fail
            go_roundw
            case measure => simp [intOf]; omega
            case rel =>
              exact ⟨k + 1, d2.set v (dat d2 y + 1), cs2.set v (1 - u2), q2 ++ [(v : Int)], A4, c4, ob2, rfl, hes, hco, by omega, by go_num, by rw [List.length_append]; rfl, by simp; omega, hmv, hmet2, ho4, by simpa using hop4, hz4, hb4⟩
          · have hed := edge_old (p := p) hs.out hd2.out hiN2 hpm (by rw [hva]; exact hneg) hDk
            rw [hva] at hed
            have hcvv := hcol2.out.val (z := (v : Int)) (by omega) (by omega) (by omega)
            rw [← hcvv, ← hcyv] at hed
            have hv01 : 0 ≤ dat cs2 v ∧ dat cs2 v ≤ 1 := by rw [hcvv]; omega
            have hdd : decide (dat cs2 v < 0) = false := decide_eq_false (by omega)
            unfold dMove at hmv
            rw [hva] at hmv
            rw [if_neg hneg] at hmv
            by_cases hne : dat cs2 v = dat cs2 y
            · have hed2 : edgeB D y p = false := by rw [hed]; exact decide_eq_false (fun hh => hh hne)
              rw [hed2, Bool.and_false] at hes
              have hbn : (dat cs2 v != 1 - dat cs2 y) = true := by simp; omega
              have hbd : decide (dat cs2 v = 1 - dat cs2 y) = false := decide_eq_false (by omega)
              replace hes := Lib.hid hes
              replace hed := Lib.hid hed
              replace hed2 := Lib.hid hed2
              replace hDk := Lib.hid hDk
              replace hmv := Lib.hid hmv
              replace hp := Lib.hid hp
              replace hv := Lib.hid hv
              replace htk := Lib.hid htk
              replace hva := Lib.hid hva
              replace hpr0 := Lib.hid hpr0
              replace hpll := Lib.hid hpll
              replace hiN2 := Lib.hid hiN2
              replace hne := Lib.hid hne
              clear hsp hdl hyd2 hcl hcvn hcyv hneg hyd0 hcvv
              generalize dat cs2 v = u at *
              generalize dat cs2 y = u2 at *
              go_wp2_with fail
              ((with_reducible refine (always_any _ _).mono ?_); rintro e w' ⟨rfl, rfl⟩)
              go_wp2_with fail
              go_roundw
              case measure => simp [intOf]; omega
              case rel => exact ⟨k + 1, d2, cs2, q2, A3, c3, false, rfl, hes, hcol2, by omega, by go_num, rfl, hq2, hmv, hd2, ho, hop, hz, hb⟩
            · have hed2 : edgeB D y p = true := by rw [hed]; exact decide_eq_true hne
              rw [hed2, Bool.and_true] at hes
              have hbn : (dat cs2 v != 1 - dat cs2 y) = false := by simp; omega
              have hbd : decide (dat cs2 v = 1 - dat cs2 y) = true := decide_eq_true (by omega)
              replace hes := Lib.hid hes
              replace hed := Lib.hid hed
              replace hed2 := Lib.hid hed2
              replace hDk := Lib.hid hDk
              replace hmv := Lib.hid hmv
              replace hp := Lib.hid hp
              replace hv := Lib.hid hv
              replace htk := Lib.hid htk
              replace hva := Lib.hid hva
              replace hpr0 := Lib.hid hpr0
              replace hpll := Lib.hid hpll
              replace hiN2 := Lib.hid hiN2
              replace hne := Lib.hid hne
              clear hsp hdl hyd2 hcl hcvn hcyv hneg hyd0 hcvv
              generalize dat cs2 v = u at *
              generalize dat cs2 y = u2 at *
              go_wp2_with fail
              ((with_reducible refine (always_any _ _).mono ?_); rintro e w' ⟨rfl, rfl⟩)
              go_wp2_with fail
              go_roundw
              case measure => simp [intOf]; omega
              case rel => exact ⟨k + 1, d2, cs2, q2, A3, c3, ob2, rfl, hes, hcol2, by omega, by go_num, rfl, hq2, hmv, hd2, ho, hop, hz, hb⟩
        · have hkm' : k = n := by omega
          subst hkm'
          obtain ⟨g4, o4, rfl, hg4, hg5⟩ := hop.addr
          have hcap := hop.cap
          have hcm := hop.max
          replace hiN2 := Lib.hid hiN2
          replace hdl := Lib.hid hdl
          replace hyd2 := Lib.hid hyd2
          have hds2 : (d2, pre ++ (y : Int) :: q2) = dStep xss y (d, pre ++ (y : Int) :: q) := by have := hds.out; rwa [List.take_of_length_le (by have := hl.out; omega)] at this
          have hnx : DMet xss N 0 d2 (pre ++ (y : Int) :: q2) (i + 1) := by
            have := dStep_next (s := (d, pre ++ (y : Int) :: q)) hs.out hd.out hiN.out
            rw [← hds2] at this
            exact this
          have hgo : dGo xss (N + 1 - (i + 1)) (d2, pre ++ (y : Int) :: q2) (i + 1) = dGo xss (N + 1) (dstart N 0) 0 := by
            have h1 := heq.out
            rw [show N + 1 - i = (N - i) + 1 by omega, dGo_step (s := (d, pre ++ (y : Int) :: q)) hiN.out, ← hds2] at h1
            rw [← h1, show N + 1 - (i + 1) = N - i by omega]
          have hob3 : ob2 = (pre ++ [(y : Int)]).all (edgesB xss D) := edges_next (by have := hob2.out; rwa [List.take_of_length_le (by have := hl.out; omega)] at this)
          replace hob3 := Lib.hid hob3
          have e3 : pre ++ (y : Int) :: q2 = (pre ++ [(y : Int)]) ++ q2 := by simp
          rw [e3] at hnx hgo
          replace hds2 := Lib.hid hds2
          replace hnx := Lib.hid hnx
          replace hgo := Lib.hid hgo
          replace e3 := Lib.hid e3
          by_cases hc1 : c3 = 1
          · go_wp2_with fail
            go_roundg f
            case measure => omega
            case rel => exact ⟨i + 1, d2, cs2, pre ++ [(y : Int)], q2, _, c3 - 1, ob2, rfl, by rw [hc1], hob3, hcol2, by omega, by simp; omega, by omega, hgo, hnx, ho, hop.pop (.inr ⟨hc1, rfl⟩), hz, hb⟩
          · go_wp2_with fail
            go_roundg f
            case measure => omega
            case rel => exact ⟨i + 1, d2, cs2, pre ++ [(y : Int)], q2, _, c3 - 1, ob2, rfl, rfl, hob3, hcol2, by omega, by simp; omega, by omega, hgo, hnx, ho, hop.pop (.inl rfl), hz, hb⟩
theorem colB_false {xss : List (List Int)} {n f : Nat} {D p : List Int} (hf : f < n) (hp : p ∈ xss) (h : edgeB D (f : Int) p = false) : colB xss n D = false := by
  cases hq : colB xss n D with
  | false => rfl
  | true =>
    have h1 := List.all_eq_true.1 hq f (by simpa using hf)
    have h2 := List.all_eq_true.1 h1 p hp
    rw [h] at h2
    cases h2
theorem parL_of {D ds : List Int} {n : Nat} (hD : D.length = n) (hl : ds.length = n) (h : ∀ z : Nat, z < n → ds[z]? = some (dat D (z : Int) % 2)) : ds = parL D := by
  unfold parL
  refine List.ext_getElem? fun k => ?_
  by_cases hk : k < n
  · rw [h k hk, List.getElem?_map, get?_getD (xs := D) 0 (by omega)]
    unfold dat
    rw [Int.toNat_natCast]
    rfl
  · rw [List.getElem?_eq_none (by omega), List.getElem?_eq_none (by simp; omega)]
set_option maxHeartbeats 4000000 in
theorem l02Colours_any (A : Option Addr) (n c : Nat) (xss : List (List Int)) (w : World) {lo hi : Nat} (h : RS w lo hi A n xss) (hhi : hi ≤ w.heap.size) (hn : 0 < n) (N : Nat) (hN : flg xss = N) (h4 : N ≤ 400) (hs : SysOf xss N) (hx1 : 0 < N) (hcon : Conn xss N) :
    Calls Try.prog 74 #[.agg #[.slice A n c]] w fun e w' => ∃ (A1 : Option Addr) (n1 c1 : Nat) (zs : List Int), e = .returned (.tuple #[.slice A1 n1 c1, .bool (colB xss N (dist xss N 0))]) ∧ Hid (zs = colZ xss N (dist xss N 0)) ∧ Own w' w.heap.size w'.heap.size 2 A1 n1 c1 (zs.map (Value.int .i64)) ∧ n1 ≤ 1048576 ∧ Below w.heap.size w w' := by
  have hm := h.max
  have hl := Lib.hid h.len
  have hfin := dist_fin hs hcon (show (0 : Int) ≤ 0 by omega) (show (0 : Int) < N by omega)
  have hdist := fun w1 R1 hh => l02Distances_any A n c xss 0 (lo := lo) (hi := hi) w1 R1 hh hn N hN h4 hs (by omega) (by omega)
  replace hs := Lib.hid hs
  have hR := rs_alloc h hhi (.cells #[.slice A n c] 46)
  have hC : (w.alloc (.cells #[.slice A n c] 46)).cell? ⟨w.heap.size, 0, none⟩ = some (.slice A n c) := al_new _ _ _ _ rfl
  have hB : Below w.heap.size w (w.alloc (.cells #[.slice A n c] 46)) := (Below.refl _ _).alloc (Nat.le_refl _) _
  obtain ⟨D, hD⟩ : ∃ D, dist xss N 0 = D := ⟨_, rfl⟩
  rw [hD] at hdist hfin ⊢
  clear hD hcon
  have hDl := hfin.dl
  replace hfin := Lib.hid hfin
  replace hdist := Lib.hid hdist
  replace hDl := Lib.hid hDl
  go_enter Try.func74, Try.ntmps74
  go_wp2_with fail
  obtain ⟨W1, hW⟩ : ∃ W1 : World, w.alloc (.cells #[.slice A n c] 46) = W1 := ⟨_, rfl⟩
  have hzW : W1.heap.size = w.heap.size + 1 := by rw [← hW]; simp
  rw [hW] at hR hC hB ⊢
  clear hW
  ((with_reducible refine (hdist.out W1 hR (by omega)).mono ?_); rintro e w2 ⟨A2, c2, rfl, o2, f2⟩)
  have y2 := f2.size
  have B2 : Below W1.heap.size W1 w2 := f2
  clear f2 hdist
  go_wp2_with fail
  go_loopw [5] (fun kv wq => ∃ (f : Nat) (ds : List Int), f ≤ N ∧ kv = .int .i64 f ∧ Hid (ds.length = N) ∧ Hid (∀ z : Nat, z < N → ds[z]? = some (if z < f then dat D (z : Int) % 2 else dat D (z : Int))) ∧ Own wq W1.heap.size w2.heap.size 2 A2 N c2 (ds.map (Value.int .i64)) ∧ w2.heap.size ≤ wq.heap.size ∧ Below W1.heap.size W1 wq) (fun kv _ => N - (intOf kv).toNat)
  case atStart => exact ⟨0, D, by omega, rfl, hDl, Lib.hid (fun z hz => by rw [if_neg (by omega)]; exact dat_get hDl.out hz), o2, Nat.le_refl _, B2⟩
  case round =>
    clear o2 B2
    obtain ⟨f, ds, hf, rfl, hdl, hds, ho, hz, hb⟩ := hrel
    by_cases hlt : f < N
    · obtain ⟨b2, u, rfl, hb21, hb22, hb23, hu, hcu, hfu⟩ := ho.atI hlt
      have hu2 : u = dat D (f : Int) := by
        have := hds.out f hlt
        rw [if_neg (by omega), hu] at this
        exact Option.some.inj this
      obtain ⟨hu0, hu1⟩ := hfin.out.rng (f : Int) (by omega) (by omega)
      rw [← hu2] at hu0 hu1
      have hrm : Int.tmod u 2 = u % 2 := Int.tmod_eq_emod_of_nonneg hu0
      have hr2 : 0 ≤ u % 2 ∧ u % 2 < 2 := by omega
      have hfrz := hfu f
      replace hu := Lib.hid hu
      replace hu2 := Lib.hid hu2
      go_wp2_with fail
      go_roundw
      case measure => simp [intOf]; omega
      case rel =>
        refine ⟨f + 1, ds.set f (u % 2), by omega, by go_num, Lib.hid (by simp [hdl.out]), Lib.hid fun z hzN => ?_, ?_, by simp; omega, ?_⟩
        · by_cases e : z = f
          · subst e
            rw [if_pos (by omega), ← hu2.out]
            simp [hdl.out, hlt]
          · rw [List.getElem?_set_ne (by omega), hds.out z hzN]
            congr 1
            by_cases e2 : z < f
            · rw [if_pos e2, if_pos (by omega)]
            · rw [if_neg e2, if_neg (by omega)]
        · have := ho.setI (b := b2) (k := f) (u % 2)
          first
            | exact this
            | (rw [hrm]; exact this)
            | (simpa [hrm] using this)
        · first
            | exact hb.setCell (p := ⟨b2, f, none⟩) hb21 _
            | (simpa using hb.setCell (p := ⟨b2, f, none⟩) hb21 _)
    · have hfN : f = N := by omega
      subst hfN
      have hpar : ds = parL D := parL_of hDl.out hdl.out (fun z hz' => by rw [hds.out z hz', if_pos hz'])
      have hval : ∀ z : Nat, z < f → ds[z]? = some (dat D (z : Int) % 2) := fun z hz' => by rw [hds.out z hz', if_pos hz']
      replace hval := Lib.hid hval
      replace hpar := Lib.hid hpar
      clear hds
      go_wp2_with fail
      go_loopw [6] (fun kv wq => ∃ (g : Nat), g ≤ f ∧ kv = .int .i64 g ∧ Hid ((List.range g).all (fun (y : Nat) => edgesB xss D (y : Int)) = true) ∧ Own wq W1.heap.size w2.heap.size 2 A2 f c2 (ds.map (Value.int .i64)) ∧ w2.heap.size ≤ wq.heap.size ∧ Below W1.heap.size W1 wq) (fun kv _ => f - (intOf kv).toNat)
      case atStart => exact ⟨0, by omega, rfl, Lib.hid (by simp), ho, hz, hb⟩
      case round =>
        clear ho hz hb
        obtain ⟨g, hg, rfl, hall, ho, hz, hb⟩ := hrel
        by_cases hlt2 : g < f
        · go_wp2_with fail
          go_loopw [7] (fun kv wq => ∃ (k : Nat), k ≤ n ∧ kv = .int .i64 k ∧ Hid ((xss.take k).all (edgeB D (g : Int)) = true) ∧ Own wq W1.heap.size w2.heap.size 2 A2 f c2 (ds.map (Value.int .i64)) ∧ w2.heap.size ≤ wq.heap.size ∧ Below W1.heap.size W1 wq) (fun kv _ => n - (intOf kv).toNat)
          case atStart => exact ⟨0, by omega, rfl, Lib.hid (by simp), ho, hz, hb⟩
          case round =>
            clear ho hz hb
            obtain ⟨k, hk, rfl, hka, ho, hz, hb⟩ := hrel
            have hCk := (hb.cell (p := ⟨w.heap.size, 0, none⟩) (by simp; omega)).trans hC
            by_cases hkn : k < n
            · obtain ⟨bb, oo, Ak, nk, ck, p, rfl, _, _, hp, hpc, hpr⟩ := (hR.below hb (by omega)).at_ hkn
              have hpm := mem_of_get? hp
              obtain ⟨hpr0, hpn, hpll⟩ := hs.out p hpm
              have hnk := hpr.len
              have hgnk : g < nk := by omega
              obtain ⟨bp, oq, v, rfl, _, _, hv, hvc⟩ := hpr.at_ hgnk
              have hva : at' p g = v := by unfold at'; rw [Int.toNat_natCast]; exact getD_some hv
              obtain ⟨hv0, hv1⟩ := hpr0 v (mem_of_get? hv)
              obtain ⟨v, rfl⟩ : ∃ q : Nat, v = q := ⟨v.toNat, by omega⟩
              have hvN : v < f := by omega
              obtain ⟨b2, u, rfl, _, _, _, hu, hcu, _⟩ := ho.atI hlt2
              have hcv := ho.cellI (hval.out v hvN)
              have hu2 : u = dat D (g : Int) % 2 := by
                have := hval.out g hlt2
                rw [hu] at this
                exact Option.some.inj this
              have hed : edgeB D (g : Int) p = decide (dat D (v : Int) % 2 ≠ u) := by unfold edgeB; rw [hva, hu2]
              have hts := all_take_succ (f := edgeB D (g : Int)) hp
              replace hu := Lib.hid hu
              replace hu2 := Lib.hid hu2
              replace hp := Lib.hid hp
              replace hv := Lib.hid hv
              replace hva := Lib.hid hva
              replace hpr0 := Lib.hid hpr0
              replace hpll := Lib.hid hpll
              generalize dat D (v : Int) % 2 = u2 at *
              by_cases heq : u2 = u
              · have hed2 : edgeB D (g : Int) p = false := by rw [hed]; exact decide_eq_false (fun hh => hh heq)
                have hcb := colB_false hlt2 hpm hed2
                have hbq : (u2 == u) = true := by simpa using heq
                replace hcb := Lib.hid hcb
                replace hed2 := Lib.hid hed2
                replace hed := Lib.hid hed
                replace hts := Lib.hid hts
                replace heq := Lib.hid heq
                go_wp2_with fail
                go_quiet (fail)
                go_wp2_with fail
                go_ret2
                refine ⟨none, 0, 0, [], ?_, Lib.hid (by unfold colZ; rw [hcb.out]; rfl), Own.nil, by omega, hB.trans ((below_dn hb _).mono (by omega))⟩
                first
                  | rfl
                  | (rw [hcb.out]; first | done | rfl)
              · have hed2 : edgeB D (g : Int) p = true := by rw [hed]; exact decide_eq_true heq
                rw [hed2, Bool.and_true, hka.out] at hts
                have hbq : (u2 == u) = false := by simpa using heq
                replace hed2 := Lib.hid hed2
                replace hed := Lib.hid hed
                replace hts := Lib.hid hts
                replace heq := Lib.hid heq
                go_wp2_with fail
                go_quiet (fail)
                go_wp2_with fail
                go_roundw
                case measure => simp [intOf]; omega
                case rel => exact ⟨k + 1, by omega, by go_num, hts, ho, hz, below_dn hb _⟩
            · have hkn' : k = n := by omega
              subst hkn'
              have hes : edgesB xss D (g : Int) = true := by have := hka.out; rwa [List.take_of_length_le (by have := hl.out; omega)] at this
              have hr := all_range_succ hall.out hes
              replace hes := Lib.hid hes
              replace hr := Lib.hid hr
              go_wp2_with fail
              go_roundw
              case measure => simp [intOf]; omega
              case rel => exact ⟨g + 1, by omega, by go_num, hr, ho, hz, hb⟩
        · have hgf : g = f := by omega
          subst hgf
          have hcb : colB xss g D = true := hall.out
          replace hcb := Lib.hid hcb
          go_wp2_with fail
          go_ret2
          refine ⟨A2, g, c2, ds, ?_, Lib.hid (by unfold colZ; rw [hcb.out]; exact hpar.out), ho.more (by omega) hz, by omega, hB.trans (hb.mono (by omega))⟩
          first
            | rfl
            | (rw [hcb.out]; first | done | rfl)
end Go.Proofs.Ytonojnblcleggaa
