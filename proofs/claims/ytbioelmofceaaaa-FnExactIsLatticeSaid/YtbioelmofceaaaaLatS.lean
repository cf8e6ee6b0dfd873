/- Walk: the reference's question whether common elements below have a greatest one. No condition but the sizes of memory. -/
import Derived.Test.YtbioelmofceaaaaLatP
import Derived.Test.YtbioelmofceaaaaOpp
import Derived.Test.YtbioelmofceaaaaFace
import Derived.Test.YtbioelmofceaaaaRow
import Derived.Test.YtbioelmofceaaaaLawP
import Derived.Deep.Cut
import Derived.Deep.CutRange
namespace Go.Proofs.Ytbioelmofceaaaa
open Go.RowKit
set_option linter.unusedVariables false
set_option maxRecDepth 100000
set_option maxHeartbeats 8000000 in
theorem l03Meets_any (r : Int) (D : Option Addr) (e0 n : Nat) (ps : List Int) (A : Option Addr) (c : Nat) (xss : List (List Int)) (w : World) {lo hi : Nat} (h : RS w lo hi A n xss) (hhi : hi ≤ w.heap.size) (hn5 : n ≤ 500) (hD : Dwn xss) :
    Calls Try.prog 27 #[.agg #[.int .i64 r, .slice D n e0, .slice A n c]] w fun e w' => e = .returned (.bool (meetB xss)) ∧ Below w.heap.size w w' := by
  obtain ⟨j0, hj0, hy0, hy1, hy2⟩ := info_parts infoI
  have hl := h.len
  have hR := rs_alloc h hhi (.cells #[.int .i64 r, .slice D n e0, .slice A n c] 29)
  have hB : Below w.heap.size w (w.alloc (.cells #[.int .i64 r, .slice D n e0, .slice A n c] 29)) := (Below.refl _ _).alloc (Nat.le_refl _) _
  have c1 : (w.alloc (.cells #[.int .i64 r, .slice D n e0, .slice A n c] 29)).cell? ⟨w.heap.size, 1, none⟩ = some (.slice D n e0) := by simp
  have c2 : (w.alloc (.cells #[.int .i64 r, .slice D n e0, .slice A n c] 29)).cell? ⟨w.heap.size, 2, none⟩ = some (.slice A n c) := by simp
  replace hl := Lib.hid hl
  replace hD := Lib.hid hD
  go_enter Try.func27, Try.ntmps27
  go_wp2_with fail
  obtain ⟨W1, hW⟩ : ∃ W1 : World, w.alloc (.cells #[.int .i64 r, .slice D n e0, .slice A n c] 29) = W1 := ⟨_, rfl⟩
  have hz1 : W1.heap.size = w.heap.size + 1 := by rw [← hW]; simp
  rw [hW] at hR hB c1 c2 ⊢
  clear hW h
  go_loopw [4] (fun iv wq => ∃ e : Nat, e ≤ n ∧ iv = .int .i64 e ∧ Hid (∀ e2 f2, f2 < e2 → e2 < e → Mt xss e2 f2) ∧ Below W1.heap.size W1 wq) (fun iv _ => n - (intOf iv).toNat)
  case atStart => exact ⟨0, by omega, rfl, Lib.hid (fun e2 f2 h1 h2 => by omega), Below.refl _ _⟩
  case round =>
    obtain ⟨e, he, rfl, hpe, hb⟩ := hrel
    by_cases hen : e < n
    · have hw1 : IntKind.i64.wrap ((e : Int) + 1) = ((e + 1 : Nat) : Int) := by rw [IntKind.wrap_i64]; omega
      go_wp2_with fail
      clear hw1
      go_loopw [5] (fun fv wq => ∃ f : Nat, f ≤ e ∧ fv = .int .i64 f ∧ Hid (∀ f2, f2 < f → Mt xss e f2) ∧ Below W1.heap.size W1 wq) (fun fv _ => e - (intOf fv).toNat)
      case atStart => exact ⟨0, by omega, rfl, Lib.hid (fun f2 h1 => by omega), hb⟩
      case round =>
        clear hb
        obtain ⟨f, hf, rfl, hpf, hb⟩ := hrel
        obtain ⟨w6, rfl⟩ : ∃ w6 : World, w6 = wr := ⟨_, rfl⟩
        by_cases hfe : f < e
        · obtain ⟨b0, o0, Ae, ne, ce, Be, hA, hA1, hA2, hBe, hcBe0, hrBe⟩ := hR.at_ hen
          obtain ⟨b2, o2, Af, nf, cf, Bf, hA', _, _, hBf, hcBf0, hrBf⟩ := hR.at_ (show f < n by omega)
          subst hA
          injection hA' with hA'
          injection hA' with q1 q2 _
          subst q1; subst q2
          have gBe : xss.getD e [] = Be := getD_some hBe
          have gBf : xss.getD f [] = Bf := getD_some hBf
          replace hBe := Lib.hid hBe
          replace hBf := Lib.hid hBf
          replace gBe := Lib.hid gBe
          replace gBf := Lib.hid gBf
          have hzb := hb.size
          have oS := (own_lit0 w6 2 (Nat.le_refl _)).more (Nat.le_refl _) (show w6.heap.size + 1 ≤ (w6.alloc (.cells #[] 2)).heap.size by simp)
          have bS : Below w6.heap.size w6 (w6.alloc (.cells #[] 2)) := (Below.refl _ _).alloc (Nat.le_refl _) _
          have zS : w6.heap.size ≤ (w6.alloc (.cells #[] 2)).heap.size := by simp
          go_wp2_with fail
          go_loopw [6, 7] (fun cv dv wq => ∃ (d m : Nat) (A6 : Option Addr) (c7 : Nat) (ys : List Int), d ≤ f + 1 ∧ m ≤ d ∧ dv = .int .i64 d ∧ cv = .slice A6 m c7 ∧ Hid (ys = cmL xss e f d) ∧ Own wq w6.heap.size wq.heap.size 2 A6 m c7 (ys.map (Value.int .i64)) ∧ w6.heap.size ≤ wq.heap.size ∧ Below w6.heap.size w6 wq) (fun _ dv _ => f + 1 - (intOf dv).toNat)
          case atStart => exact ⟨0, 0, _, 0, [], by omega, by omega, rfl, rfl, Lib.hid (cmL_zero xss e f).symm, oS, zS, bS⟩
          case round =>
            clear oS bS zS
            obtain ⟨d, m, A6, c7, ys, hd, hmd, rfl, rfl, hys, oY, hz7, hb7⟩ := hrel
            have B7 : Below W1.heap.size W1 wr := below_then hb hb7 (by omega)
            have k2 := (B7.cell (p := ⟨w.heap.size, 2, none⟩) (by simp; omega)).trans c2
            by_cases hdf : d ≤ f
            · have hle : decide ((d : Int) ≤ (f : Int)) = true := by simp; omega
              have hcBe := (B7.cell (p := ⟨b0, o0 + e, none⟩) (by simp; omega)).trans hcBe0
              have hcBf := (B7.cell (p := ⟨b0, o0 + f, none⟩) (by simp; omega)).trans hcBf0
              have rE := hrBe.below B7 (by omega)
              have rF := hrBf.below B7 (by omega)
              have e0' : (0 : Int) ≤ (e : Int) := by omega
              have e1' : (e : Int) < (n : Int) := by omega
              have f0' : (0 : Int) ≤ (f : Int) := by omega
              have f1' : (f : Int) < (n : Int) := by omega
              obtain ⟨cb, hcb⟩ : ∃ cb, cmnB xss e f d = cb := ⟨_, rfl⟩
              have hcb2 : cb = ((decide (d = f) || decide ((d : Int) ∈ Bf)) && decide ((d : Int) ∈ Be)) := by
                rw [← hcb]
                unfold cmnB Cmn
                rw [gBe.out, gBf.out]
                by_cases p1 : d = f <;> by_cases p2 : (d : Int) ∈ Bf <;> by_cases p3 : (d : Int) ∈ Be <;> simp [p1, p2, p3]
              replace hcb := Lib.hid hcb
              replace hcb2 := Lib.hid hcb2
              go_upto_region 12 with fail
              go_cut [48] from 28 to 52 (fun s48 wx => s48 = .bool cb ∧ wr = wx)
              case first =>
                by_cases hdq : d = f
                · subst hdq
                  have t1 : ((d : Int) == (d : Int)) = true := by simp
                  have hF : cb = decide ((d : Int) ∈ Be) := by rw [hcb2.out]; simp
                  replace hF := Lib.hid hF
                  go_wp2_with fail
                  ((with_reducible refine (l01Has_any Ae ne ce Be (d : Int) _ rE).mono ?_); rintro e w' ⟨rfl, rfl⟩)
                  go_wp2_with fail
                  go_meet
                  exact ⟨by rw [hF.out], rfl⟩
                · have t1 : ((d : Int) == (f : Int)) = false := by simp; omega
                  replace hdq := Lib.hid hdq
                  cases hmB : decide ((d : Int) ∈ Bf) with
                  | false =>
                    have hF : cb = false := by rw [hcb2.out, hmB, decide_eq_false hdq.out]; rfl
                    replace hF := Lib.hid hF
                    replace hmB := Lib.hid hmB
                    go_wp2_with fail
                    ((with_reducible refine (l01Has_any Af nf cf Bf (d : Int) _ rF).mono ?_); rintro e w' ⟨rfl, rfl⟩)
                    rw [hmB.out]
                    go_wp2_with fail
                    go_meet
                    exact ⟨by rw [hF.out], rfl⟩
                  | true =>
                    have hF : cb = decide ((d : Int) ∈ Be) := by rw [hcb2.out, hmB]; simp
                    replace hF := Lib.hid hF
                    replace hmB := Lib.hid hmB
                    go_wp2_with fail
                    ((with_reducible refine (l01Has_any Af nf cf Bf (d : Int) _ rF).mono ?_); rintro e w' ⟨rfl, rfl⟩)
                    rw [hmB.out]
                    go_wp2_with fail
                    ((with_reducible refine (l01Has_any Ae ne ce Be (d : Int) _ rE).mono ?_); rintro e w' ⟨rfl, rfl⟩)
                    go_wp2_with fail
                    go_meet
                    exact ⟨by rw [hF.out], rfl⟩
              case rest =>
                obtain ⟨rfl, rfl⟩ := hcut
                have hw2 : IntKind.i64.wrap ((d : Int) + 1) = ((d + 1 : Nat) : Int) := by rw [IntKind.wrap_i64]; omega
                cases cb with
                | false =>
                  have hstep : ys = cmL xss e f (d + 1) := by rw [cmL_miss (cmnB_false hcb.out), hys.out]
                  replace hstep := Lib.hid hstep
                  clear hcBe hcBf rE rF k2 hcb2
                  go_wp2_with fail
                  clear hw2
                  go_roundw
                  case measure => first | (simp [intOf]; done) | (simp [intOf]; omega)
                  case rel => first | exact ⟨d + 1, m, A6, c7, ys, by omega, by omega, rfl, rfl, hstep, oY, hz7, hb7⟩ | (repeat (first | exact ⟨⟨d + 1, m, A6, c7, ys, by omega, by omega, rfl, rfl, hstep, oY, hz7, hb7⟩, rfl⟩ | refine Exists.intro _ ?_))
                | true =>
                  have hstep : ys ++ [(d : Int)] = cmL xss e f (d + 1) := by rw [cmL_hit (cmnB_true hcb.out), hys.out]
                  replace hstep := Lib.hid hstep
                  clear hcBe hcBf rE rF k2 hcb2
                  go_wp2_with (at_builtin; refine wpList_append1 wr rfl (.tmp 49) (.tmp 51) 22 rfl w6.heap.size 2 j0 (.int .i64 0) 8 Try.underlying22 hj0 hy0 hy1 hy2 rfl (by omega) A6 m c7 _ (.int .i64 (d : Int)) rfl oY.1 _ rfl rfl rfl (by omega) hz7 ?_)
                  intro g8 c8 w8 ho8 hg8 hlo8 hlt8 hor8
                  have hb8 := hb7.grown hg8 hz7 (fun z hz => (oY.1.lt z hz).1)
                  have hz8 := hg8.size
                  have oY8 := Own.of_row ho8
                  rw [show ys.map (Value.int .i64) ++ [.int .i64 (d : Int)] = (ys ++ [(d : Int)]).map (Value.int .i64) by simp] at oY8
                  generalize ys ++ [(d : Int)] = ys2 at *
                  clear ho8 hg8 hor8 oY hb7 B7
                  go_wp2_with fail
                  clear hw2
                  go_roundw
                  case measure => first | (simp [intOf]; done) | (simp [intOf]; omega)
                  case rel => first | exact ⟨d + 1, m + 1, _, c8, ys2, by omega, by omega, rfl, rfl, hstep, oY8, by omega, hb8⟩ | (repeat (first | exact ⟨⟨d + 1, m + 1, _, c8, ys2, by omega, by omega, rfl, rfl, hstep, oY8, by omega, hb8⟩, rfl⟩ | refine Exists.intro _ ?_))
            · have hdd : d = f + 1 := by omega
              have hle : decide ((d : Int) ≤ (f : Int)) = false := by simp; omega
              have hys2 : ys = cmL xss e f (f + 1) := by rw [hys.out, hdd]
              have hml : ys.length = m := oY.lenI
              have rY := oY.ri
              replace hys2 := Lib.hid hys2
              replace hml := Lib.hid hml
              replace hdd := Lib.hid hdd
              clear hys oY
              obtain ⟨w7, rfl⟩ : ∃ w7 : World, w7 = wr := ⟨_, rfl⟩
              go_wp2_with fail
              go_loopw [8] (fun iv wq => ∃ i : Nat, i ≤ m ∧ iv = .int .i64 i ∧ Hid (∀ j, j < i → ∀ t x : Int, ys[ys.length - 1]? = some t → j + 1 < ys.length → ys[j]? = some x → x ∈ xss.getD t.toNat []) ∧ Below w7.heap.size w7 wq) (fun iv _ => m - (intOf iv).toNat)
              case atStart => exact ⟨0, by omega, rfl, Lib.hid (fun j hj => by omega), Below.refl _ _⟩
              case round =>
                obtain ⟨i, hi, rfl, hpi, hb9⟩ := hrel
                have B9 : Below W1.heap.size W1 wr := below_then B7 hb9 (by omega)
                have k2 := (B9.cell (p := ⟨w.heap.size, 2, none⟩) (by simp; omega)).trans c2
                have hw3 : IntKind.i64.wrap ((i : Int) + 1) = ((i + 1 : Nat) : Int) := by rw [IntKind.wrap_i64]; omega
                by_cases him : i + 1 < m
                · obtain ⟨mm, hmm⟩ : ∃ mm : Nat, mm + 1 = m := ⟨m - 1, by omega⟩
                  have hw4 : IntKind.i64.wrap ((m : Int) - 1) = (mm : Int) := by rw [IntKind.wrap_i64]; omega
                  have rY9 := rY.below hb9 (by omega)
                  obtain ⟨b6, o6, t, hA6, _, _, ht, hct⟩ := rY9.at_ (show mm < m by omega)
                  subst hA6
                  obtain ⟨b6', o6', x, hA6, _, _, hx, hcx⟩ := rY9.at_ (show i < m by omega)
                  injection hA6 with hA6
                  injection hA6 with q1 q2 _
                  subst q1; subst q2
                  have hdl := decide_eq_true (show ((i + 1 : Nat) : Int) < (m : Int) by omega)
                  obtain ⟨tn, htn, _, rfl⟩ := cmL_mem.1 (hys2.out ▸ mem_of_get? ht)
                  have htn2 : tn < n := by omega
                  obtain ⟨b3, o3, At, nt, ct, Bt, hA3, _, _, hBt, hcBt0, hrBt⟩ := hR.at_ htn2
                  injection hA3 with hA3
                  injection hA3 with q1 q2 _
                  subst q1; subst q2
                  have hcBt := (B9.cell (p := ⟨b0, o0 + tn, none⟩) (by simp; omega)).trans hcBt0
                  have gBt : xss.getD tn [] = Bt := getD_some hBt
                  have m0 : (0 : Int) ≤ (mm : Int) := by omega
                  have m1 : (mm : Int) < (m : Int) := by omega
                  have i0 : (0 : Int) ≤ (i : Int) := by omega
                  have i1 : (i : Int) < (m : Int) := by omega
                  have t0 : (0 : Int) ≤ (tn : Int) := by omega
                  have t1 : (tn : Int) < (n : Int) := by omega
                  have ht2 : ys[ys.length - 1]? = some (tn : Int) := by rw [hml.out, ← hmm]; exact ht
                  have hx2 := hx
                  have hlen2 : i + 1 < ys.length := by rw [hml.out]; exact him
                  cases hmB : decide (x ∈ Bt) with
                  | false =>
                    have hF : meetB xss = false := meetB_not hfe (by rw [hl.out]; exact hen) (fun hM => by
                      have := (mt_list hD.out).1 hM i (tn : Int) x (by rw [← hys2.out]; exact ht2) (by rw [← hys2.out]; exact hlen2) (by rw [← hys2.out]; exact hx2)
                      rw [Int.toNat_natCast, gBt] at this
                      exact absurd this (of_decide_eq_false hmB))
                    have hcon : ∀ q, Calls Try.prog 53 #[.slice At nt ct, .int .i64 x] (wr.drewN q) fun e' w' => e' = .returned (.bool false) ∧ wr.drewN q = w' := fun q => by
                      have a := l01Has_any At nt ct Bt x (wr.drewN q) ((hrBt.below B9 (by omega)).keep (fun _ _ _ => rfl))
                      rw [hmB] at a
                      exact a
                    replace hF := Lib.hid hF
                    replace hmB := Lib.hid hmB
                    replace hcon := Lib.hid hcon
                    replace ht := Lib.hid ht
                    replace hx := Lib.hid hx
                    replace ht2 := Lib.hid ht2
                    replace hx2 := Lib.hid hx2
                    replace hlen2 := Lib.hid hlen2
                    replace hmm := Lib.hid hmm
                    replace gBt := Lib.hid gBt
                    replace hBt := Lib.hid hBt
                    clear rY9 hpi hpf hpe
                    go_wp2_with fail
                    go_quiet ((go_at_call 53; exact quiet_left (hcon.out _)))
                    go_wp2_with fail
                    go_ret
                    exact ⟨ret_bool hF.out.symm, hB.trans ((below_dn B9 _).mono (by omega))⟩
                  | true =>
                    have hnx : ∀ j, j < i + 1 → ∀ t x : Int, ys[ys.length - 1]? = some t → j + 1 < ys.length → ys[j]? = some x → x ∈ xss.getD t.toNat [] := by
                      intro j hj t' x' h1 h2 h3
                      by_cases hji : j = i
                      · subst hji
                        rw [ht2] at h1
                        rw [hx2] at h3
                        obtain rfl := Option.some.inj h1
                        obtain rfl := Option.some.inj h3
                        rw [Int.toNat_natCast, gBt]
                        exact of_decide_eq_true hmB
                      · exact hpi.out j (by omega) t' x' h1 h2 h3
                    have hcon : ∀ q, Calls Try.prog 53 #[.slice At nt ct, .int .i64 x] (wr.drewN q) fun e' w' => e' = .returned (.bool true) ∧ wr.drewN q = w' := fun q => by
                      have a := l01Has_any At nt ct Bt x (wr.drewN q) ((hrBt.below B9 (by omega)).keep (fun _ _ _ => rfl))
                      rw [hmB] at a
                      exact a
                    replace hnx := Lib.hid hnx
                    replace hmB := Lib.hid hmB
                    replace hcon := Lib.hid hcon
                    replace ht := Lib.hid ht
                    replace hx := Lib.hid hx
                    replace ht2 := Lib.hid ht2
                    replace hx2 := Lib.hid hx2
                    replace hlen2 := Lib.hid hlen2
                    replace hmm := Lib.hid hmm
                    replace gBt := Lib.hid gBt
                    replace hBt := Lib.hid hBt
                    clear rY9 hpi hpf hpe
                    go_wp2_with fail
                    go_quiet ((go_at_call 53; exact quiet_left (hcon.out _)))
                    go_wp2_with fail
                    clear hw3 hw4
                    go_roundw
                    case measure => first | (simp [intOf]; done) | (simp [intOf]; omega)
                    case rel => first | exact ⟨i + 1, by omega, rfl, hnx, below_dn hb9 _⟩ | (repeat (first | exact ⟨⟨i + 1, by omega, rfl, hnx, below_dn hb9 _⟩, rfl⟩ | refine Exists.intro _ ?_))
                · have hdl := decide_eq_false (show ¬ ((i + 1 : Nat) : Int) < (m : Int) by omega)
                  have hMt : Mt xss e f := (mt_list hD.out).2 (fun j t x h1 h2 h3 => by
                    rw [← hys2.out] at h1 h2 h3
                    exact hpi.out j (by have := hml.out; omega) t x h1 h2 h3)
                  have hpf2 : ∀ f2, f2 < f + 1 → Mt xss e f2 := fun f2 h2 => by
                    by_cases q : f2 = f
                    · subst q; exact hMt
                    · exact hpf.out f2 (by omega)
                  have hw5 : IntKind.i64.wrap ((f : Int) + 1) = ((f + 1 : Nat) : Int) := by rw [IntKind.wrap_i64]; omega
                  replace hpf2 := Lib.hid hpf2
                  clear hMt
                  go_wp2_with fail
                  clear hw3 hw5
                  go_roundw
                  case measure => first | (simp [intOf]; done) | (simp [intOf]; omega)
                  case rel => first | exact ⟨f + 1, by omega, rfl, hpf2, B9⟩ | (repeat (first | exact ⟨⟨f + 1, by omega, rfl, hpf2, B9⟩, rfl⟩ | refine Exists.intro _ ?_))
        · have hff : f = e := by omega
          have hpe2 : ∀ e2 f2, f2 < e2 → e2 < e + 1 → Mt xss e2 f2 := fun e2 f2 h1 h2 => by
            by_cases q : e2 = e
            · subst q; exact hpf.out f2 (by omega)
            · exact hpe.out e2 f2 h1 (by omega)
          have hw1 : IntKind.i64.wrap ((e : Int) + 1) = ((e + 1 : Nat) : Int) := by rw [IntKind.wrap_i64]; omega
          replace hpe2 := Lib.hid hpe2
          replace hff := Lib.hid hff
          go_wp2_with fail
          clear hw1
          go_roundw
          case measure => first | (simp [intOf]; done) | (simp [intOf]; omega)
          case rel => first | exact ⟨e + 1, by omega, rfl, hpe2, hb⟩ | (repeat (first | exact ⟨⟨e + 1, by omega, rfl, hpe2, hb⟩, rfl⟩ | refine Exists.intro _ ?_))
    · have hee : e = n := by omega
      have hF : meetB xss = true := meetB_iff.2 (fun e2 f2 h1 h2 => hpe.out e2 f2 h1 (by rw [hl.out] at h2; omega))
      replace hF := Lib.hid hF
      replace hee := Lib.hid hee
      go_wp2_with fail
      go_ret
      exact ⟨ret_bool hF.out.symm, hB.trans (hb.mono (by omega))⟩
end Go.Proofs.Ytbioelmofceaaaa
