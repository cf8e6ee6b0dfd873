/- Walk: the reference's question whether it is a poset. No condition but the sizes of memory. -/
import Derived.Test.YtbioelmofceaaaaPosP
import Derived.Test.YtbioelmofceaaaaLawM
import Derived.Test.YtbioelmofceaaaaWord
import Derived.Test.YtbioelmofceaaaaFace
namespace Go.Proofs.Ytbioelmofceaaaa
open Go.RowKit
set_option linter.unusedVariables false
set_option maxRecDepth 100000
set_option maxHeartbeats 8000000 in
theorem l03Is_any (r : Int) (hr : -9223372036854775808 ≤ r ∧ r ≤ 9223372036854775807) (A : Option Addr) (n c : Nat) (ps : List Int) (A1 : Option Addr) (n1 c1 : Nat) (xss : List (List Int)) (w : World) {lo hi lo1 hi1 : Nat} (h : RI w lo hi A n ps) (hhi : hi ≤ w.heap.size) (h1 : RS w lo1 hi1 A1 n1 xss) (hhi1 : hi1 ≤ w.heap.size) :
    Calls Try.prog 52 #[.agg #[.int .i64 r, .slice A n c, .slice A1 n1 c1]] w fun e w' => e = .returned (.bool (isPosB r ps xss)) ∧ Below w.heap.size w w' := by
  have hm := h.max
  have hm1 := h1.max
  have hl := h.len
  have hl1 := h1.len
  obtain ⟨hr0, hr1⟩ := hr
  have hR : RI (w.alloc (.cells #[.int .i64 r, .slice A n c, .slice A1 n1 c1] 29)) lo hi A n ps := h.keep (same_alloc w _ _ _ hhi)
  have hR1 : RS (w.alloc (.cells #[.int .i64 r, .slice A n c, .slice A1 n1 c1] 29)) lo1 hi1 A1 n1 xss := rs_alloc h1 hhi1 _
  have hC0 : (w.alloc (.cells #[.int .i64 r, .slice A n c, .slice A1 n1 c1] 29)).cell? ⟨w.heap.size, 0, none⟩ = some (.int .i64 r) := by simp
  have hC1 : (w.alloc (.cells #[.int .i64 r, .slice A n c, .slice A1 n1 c1] 29)).cell? ⟨w.heap.size, 1, none⟩ = some (.slice A n c) := by simp
  have hC2 : (w.alloc (.cells #[.int .i64 r, .slice A n c, .slice A1 n1 c1] 29)).cell? ⟨w.heap.size, 2, none⟩ = some (.slice A1 n1 c1) := by simp
  have hB : Below w.heap.size w (w.alloc (.cells #[.int .i64 r, .slice A n c, .slice A1 n1 c1] 29)) := (Below.refl _ _).alloc (Nat.le_refl _) _
  cases g1 : (decide ((1 : Int) ≤ r) && decide (r ≤ 5)) with
  | false =>
    have hF : isPosB r ps xss = false := isPosB_not (fun hp => by have a := hp.r1; have b := hp.r5; simp at g1; omega)
    replace hF := Lib.hid hF
    replace hl := Lib.hid hl
    replace hl1 := Lib.hid hl1
    replace g1 := Lib.hid g1
    go_enter Try.func52, Try.ntmps52
    go_wp2_with fail
    obtain ⟨W1, hW⟩ : ∃ W1 : World, w.alloc (.cells #[.int .i64 r, .slice A n c, .slice A1 n1 c1] 29) = W1 := ⟨_, rfl⟩
    have hz1 : W1.heap.size = w.heap.size + 1 := by rw [← hW]; simp
    rw [hW] at hR hR1 hC0 hC1 hC2 hB ⊢
    clear hW h h1
    ((with_reducible refine (in_any _ _ _ _).mono ?_); rintro e w' ⟨rfl, rfl⟩)
    rw [g1.out]
    go_wp2_with fail
    go_ret
    exact ⟨ret_bool hF.out.symm, hB⟩
  | true =>
    cases g2 : decide (n ≤ 500) with
    | false =>
      have hF : isPosB r ps xss = false := isPosB_not (fun hp => by have a := hp.n5; simp at g2; omega)
      have k2 : decide ((n : Int) > 500) = true := by simp at g2; simp; omega
      replace hF := Lib.hid hF
      replace hl := Lib.hid hl
      replace hl1 := Lib.hid hl1
      replace g1 := Lib.hid g1
      replace g2 := Lib.hid g2
      go_enter Try.func52, Try.ntmps52
      go_wp2_with fail
      obtain ⟨W1, hW⟩ : ∃ W1 : World, w.alloc (.cells #[.int .i64 r, .slice A n c, .slice A1 n1 c1] 29) = W1 := ⟨_, rfl⟩
      have hz1 : W1.heap.size = w.heap.size + 1 := by rw [← hW]; simp
      rw [hW] at hR hR1 hC0 hC1 hC2 hB ⊢
      clear hW h h1
      ((with_reducible refine (in_any _ _ _ _).mono ?_); rintro e w' ⟨rfl, rfl⟩)
      rw [g1.out]
      go_wp2_with fail
      go_ret
      exact ⟨ret_bool hF.out.symm, hB⟩
    | true =>
      cases g3 : decide (n1 = n) with
      | false =>
        have hF : isPosB r ps xss = false := isPosB_not (fun hp => by have a := hp.len; simp at g3; omega)
        have k2 : decide ((n : Int) > 500) = false := by simp at g2; simp; omega
        have k3 : ((n1 : Int) != (n : Int)) = true := by simp at g3; simp; omega
        replace hF := Lib.hid hF
        replace hl := Lib.hid hl
        replace hl1 := Lib.hid hl1
        replace g1 := Lib.hid g1
        replace g2 := Lib.hid g2
        replace g3 := Lib.hid g3
        go_enter Try.func52, Try.ntmps52
        go_wp2_with fail
        obtain ⟨W1, hW⟩ : ∃ W1 : World, w.alloc (.cells #[.int .i64 r, .slice A n c, .slice A1 n1 c1] 29) = W1 := ⟨_, rfl⟩
        have hz1 : W1.heap.size = w.heap.size + 1 := by rw [← hW]; simp
        rw [hW] at hR hR1 hC0 hC1 hC2 hB ⊢
        clear hW h h1
        ((with_reducible refine (in_any _ _ _ _).mono ?_); rintro e w' ⟨rfl, rfl⟩)
        rw [g1.out]
        go_wp2_with fail
        go_ret
        exact ⟨ret_bool hF.out.symm, hB⟩
      | true =>
        have hr15 : 1 ≤ r ∧ r ≤ 5 := by simpa using g1
        have hn5 : n ≤ 500 := by simpa using g2
        have hnn : n = n1 := by simp at g3; omega
        have k2 : decide ((n : Int) > 500) = false := by simp at g2; simp; omega
        have k3 : ((n1 : Int) != (n : Int)) = false := by simp at g3; simp; omega
        subst hnn
        have hwr : IntKind.i64.wrap (r - 1) = r - 1 := by rw [IntKind.wrap_i64]; omega
        replace hl := Lib.hid hl
        replace hl1 := Lib.hid hl1
        replace g1 := Lib.hid g1
        replace g2 := Lib.hid g2
        replace g3 := Lib.hid g3
        go_enter Try.func52, Try.ntmps52
        go_wp2_with fail
        obtain ⟨W1, hW⟩ : ∃ W1 : World, w.alloc (.cells #[.int .i64 r, .slice A n c, .slice A1 n c1] 29) = W1 := ⟨_, rfl⟩
        have hz1 : W1.heap.size = w.heap.size + 1 := by rw [← hW]; simp
        rw [hW] at hR hR1 hC0 hC1 hC2 hB ⊢
        clear hW h h1
        ((with_reducible refine (in_any _ _ _ _).mono ?_); rintro e w' ⟨rfl, rfl⟩)
        rw [g1.out]
        go_wp2_with fail
        clear k2 k3 hwr
        go_loopw [3] (fun kv wq => ∃ e : Nat, e ≤ n ∧ kv = .int .i64 e ∧ Hid (∀ e2 : Nat, e2 < e → SRow r ps xss e2) ∧ Below W1.heap.size W1 wq) (fun kv _ => n - (intOf kv).toNat)
        case atStart => exact ⟨0, by omega, rfl, Lib.hid (fun e2 h2 => by omega), Below.refl _ _⟩
        case round =>
          obtain ⟨e, he, rfl, hrows, hb⟩ := hrel
          have hbz := hb.size
          have c0 := (hb.cell (p := ⟨w.heap.size, 0, none⟩) (by simp; omega)).trans hC0
          have c1 := (hb.cell (p := ⟨w.heap.size, 1, none⟩) (by simp; omega)).trans hC1
          have c2 := (hb.cell (p := ⟨w.heap.size, 2, none⟩) (by simp; omega)).trans hC2
          by_cases hlt : e < n
          · obtain ⟨bp, op, pe, rfl, _, _, hpe, hcpe0⟩ := hR.at_ hlt
            have hcpe := (hb.cell (p := ⟨bp, op + e, none⟩) (by simp; omega)).trans hcpe0
            obtain ⟨b, o, Ak, nk, ck, B, rfl, _, _, hBe, hcB0, hrB⟩ := hR1.at_ hlt
            have hcB := (hb.cell (p := ⟨b, o + e, none⟩) (by simp; omega)).trans hcB0
            have hge : ps.getD e 0 = pe := getD_some hpe
            have hpl := hl.out
            have hBl := hrB.len
            have hBm := hrB.max
            cases hin : (decide ((0 : Int) ≤ pe) && decide (pe ≤ r - 1)) with
            | false =>
              have hF : isPosB r ps xss = false := isPosB_not (fun hp => by have a := hp.rk pe (mem_of_get? hpe); simp at hin; omega)
              have hwr : IntKind.i64.wrap (r - 1) = r - 1 := by rw [IntKind.wrap_i64]; omega
              replace hF := Lib.hid hF
              replace hpe := Lib.hid hpe
              replace hge := Lib.hid hge
              replace hpl := Lib.hid hpl
              replace hBe := Lib.hid hBe
              replace hBl := Lib.hid hBl
              go_wp2_with fail
              go_quiet (((go_at_call 84; exact quiet_left (hin ▸ in_any _ _ _ _))))
              go_wp2_with fail
              go_ret
              exact ⟨ret_bool hF.out.symm, hB.trans ((below_dn hb _).mono (by omega))⟩
            | true =>
              have hpr : 0 ≤ pe ∧ pe ≤ r - 1 := by simpa using hin
              cases e with
              | zero =>
                rw [Nat.add_zero] at hcpe hcB
                have hA : 0 ≤ ps.getD 0 0 ∧ ps.getD 0 0 ≤ r - 1 ∧ (0 < 0 → ps.getD (0 - 1) 0 ≤ ps.getD 0 0) := ⟨by rw [hge]; omega, by rw [hge]; omega, fun h0 => by omega⟩
                have hwr : IntKind.i64.wrap (r - 1) = r - 1 := by rw [IntKind.wrap_i64]; omega
                replace hA := Lib.hid hA
                replace hpl := Lib.hid hpl
                replace hpe := Lib.hid hpe
                replace hge := Lib.hid hge
                replace hBe := Lib.hid hBe
                replace hBl := Lib.hid hBl
                go_wp2_with fail
                go_quiet (((go_at_call 84; exact quiet_left (hin ▸ in_any _ _ _ _))))
                go_wp2_with fail
                clear hwr hcB hcpe c0 c1 c2
                go_loopw [4] (fun kv wq => ∃ k : Nat, k ≤ nk ∧ kv = .int .i64 k ∧ Hid (∀ k2 : Nat, k2 < k → ∀ f : Int, B[k2]? = some f → BelK ps 0 B k2 f ∧ ∀ C, xss[f.toNat]? = some C → ∀ g ∈ C, g ∈ B) ∧ Below W1.heap.size W1 wq) (fun kv _ => nk - (intOf kv).toNat)
                case atStart => exact ⟨0, by omega, rfl, Lib.hid (fun k2 h2 => by omega), below_dn hb _⟩
                case round =>
                  obtain ⟨k, hk, rfl, hrow, hb2⟩ := hrel
                  have hbz2 := hb2.size
                  have c0 := (hb2.cell (p := ⟨w.heap.size, 0, none⟩) (by simp; omega)).trans hC0
                  have c1 := (hb2.cell (p := ⟨w.heap.size, 1, none⟩) (by simp; omega)).trans hC1
                  have c2 := (hb2.cell (p := ⟨w.heap.size, 2, none⟩) (by simp; omega)).trans hC2
                  have hcB := (hb2.cell (p := ⟨b, o + 0, none⟩) (by simp; omega)).trans hcB0
                  have hcpe := (hb2.cell (p := ⟨bp, op + 0, none⟩) (by simp; omega)).trans hcpe0
                  rw [Nat.add_zero] at hcpe hcB
                  by_cases hkn : k < nk
                  · obtain ⟨bb, oo, f, rfl, _, _, hf, hcf0⟩ := hrB.at_ hkn
                    have hcf := (hb2.cell (p := ⟨bb, oo + k, none⟩) (by simp; omega)).trans hcf0
                    cases hin2 : (decide ((0 : Int) ≤ f) && decide (f ≤ -1)) with
                    | false =>
                      have hF : isPosB r ps xss = false := isPosB_not (fun hp => by have q0 := hp.bel 0 B hBe.out k f hf; have q1 := bel_lt hp.srt q0; have q2 := q0.1; simp at hin2; omega)
                      replace hF := Lib.hid hF
                      replace hf := Lib.hid hf
                      go_wp2_with fail
                      go_quiet (((go_at_call 84; exact quiet_left (hin2 ▸ in_any _ _ _ _))))
                      go_wp2_with fail
                      go_ret
                      exact ⟨ret_bool hF.out.symm, hB.trans ((below_dn hb2 _).mono (by omega))⟩
                    | true =>
                      exfalso
                      simp at hin2
                      omega
                  · have hkk : k = nk := by omega
                    subst hkk
                    have hrows2 : ∀ e2 : Nat, e2 < 0 + 1 → SRow r ps xss e2 := fun e2 h2 => by
                      by_cases ek : e2 = 0
                      · subst ek
                        refine ⟨hA.out.1, hA.out.2.1, hA.out.2.2, fun B2 hB2 k2 f2 hf2 => ?_⟩
                        have eB := Option.some.inj (hBe.out.symm.trans hB2)
                        subst eB
                        exact hrow.out k2 (by have := (List.getElem?_eq_some_iff.1 hf2).1; have := hBl.out; omega) f2 hf2
                      · exact hrows.out e2 (by omega)
                    replace hrows2 := Lib.hid hrows2
                    go_wp2_with fail
                    go_roundw
                    case measure => simp [intOf]; omega
                    case rel => exact ⟨0 + 1, by omega, by go_num, hrows2, hb2⟩
              | succ q =>
                obtain ⟨bq, oq, pq, e5, _, _, hpq, hcpq0⟩ := hR.at_ (k := q) (by omega)
                injection e5 with e5
                injection e5 with e6 e7 _
                subst e6; subst e7
                have hcpq := (hb.cell (p := ⟨bp, op + q, none⟩) (by simp; omega)).trans hcpq0
                have hgq : ps.getD q 0 = pq := getD_some hpq
                have hd0 : decide ((q : Int) + 1 > 0) = true := by first | (simp; done) | (simp; omega)
                cases hlt2 : decide (pe < pq) with
                | true =>
                  have hF : isPosB r ps xss = false := isPosB_not (fun hp => by have a := hp.srt q (by omega); rw [hgq, hge] at a; simp at hlt2; omega)
                  have hwr : IntKind.i64.wrap (r - 1) = r - 1 := by rw [IntKind.wrap_i64]; omega
                  have hwq : IntKind.i64.wrap (q : Int) = (q : Int) := by rw [IntKind.wrap_i64]; omega
                  replace hF := Lib.hid hF
                  replace hpe := Lib.hid hpe
                  replace hge := Lib.hid hge
                  replace hpq := Lib.hid hpq
                  replace hgq := Lib.hid hgq
                  replace hpl := Lib.hid hpl
                  replace hBe := Lib.hid hBe
                  replace hBl := Lib.hid hBl
                  go_wp2_with fail
                  go_quiet (((go_at_call 84; exact quiet_left (hin ▸ in_any _ _ _ _))))
                  go_wp2_with fail
                  go_ret
                  exact ⟨ret_bool hF.out.symm, hB.trans ((below_dn hb _).mono (by omega))⟩
                | false =>
                  have hpqe : pq ≤ pe := by simpa using hlt2
                  have hA : 0 ≤ ps.getD (q + 1) 0 ∧ ps.getD (q + 1) 0 ≤ r - 1 ∧ (0 < (q + 1) → ps.getD ((q + 1) - 1) 0 ≤ ps.getD (q + 1) 0) := ⟨by rw [hge]; omega, by rw [hge]; omega, fun h0 => by rw [Nat.add_sub_cancel, hge, hgq]; omega⟩
                  have hwr : IntKind.i64.wrap (r - 1) = r - 1 := by rw [IntKind.wrap_i64]; omega
                  have hwq : IntKind.i64.wrap (q : Int) = (q : Int) := by rw [IntKind.wrap_i64]; omega
                  replace hA := Lib.hid hA
                  replace hpl := Lib.hid hpl
                  replace hgq := Lib.hid hgq
                  replace hpq := Lib.hid hpq
                  replace hpe := Lib.hid hpe
                  replace hge := Lib.hid hge
                  replace hBe := Lib.hid hBe
                  replace hBl := Lib.hid hBl
                  go_wp2_with fail
                  go_quiet (((go_at_call 84; exact quiet_left (hin ▸ in_any _ _ _ _))))
                  go_wp2_with fail
                  clear hwr hwq hcB hcpe c0 c1 c2 hcpq
                  go_loopw [4] (fun kv wq => ∃ k : Nat, k ≤ nk ∧ kv = .int .i64 k ∧ Hid (∀ k2 : Nat, k2 < k → ∀ f : Int, B[k2]? = some f → BelK ps (q + 1) B k2 f ∧ ∀ C, xss[f.toNat]? = some C → ∀ g ∈ C, g ∈ B) ∧ Below W1.heap.size W1 wq) (fun kv _ => nk - (intOf kv).toNat)
                  case atStart => exact ⟨0, by omega, rfl, Lib.hid (fun k2 h2 => by omega), below_dn hb _⟩
                  case round =>
                    obtain ⟨k, hk, rfl, hrow, hb2⟩ := hrel
                    have hbz2 := hb2.size
                    have c0 := (hb2.cell (p := ⟨w.heap.size, 0, none⟩) (by simp; omega)).trans hC0
                    have c1 := (hb2.cell (p := ⟨w.heap.size, 1, none⟩) (by simp; omega)).trans hC1
                    have c2 := (hb2.cell (p := ⟨w.heap.size, 2, none⟩) (by simp; omega)).trans hC2
                    have hcB := (hb2.cell (p := ⟨b, o + (q + 1), none⟩) (by simp; omega)).trans hcB0
                    have hcpe := (hb2.cell (p := ⟨bp, op + (q + 1), none⟩) (by simp; omega)).trans hcpe0
                    by_cases hkn : k < nk
                    · obtain ⟨bb, oo, f, rfl, _, _, hf, hcf0⟩ := hrB.at_ hkn
                      have hcf := (hb2.cell (p := ⟨bb, oo + k, none⟩) (by simp; omega)).trans hcf0
                      have hwq : IntKind.i64.wrap (q : Int) = (q : Int) := by rw [IntKind.wrap_i64]; omega
                      cases hin2 : (decide ((0 : Int) ≤ f) && decide (f ≤ (q : Int))) with
                      | false =>
                        have hF : isPosB r ps xss = false := isPosB_not (fun hp => by have q0 := hp.bel (q + 1) B hBe.out k f hf; have q1 := bel_lt hp.srt q0; have q2 := q0.1; simp at hin2; omega)
                        replace hF := Lib.hid hF
                        replace hf := Lib.hid hf
                        go_wp2_with fail
                        go_quiet (((go_at_call 84; exact quiet_left (hin2 ▸ in_any _ _ _ _))))
                        go_wp2_with fail
                        go_ret
                        exact ⟨ret_bool hF.out.symm, hB.trans ((below_dn hb2 _).mono (by omega))⟩
                      | true =>
                        obtain ⟨hf0, hf1⟩ : 0 ≤ f ∧ f ≤ (q : Int) := by simpa using hin2
                        obtain ⟨f, rfl⟩ : ∃ t : Nat, f = t := ⟨f.toNat, by omega⟩
                        have hfn : f < n := by omega
                        obtain ⟨bp2, op2, pf, e5, _, _, hpf, hcpf0⟩ := hR.at_ hfn
                        injection e5 with e5
                        injection e5 with e6 e7 _
                        subst e6; subst e7
                        have hcpf := (hb2.cell (p := ⟨bp, op + f, none⟩) (by simp; omega)).trans hcpf0
                        have hgf : at' ps (f : Int) = pf := by unfold at'; rw [Int.toNat_natCast]; exact getD_some hpf
                        cases hge2 : decide (pf ≥ pe) with
                        | true =>
                          have hF : isPosB r ps xss = false := isPosB_not (fun hp => by obtain ⟨q0, q1, q2, q3⟩ := hp.bel (q + 1) B hBe.out k f hf; rw [hgf, hge.out] at q2; simp at hge2; omega)
                          replace hF := Lib.hid hF
                          replace hf := Lib.hid hf
                          replace hpf := Lib.hid hpf
                          replace hgf := Lib.hid hgf
                          go_wp2_with fail
                          go_quiet (((go_at_call 84; exact quiet_left (hin2 ▸ in_any _ _ _ _))))
                          go_wp2_with fail
                          go_ret
                          exact ⟨ret_bool hF.out.symm, hB.trans ((below_dn hb2 _).mono (by omega))⟩
                        | false =>
                          have hpfe : pf < pe := by simpa using hge2
                          obtain ⟨b5, o5, Af, nf, cf, C, e5, _, _, hCf, hcC0, hrC⟩ := hR1.at_ hfn
                          injection e5 with e5
                          injection e5 with e6 e7 _
                          subst e6; subst e7
                          have hCl := hrC.len
                          have hCm := hrC.max
                          cases k with
                          | zero =>
                            rw [Nat.add_zero] at hcf
                            have hbk : BelK ps (q + 1) B 0 f := ⟨by omega, by have := hpl.out; omega, by rw [hgf, hge.out]; omega, fun h0 => by omega⟩
                            replace hbk := Lib.hid hbk
                            replace hf := Lib.hid hf
                            replace hpf := Lib.hid hpf
                            replace hgf := Lib.hid hgf
                            replace hCf := Lib.hid hCf
                            replace hCl := Lib.hid hCl
                            go_wp2_with fail
                            go_quiet (((go_at_call 84; exact quiet_left (hin2 ▸ in_any _ _ _ _))))
                            go_wp2_with fail
                            clear hwq c0 c1 c2 hcB hcpe hcf hcpf hR hin hin2 hge2 hpf hgf hcpf0 hcf0 hcpe0 hpe hge hlt2 hgq hpq hcpq0 hd0 hpr hpqe hpfe
                            go_loopw [6] (fun kv wq => ∃ t : Nat, t ≤ nf ∧ kv = .int .i64 t ∧ Hid (∀ g ∈ C.take t, g ∈ B) ∧ Below W1.heap.size W1 wq) (fun kv _ => nf - (intOf kv).toNat)
                            case atStart => exact ⟨0, by omega, rfl, Lib.hid (by simp), below_dn hb2 _⟩
                            case round =>
                              obtain ⟨t, ht, rfl, hin3, hb3⟩ := hrel
                              have hbz3 := hb3.size
                              have c0 := (hb3.cell (p := ⟨w.heap.size, 0, none⟩) (by simp; omega)).trans hC0
                              have c1 := (hb3.cell (p := ⟨w.heap.size, 1, none⟩) (by simp; omega)).trans hC1
                              have c2 := (hb3.cell (p := ⟨w.heap.size, 2, none⟩) (by simp; omega)).trans hC2
                              have hcB := (hb3.cell (p := ⟨b, o + (q + 1), none⟩) (by simp; omega)).trans hcB0
                              have hcC := (hb3.cell (p := ⟨b, o + f, none⟩) (by simp; omega)).trans hcC0
                              by_cases htn : t < nf
                              · obtain ⟨bg, og, g, rfl, _, _, hg, hcg0⟩ := hrC.at_ htn
                                have hcg := (hb3.cell (p := ⟨bg, og + t, none⟩) (by simp; omega)).trans hcg0
                                have htg := take_succ_of hg
                                have hgm := mem_of_get? hg
                                have hrB3 := hrB.below hb3 (by omega)
                                replace hg := Lib.hid hg
                                replace htg := Lib.hid htg
                                replace hgm := Lib.hid hgm
                                have hqn : ((q : Int) + 1) < (n : Int) := by omega
                                have hqn0 : (0 : Int) ≤ ((q : Int) + 1) := by omega
                                cases hmem : decide (g ∈ B) with
                                | false =>
                                  have hF : isPosB r ps xss = false := isPosB_not (fun hp => by have a := hp.tra (q + 1) B hBe.out (f : Int) (mem_of_get? hf.out) C (by rw [Int.toNat_natCast]; exact hCf.out) g hgm.out; exact of_decide_eq_false hmem a)
                                  have hHas : ∀ m, Calls Try.prog 53 #[.slice (some ⟨bb, oo, none⟩) nk ck, .int .i64 g] (wr.drewN m) fun e w' => e = .returned (.bool false) ∧ wr.drewN m = w' := fun m => by have a := l01Has_any (some ⟨bb, oo, none⟩) nk ck B g (wr.drewN m) (hrB3.keep (fun _ _ _ => rfl)); rwa [hmem] at a
                                  replace hF := Lib.hid hF
                                  replace hmem := Lib.hid hmem
                                  go_wp2_with fail
                                  go_quiet (((go_at_call 53; exact quiet_left (hHas _))))
                                  go_wp2_with fail
                                  go_ret
                                  exact ⟨ret_bool hF.out.symm, hB.trans ((below_dn hb3 _).mono (by omega))⟩
                                | true =>
                                  have hin4 : ∀ x ∈ C.take (t + 1), x ∈ B := by
                                    rw [htg.out]
                                    intro x hx
                                    rcases List.mem_append.1 hx with hx | hx
                                    · exact hin3.out x hx
                                    · rw [List.mem_singleton.1 hx]; exact of_decide_eq_true hmem
                                  have hHas : ∀ m, Calls Try.prog 53 #[.slice (some ⟨bb, oo, none⟩) nk ck, .int .i64 g] (wr.drewN m) fun e w' => e = .returned (.bool true) ∧ wr.drewN m = w' := fun m => by have a := l01Has_any (some ⟨bb, oo, none⟩) nk ck B g (wr.drewN m) (hrB3.keep (fun _ _ _ => rfl)); rwa [hmem] at a
                                  replace hin4 := Lib.hid hin4
                                  replace hmem := Lib.hid hmem
                                  go_wp2_with fail
                                  go_quiet (((go_at_call 53; exact quiet_left (hHas _))))
                                  go_wp2_with fail
                                  go_roundw
                                  case measure => simp [intOf]; omega
                                  case rel => exact ⟨t + 1, by omega, by go_num, hin4, below_dn hb3 _⟩
                              · have htt : t = nf := by omega
                                subst htt
                                have hrow2 : ∀ k2 : Nat, k2 < 0 + 1 → ∀ f : Int, B[k2]? = some f → BelK ps (q + 1) B k2 f ∧ ∀ C, xss[f.toNat]? = some C → ∀ g ∈ C, g ∈ B := fun k2 h2 f2 hf2 => by
                                  by_cases ek : k2 = 0
                                  · subst ek
                                    have ef := Option.some.inj (hf.out.symm.trans hf2)
                                    subst ef
                                    refine ⟨hbk.out, fun C2 hC2 g hg => ?_⟩
                                    rw [Int.toNat_natCast] at hC2
                                    have eC := Option.some.inj (hCf.out.symm.trans hC2)
                                    subst eC
                                    have a := hin3.out
                                    rw [List.take_of_length_le (by have := hCl.out; omega)] at a
                                    exact a g hg
                                  · exact hrow.out k2 (by omega) f2 hf2
                                replace hrow2 := Lib.hid hrow2
                                go_wp2_with fail
                                go_roundw
                                case measure => simp [intOf]; omega
                                case rel => exact ⟨0 + 1, by omega, by go_num, hrow2, hb3⟩
                          | succ s =>
                            obtain ⟨bq, oq, fs, e5, _, _, hfs, hcfs0⟩ := hrB.at_ (k := s) (by omega)
                            injection e5 with e5
                            injection e5 with e6 e7 _
                            subst e6; subst e7
                            have hcfs := (hb2.cell (p := ⟨bb, oo + s, none⟩) (by simp; omega)).trans hcfs0
                            have hgs : B.getD s 0 = fs := getD_some hfs
                            have hws : IntKind.i64.wrap (s : Int) = (s : Int) := by rw [IntKind.wrap_i64]; omega
                            have hd1 : decide ((s : Int) + 1 > 0) = true := by first | (simp; done) | (simp; omega)
                            cases hle : decide ((f : Int) ≤ fs) with
                            | true =>
                              have hF : isPosB r ps xss = false := isPosB_not (fun hp => by obtain ⟨q0, q1, q2, q3⟩ := hp.bel (q + 1) B hBe.out (s + 1) f hf; have q4 := q3 (by omega); rw [Nat.add_sub_cancel, hgs] at q4; simp at hle; omega)
                              replace hF := Lib.hid hF
                              replace hf := Lib.hid hf
                              replace hpf := Lib.hid hpf
                              replace hgf := Lib.hid hgf
                              replace hfs := Lib.hid hfs
                              replace hgs := Lib.hid hgs
                              replace hCf := Lib.hid hCf
                              replace hCl := Lib.hid hCl
                              go_wp2_with fail
                              go_quiet (((go_at_call 84; exact quiet_left (hin2 ▸ in_any _ _ _ _))))
                              go_wp2_with fail
                              go_ret
                              exact ⟨ret_bool hF.out.symm, hB.trans ((below_dn hb2 _).mono (by omega))⟩
                            | false =>
                              have hfsf : fs < (f : Int) := by simpa using hle
                              have hbk : BelK ps (q + 1) B (s + 1) f := ⟨by omega, by have := hpl.out; omega, by rw [hgf, hge.out]; omega, fun h0 => by rw [Nat.add_sub_cancel, hgs]; omega⟩
                              replace hbk := Lib.hid hbk
                              replace hf := Lib.hid hf
                              replace hpf := Lib.hid hpf
                              replace hgf := Lib.hid hgf
                              replace hCf := Lib.hid hCf
                              replace hCl := Lib.hid hCl
                              replace hgs := Lib.hid hgs
                              replace hfs := Lib.hid hfs
                              go_wp2_with fail
                              go_quiet (((go_at_call 84; exact quiet_left (hin2 ▸ in_any _ _ _ _))))
                              go_wp2_with fail
                              clear hwq c0 c1 c2 hcB hcpe hcf hcpf hR hin hin2 hge2 hpf hgf hcpf0 hcf0 hcpe0 hpe hge hlt2 hgq hpq hcpq0 hd0 hpr hpqe hpfe hws hcfs hd1 hle hfs hgs hcfs0 hfsf
                              go_loopw [6] (fun kv wq => ∃ t : Nat, t ≤ nf ∧ kv = .int .i64 t ∧ Hid (∀ g ∈ C.take t, g ∈ B) ∧ Below W1.heap.size W1 wq) (fun kv _ => nf - (intOf kv).toNat)
                              case atStart => exact ⟨0, by omega, rfl, Lib.hid (by simp), below_dn hb2 _⟩
                              case round =>
                                obtain ⟨t, ht, rfl, hin3, hb3⟩ := hrel
                                have hbz3 := hb3.size
                                have c0 := (hb3.cell (p := ⟨w.heap.size, 0, none⟩) (by simp; omega)).trans hC0
                                have c1 := (hb3.cell (p := ⟨w.heap.size, 1, none⟩) (by simp; omega)).trans hC1
                                have c2 := (hb3.cell (p := ⟨w.heap.size, 2, none⟩) (by simp; omega)).trans hC2
                                have hcB := (hb3.cell (p := ⟨b, o + (q + 1), none⟩) (by simp; omega)).trans hcB0
                                have hcC := (hb3.cell (p := ⟨b, o + f, none⟩) (by simp; omega)).trans hcC0
                                by_cases htn : t < nf
                                · obtain ⟨bg, og, g, rfl, _, _, hg, hcg0⟩ := hrC.at_ htn
                                  have hcg := (hb3.cell (p := ⟨bg, og + t, none⟩) (by simp; omega)).trans hcg0
                                  have htg := take_succ_of hg
                                  have hgm := mem_of_get? hg
                                  have hrB3 := hrB.below hb3 (by omega)
                                  replace hg := Lib.hid hg
                                  replace htg := Lib.hid htg
                                  replace hgm := Lib.hid hgm
                                  have hqn : ((q : Int) + 1) < (n : Int) := by omega
                                  have hqn0 : (0 : Int) ≤ ((q : Int) + 1) := by omega
                                  cases hmem : decide (g ∈ B) with
                                  | false =>
                                    have hF : isPosB r ps xss = false := isPosB_not (fun hp => by have a := hp.tra (q + 1) B hBe.out (f : Int) (mem_of_get? hf.out) C (by rw [Int.toNat_natCast]; exact hCf.out) g hgm.out; exact of_decide_eq_false hmem a)
                                    have hHas : ∀ m, Calls Try.prog 53 #[.slice (some ⟨bb, oo, none⟩) nk ck, .int .i64 g] (wr.drewN m) fun e w' => e = .returned (.bool false) ∧ wr.drewN m = w' := fun m => by have a := l01Has_any (some ⟨bb, oo, none⟩) nk ck B g (wr.drewN m) (hrB3.keep (fun _ _ _ => rfl)); rwa [hmem] at a
                                    replace hF := Lib.hid hF
                                    replace hmem := Lib.hid hmem
                                    go_wp2_with fail
                                    go_quiet (((go_at_call 53; exact quiet_left (hHas _))))
                                    go_wp2_with fail
                                    go_ret
                                    exact ⟨ret_bool hF.out.symm, hB.trans ((below_dn hb3 _).mono (by omega))⟩
                                  | true =>
                                    have hin4 : ∀ x ∈ C.take (t + 1), x ∈ B := by
                                      rw [htg.out]
                                      intro x hx
                                      rcases List.mem_append.1 hx with hx | hx
                                      · exact hin3.out x hx
                                      · rw [List.mem_singleton.1 hx]; exact of_decide_eq_true hmem
                                    have hHas : ∀ m, Calls Try.prog 53 #[.slice (some ⟨bb, oo, none⟩) nk ck, .int .i64 g] (wr.drewN m) fun e w' => e = .returned (.bool true) ∧ wr.drewN m = w' := fun m => by have a := l01Has_any (some ⟨bb, oo, none⟩) nk ck B g (wr.drewN m) (hrB3.keep (fun _ _ _ => rfl)); rwa [hmem] at a
                                    replace hin4 := Lib.hid hin4
                                    replace hmem := Lib.hid hmem
                                    go_wp2_with fail
                                    go_quiet (((go_at_call 53; exact quiet_left (hHas _))))
                                    go_wp2_with fail
                                    go_roundw
                                    case measure => simp [intOf]; omega
                                    case rel => exact ⟨t + 1, by omega, by go_num, hin4, below_dn hb3 _⟩
                                · have htt : t = nf := by omega
                                  subst htt
                                  have hrow2 : ∀ k2 : Nat, k2 < (s + 1) + 1 → ∀ f : Int, B[k2]? = some f → BelK ps (q + 1) B k2 f ∧ ∀ C, xss[f.toNat]? = some C → ∀ g ∈ C, g ∈ B := fun k2 h2 f2 hf2 => by
                                    by_cases ek : k2 = (s + 1)
                                    · subst ek
                                      have ef := Option.some.inj (hf.out.symm.trans hf2)
                                      subst ef
                                      refine ⟨hbk.out, fun C2 hC2 g hg => ?_⟩
                                      rw [Int.toNat_natCast] at hC2
                                      have eC := Option.some.inj (hCf.out.symm.trans hC2)
                                      subst eC
                                      have a := hin3.out
                                      rw [List.take_of_length_le (by have := hCl.out; omega)] at a
                                      exact a g hg
                                    · exact hrow.out k2 (by omega) f2 hf2
                                  replace hrow2 := Lib.hid hrow2
                                  go_wp2_with fail
                                  go_roundw
                                  case measure => simp [intOf]; omega
                                  case rel => exact ⟨(s + 1) + 1, by omega, by go_num, hrow2, hb3⟩
                    · have hkk : k = nk := by omega
                      subst hkk
                      have hrows2 : ∀ e2 : Nat, e2 < (q + 1) + 1 → SRow r ps xss e2 := fun e2 h2 => by
                        by_cases ek : e2 = (q + 1)
                        · subst ek
                          refine ⟨hA.out.1, hA.out.2.1, hA.out.2.2, fun B2 hB2 k2 f2 hf2 => ?_⟩
                          have eB := Option.some.inj (hBe.out.symm.trans hB2)
                          subst eB
                          exact hrow.out k2 (by have := (List.getElem?_eq_some_iff.1 hf2).1; have := hBl.out; omega) f2 hf2
                        · exact hrows.out e2 (by omega)
                      replace hrows2 := Lib.hid hrows2
                      go_wp2_with fail
                      go_roundw
                      case measure => simp [intOf]; omega
                      case rel => exact ⟨(q + 1) + 1, by omega, by go_num, hrows2, hb2⟩
          · have hen : e = n := by omega
            subst hen
            have hF : isPosB r ps xss = true := isPosB_iff.2 (PosP.of_rows hr15.1 hr15.2 (by rw [hl.out]; exact hn5) (by rw [hl.out]; exact hl1.out) (fun e2 h2 => hrows.out e2 (by have := hl.out; omega)))
            replace hF := Lib.hid hF
            go_wp2_with fail
            go_ret
            exact ⟨ret_bool hF.out.symm, hB.trans (hb.mono (by omega))⟩
end Go.Proofs.Ytbioelmofceaaaa
