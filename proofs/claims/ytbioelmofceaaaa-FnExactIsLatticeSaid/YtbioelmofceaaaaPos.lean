/- Walk: the program's question whether it is a poset. No condition but the sizes of memory. -/
import Derived.Test.YtbioelmofceaaaaPosP
import Derived.Test.YtbioelmofceaaaaLawM
import Derived.Test.YtbioelmofceaaaaWord
namespace Go.Proofs.Ytbioelmofceaaaa
open Go.RowKit
set_option linter.unusedVariables false
set_option maxRecDepth 100000
set_option maxHeartbeats 8000000 in
theorem isPoset_any (r : Int) (hr : -9223372036854775808 ≤ r ∧ r ≤ 9223372036854775807) (A : Option Addr) (n c : Nat) (ps : List Int) (A1 : Option Addr) (n1 c1 : Nat) (xss : List (List Int)) (w : World) {lo hi lo1 hi1 : Nat} (h : RI w lo hi A n ps) (hhi : hi ≤ w.heap.size) (h1 : RS w lo1 hi1 A1 n1 xss) (hhi1 : hi1 ≤ w.heap.size) :
    Calls Try.prog 30 #[.agg #[.int .i64 r, .slice A n c, .slice A1 n1 c1]] w fun e w' => e = .returned (.bool (isPosB r ps xss)) ∧ Below w.heap.size w w' := by
  have hm := h.max
  have hm1 := h1.max
  have hl := h.len
  have hl1 := h1.len
  obtain ⟨hr0, hr1⟩ := hr
  have hR : RI (w.alloc (.cells #[.int .i64 r, .slice A n c, .slice A1 n1 c1] 29)) lo hi A n ps := h.keep (same_alloc w _ _ _ hhi)
  have hR1 : RS (w.alloc (.cells #[.int .i64 r, .slice A n c, .slice A1 n1 c1] 29)) lo1 hi1 A1 n1 xss := rs_alloc h1 hhi1 _
  have hC0 : (w.alloc (.cells #[.int .i64 r, .slice A n c, .slice A1 n1 c1] 29)).cell? ⟨w.heap.size, 0, none⟩ = some (.int .i64 r) := by simp
  have hC1 : (w.alloc (.cells #[.int .i64 r, .slice A n c, .slice A1 n1 c1] 29)).cell? ⟨w.heap.size, 1, none⟩ = some (.slice A n c) := by simp
  have hC2 : (w.alloc (.cells #[.int .i64 r, .slice A n c, .slice A1 n1 c1] 29)).cell? ⟨w.heap.size, 2, none⟩ = some (.slice A1 n1 c1) := by simp
  have hB : Below w.heap.size w (w.alloc (.cells #[.int .i64 r, .slice A n c, .slice A1 n1 c1] 29)) := (Below.refl _ _).alloc (Nat.le_refl _) _
  cases g1 : (decide ((1 : Int) ≤ r) && decide (r ≤ 5)) with
  | false =>
    have hF : isPosB r ps xss = false := isPosB_not (fun hp => by have a := hp.r1; have b := hp.r5; simp at g1; omega)
    replace hF := Lib.hid hF
    replace hl := Lib.hid hl
    replace hl1 := Lib.hid hl1
    replace g1 := Lib.hid g1
    go_enter Try.func30, Try.ntmps30
    go_wp2_with fail
    obtain ⟨W1, hW⟩ : ∃ W1 : World, w.alloc (.cells #[.int .i64 r, .slice A n c, .slice A1 n1 c1] 29) = W1 := ⟨_, rfl⟩
    have hz1 : W1.heap.size = w.heap.size + 1 := by rw [← hW]; simp
    rw [hW] at hR hR1 hC0 hC1 hC2 hB ⊢
    clear hW h h1
    ((with_reducible refine (sizeI_any _ _ _ _ (by omega)).mono ?_); rintro e w' ⟨rfl, rfl⟩)
    go_wp2_with fail
    ((with_reducible refine (within_any _ _ _ _).mono ?_); rintro e w' ⟨rfl, rfl⟩)
    rw [g1.out]
    go_wp2_with fail
    go_ret
    exact ⟨ret_bool hF.out.symm, hB⟩
  | true =>
    cases g2 : decide (n ≤ 500) with
    | false =>
      have hF : isPosB r ps xss = false := isPosB_not (fun hp => by have a := hp.n5; simp at g2; omega)
      have k2 : decide ((n : Int) > 500) = true := by simp at g2; simp; omega
      replace hF := Lib.hid hF
      replace hl := Lib.hid hl
      replace hl1 := Lib.hid hl1
      replace g1 := Lib.hid g1
      replace g2 := Lib.hid g2
      go_enter Try.func30, Try.ntmps30
      go_wp2_with fail
      obtain ⟨W1, hW⟩ : ∃ W1 : World, w.alloc (.cells #[.int .i64 r, .slice A n c, .slice A1 n1 c1] 29) = W1 := ⟨_, rfl⟩
      have hz1 : W1.heap.size = w.heap.size + 1 := by rw [← hW]; simp
      rw [hW] at hR hR1 hC0 hC1 hC2 hB ⊢
      clear hW h h1
      ((with_reducible refine (sizeI_any _ _ _ _ (by omega)).mono ?_); rintro e w' ⟨rfl, rfl⟩)
      go_wp2_with fail
      ((with_reducible refine (within_any _ _ _ _).mono ?_); rintro e w' ⟨rfl, rfl⟩)
      rw [g1.out]
      go_wp2_with fail
      go_ret
      exact ⟨ret_bool hF.out.symm, hB⟩
    | true =>
      cases g3 : decide (n1 = n) with
      | false =>
        have hF : isPosB r ps xss = false := isPosB_not (fun hp => by have a := hp.len; simp at g3; omega)
        have k2 : decide ((n : Int) > 500) = false := by simp at g2; simp; omega
        have k3 : ((n1 : Int) != (n : Int)) = true := by simp at g3; simp; omega
        replace hF := Lib.hid hF
        replace hl := Lib.hid hl
        replace hl1 := Lib.hid hl1
        replace g1 := Lib.hid g1
        replace g2 := Lib.hid g2
        replace g3 := Lib.hid g3
        go_enter Try.func30, Try.ntmps30
        go_wp2_with fail
        obtain ⟨W1, hW⟩ : ∃ W1 : World, w.alloc (.cells #[.int .i64 r, .slice A n c, .slice A1 n1 c1] 29) = W1 := ⟨_, rfl⟩
        have hz1 : W1.heap.size = w.heap.size + 1 := by rw [← hW]; simp
        rw [hW] at hR hR1 hC0 hC1 hC2 hB ⊢
        clear hW h h1
        ((with_reducible refine (sizeI_any _ _ _ _ (by omega)).mono ?_); rintro e w' ⟨rfl, rfl⟩)
        go_wp2_with fail
        ((with_reducible refine (within_any _ _ _ _).mono ?_); rintro e w' ⟨rfl, rfl⟩)
        rw [g1.out]
        go_wp2_with fail
        go_ret
        exact ⟨ret_bool hF.out.symm, hB⟩
      | true =>
        cases g4 : allIn 0 (r - 1) ps with
        | false =>
          have hF : isPosB r ps xss = false := isPosB_not (fun hp => by have a : allIn 0 (r - 1) ps = true := by { unfold allIn; rw [List.all_eq_true]; exact fun x hx => inR_iff.2 (hp.rk x hx) }; rw [a] at g4; simp at g4)
          have k2 : decide ((n : Int) > 500) = false := by simp at g2; simp; omega
          have k3 : ((n1 : Int) != (n : Int)) = false := by simp at g3; simp; omega
          have hwr : IntKind.i64.wrap (r - 1) = r - 1 := by have a : 1 ≤ r := by { simp at g1; omega }; rw [IntKind.wrap_i64]; omega
          replace hF := Lib.hid hF
          replace hl := Lib.hid hl
          replace hl1 := Lib.hid hl1
          replace g1 := Lib.hid g1
          replace g2 := Lib.hid g2
          replace g3 := Lib.hid g3
          replace g4 := Lib.hid g4
          go_enter Try.func30, Try.ntmps30
          go_wp2_with fail
          obtain ⟨W1, hW⟩ : ∃ W1 : World, w.alloc (.cells #[.int .i64 r, .slice A n c, .slice A1 n1 c1] 29) = W1 := ⟨_, rfl⟩
          have hz1 : W1.heap.size = w.heap.size + 1 := by rw [← hW]; simp
          rw [hW] at hR hR1 hC0 hC1 hC2 hB ⊢
          clear hW h h1
          ((with_reducible refine (sizeI_any _ _ _ _ (by omega)).mono ?_); rintro e w' ⟨rfl, rfl⟩)
          go_wp2_with fail
          ((with_reducible refine (within_any _ _ _ _).mono ?_); rintro e w' ⟨rfl, rfl⟩)
          rw [g1.out]
          go_wp2_with fail
          ((with_reducible refine (areWithin_any A n c ps 0 (r - 1) _ hR (by omega)).mono ?_); rintro e w2 ⟨rfl, f2⟩)
          rw [g4.out]
          have y2 := f2.size
          have B2 : Below W1.heap.size W1 w2 := f2
          have c0 := (B2.cell (p := ⟨w.heap.size, 0, none⟩) (by simp; omega)).trans hC0
          have c1 := (B2.cell (p := ⟨w.heap.size, 1, none⟩) (by simp; omega)).trans hC1
          have c2 := (B2.cell (p := ⟨w.heap.size, 2, none⟩) (by simp; omega)).trans hC2
          go_wp2_with fail
          go_ret
          exact ⟨ret_bool hF.out.symm, hB.trans (B2.mono (by omega))⟩
        | true =>
          cases g5 : srtB ps with
          | false =>
            have hF : isPosB r ps xss = false := isPosB_not (fun hp => by rw [srtB_iff.2 hp.srt] at g5; simp at g5)
            have k2 : decide ((n : Int) > 500) = false := by simp at g2; simp; omega
            have k3 : ((n1 : Int) != (n : Int)) = false := by simp at g3; simp; omega
            have hwr : IntKind.i64.wrap (r - 1) = r - 1 := by have a : 1 ≤ r := by { simp at g1; omega }; rw [IntKind.wrap_i64]; omega
            replace hF := Lib.hid hF
            replace hl := Lib.hid hl
            replace hl1 := Lib.hid hl1
            replace g1 := Lib.hid g1
            replace g2 := Lib.hid g2
            replace g3 := Lib.hid g3
            replace g4 := Lib.hid g4
            replace g5 := Lib.hid g5
            go_enter Try.func30, Try.ntmps30
            go_wp2_with fail
            obtain ⟨W1, hW⟩ : ∃ W1 : World, w.alloc (.cells #[.int .i64 r, .slice A n c, .slice A1 n1 c1] 29) = W1 := ⟨_, rfl⟩
            have hz1 : W1.heap.size = w.heap.size + 1 := by rw [← hW]; simp
            rw [hW] at hR hR1 hC0 hC1 hC2 hB ⊢
            clear hW h h1
            ((with_reducible refine (sizeI_any _ _ _ _ (by omega)).mono ?_); rintro e w' ⟨rfl, rfl⟩)
            go_wp2_with fail
            ((with_reducible refine (within_any _ _ _ _).mono ?_); rintro e w' ⟨rfl, rfl⟩)
            rw [g1.out]
            go_wp2_with fail
            ((with_reducible refine (areWithin_any A n c ps 0 (r - 1) _ hR (by omega)).mono ?_); rintro e w2 ⟨rfl, f2⟩)
            rw [g4.out]
            have y2 := f2.size
            have B2 : Below W1.heap.size W1 w2 := f2
            have c0 := (B2.cell (p := ⟨w.heap.size, 0, none⟩) (by simp; omega)).trans hC0
            have c1 := (B2.cell (p := ⟨w.heap.size, 1, none⟩) (by simp; omega)).trans hC1
            have c2 := (B2.cell (p := ⟨w.heap.size, 2, none⟩) (by simp; omega)).trans hC2
            go_wp2_with fail
            ((with_reducible refine (isSorted_any A n c ps _ (hR.below B2 (by omega)) (by omega)).mono ?_); rintro e w3 ⟨rfl, f3⟩)
            rw [g5.out]
            have y3 := f3.size
            have B3 : Below W1.heap.size W1 w3 := below_then B2 f3 (by omega)
            clear c0 c1 c2
            have c0 := (B3.cell (p := ⟨w.heap.size, 0, none⟩) (by simp; omega)).trans hC0
            have c1 := (B3.cell (p := ⟨w.heap.size, 1, none⟩) (by simp; omega)).trans hC1
            have c2 := (B3.cell (p := ⟨w.heap.size, 2, none⟩) (by simp; omega)).trans hC2
            go_wp2_with fail
            go_ret
            exact ⟨ret_bool hF.out.symm, hB.trans (B3.mono (by omega))⟩
          | true =>
            have hr15 : 1 ≤ r ∧ r ≤ 5 := by simpa using g1
            have hn5 : n ≤ 500 := by simpa using g2
            have hnn : n = n1 := by simp at g3; omega
            have hrk : ∀ x ∈ ps, 0 ≤ x ∧ x ≤ r - 1 := fun x hx => by have a := g4; unfold allIn at a; rw [List.all_eq_true] at a; exact inR_iff.1 (a x hx)
            have hsrt := srtB_iff.1 g5
            have k2 : decide ((n : Int) > 500) = false := by simp at g2; simp; omega
            have k3 : ((n1 : Int) != (n : Int)) = false := by simp at g3; simp; omega
            have hwr : IntKind.i64.wrap (r - 1) = r - 1 := by have a : 1 ≤ r := by { simp at g1; omega }; rw [IntKind.wrap_i64]; omega
            subst hnn
            replace hl := Lib.hid hl
            replace hl1 := Lib.hid hl1
            replace hrk := Lib.hid hrk
            replace hsrt := Lib.hid hsrt
            replace g1 := Lib.hid g1
            replace g2 := Lib.hid g2
            replace g3 := Lib.hid g3
            replace g4 := Lib.hid g4
            replace g5 := Lib.hid g5
            go_enter Try.func30, Try.ntmps30
            go_wp2_with fail
            obtain ⟨W1, hW⟩ : ∃ W1 : World, w.alloc (.cells #[.int .i64 r, .slice A n c, .slice A1 n c1] 29) = W1 := ⟨_, rfl⟩
            have hz1 : W1.heap.size = w.heap.size + 1 := by rw [← hW]; simp
            rw [hW] at hR hR1 hC0 hC1 hC2 hB ⊢
            clear hW h h1
            ((with_reducible refine (sizeI_any _ _ _ _ (by omega)).mono ?_); rintro e w' ⟨rfl, rfl⟩)
            go_wp2_with fail
            ((with_reducible refine (within_any _ _ _ _).mono ?_); rintro e w' ⟨rfl, rfl⟩)
            rw [g1.out]
            go_wp2_with fail
            ((with_reducible refine (areWithin_any A n c ps 0 (r - 1) _ hR (by omega)).mono ?_); rintro e w2 ⟨rfl, f2⟩)
            rw [g4.out]
            have y2 := f2.size
            have B2 : Below W1.heap.size W1 w2 := f2
            have c0 := (B2.cell (p := ⟨w.heap.size, 0, none⟩) (by simp; omega)).trans hC0
            have c1 := (B2.cell (p := ⟨w.heap.size, 1, none⟩) (by simp; omega)).trans hC1
            have c2 := (B2.cell (p := ⟨w.heap.size, 2, none⟩) (by simp; omega)).trans hC2
            go_wp2_with fail
            ((with_reducible refine (isSorted_any A n c ps _ (hR.below B2 (by omega)) (by omega)).mono ?_); rintro e w3 ⟨rfl, f3⟩)
            rw [g5.out]
            have y3 := f3.size
            have B3 : Below W1.heap.size W1 w3 := below_then B2 f3 (by omega)
            clear c0 c1 c2
            have c0 := (B3.cell (p := ⟨w.heap.size, 0, none⟩) (by simp; omega)).trans hC0
            have c1 := (B3.cell (p := ⟨w.heap.size, 1, none⟩) (by simp; omega)).trans hC1
            have c2 := (B3.cell (p := ⟨w.heap.size, 2, none⟩) (by simp; omega)).trans hC2
            go_wp2_with fail
            clear k3 hwr k2
            go_loopw [54] (fun kv wq => ∃ e : Nat, e ≤ n ∧ kv = .int .i64 e ∧ Hid (∀ e2 : Nat, e2 < e → ∀ B, xss[e2]? = some B → ∀ (k : Nat) (f : Int), B[k]? = some f → BelK ps e2 B k f) ∧ Below W1.heap.size W1 wq) (fun kv _ => n - (intOf kv).toNat)
            case atStart => exact ⟨0, by omega, rfl, Lib.hid (fun e2 h2 => by omega), B3⟩
            case round =>
              clear c0 c1 c2
              obtain ⟨e, he, rfl, hbel, hb⟩ := hrel
              have hbz := hb.size
              have c0 := (hb.cell (p := ⟨w.heap.size, 0, none⟩) (by simp; omega)).trans hC0
              have c1 := (hb.cell (p := ⟨w.heap.size, 1, none⟩) (by simp; omega)).trans hC1
              have c2 := (hb.cell (p := ⟨w.heap.size, 2, none⟩) (by simp; omega)).trans hC2
              by_cases hlt : e < n
              · obtain ⟨b, o, Ak, nk, ck, B, rfl, _, _, hBe, hcB, hrB⟩ := (hR1.below hb (by omega)).at_ hlt
                have hpl := hl.out
                have hBl := hrB.len
                have hBm := hrB.max
                replace hBe := Lib.hid hBe
                replace hBl := Lib.hid hBl
                go_wp2_with fail
                obtain ⟨wo, rfl⟩ : ∃ wo : World, wo = wr := ⟨_, rfl⟩
                go_loopw [61] (fun kv wq => ∃ k : Nat, k ≤ nk ∧ kv = .int .i64 k ∧ Hid (∀ k2 : Nat, k2 < k → ∀ f : Int, B[k2]? = some f → BelK ps e B k2 f) ∧ Below wo.heap.size wo wq) (fun kv _ => nk - (intOf kv).toNat)
                case atStart => exact ⟨0, by omega, rfl, Lib.hid (fun k2 h2 => by omega), Below.refl _ _⟩
                case round =>
                  clear c0 c1 c2
                  obtain ⟨k, hk, rfl, hrow, hb2⟩ := hrel
                  have hb3 : Below W1.heap.size W1 wr := below_then hb hb2 (by omega)
                  have hz3 := hb3.size
                  have c0 := (hb3.cell (p := ⟨w.heap.size, 0, none⟩) (by simp; omega)).trans hC0
                  have c1 := (hb3.cell (p := ⟨w.heap.size, 1, none⟩) (by simp; omega)).trans hC1
                  have c2 := (hb3.cell (p := ⟨w.heap.size, 2, none⟩) (by simp; omega)).trans hC2
                  have hcB2 := (hb2.cell (p := ⟨b, o + e, none⟩) (by simp; omega)).trans hcB
                  have hrB2 := hrB.below hb2 (by omega)
                  have hR3 := hR.below hb3 (by omega)
                  by_cases hkn : k < nk
                  · obtain ⟨bb, oo, f, rfl, _, _, hf, hcf⟩ := hrB2.at_ hkn
                    obtain ⟨bp, op, pe, rfl, _, _, hpe, hcpe⟩ := hR3.at_ hlt
                    have hge : ps.getD e 0 = pe := getD_some hpe
                    cases hin : (decide ((0 : Int) ≤ f) && decide (f ≤ (n : Int) - 1)) with
                    | false =>
                      have hF : isPosB r ps xss = false := isPosB_not (fun hp => by obtain ⟨q0, q1, q2, q3⟩ := hp.bel e B hBe.out k f hf; rw [hpl] at q1; simp at hin; omega)
                      have hwn : IntKind.i64.wrap ((n : Int) - 1) = (n : Int) - 1 := by rw [IntKind.wrap_i64]; omega
                      replace hF := Lib.hid hF
                      replace hf := Lib.hid hf
                      replace hpe := Lib.hid hpe
                      replace hge := Lib.hid hge
                      replace hpl := Lib.hid hpl
                      go_wp2_with fail
                      go_quiet (((go_at_call 55; exact quiet_left (hin ▸ within_any _ _ _ _))))
                      go_wp2_with fail
                      go_ret
                      exact ⟨ret_bool hF.out.symm, hB.trans ((below_dn hb3 _).mono (by omega))⟩
                    | true =>
                      obtain ⟨hf0, hf1⟩ : 0 ≤ f ∧ f ≤ (n : Int) - 1 := by simpa using hin
                      obtain ⟨f, rfl⟩ : ∃ q : Nat, f = q := ⟨f.toNat, by omega⟩
                      have hfn : f < n := by omega
                      obtain ⟨bp2, op2, pf, e5, _, _, hpf, hcpf⟩ := hR3.at_ hfn
                      injection e5 with e5
                      injection e5 with e6 e7 _
                      subst e6; subst e7
                      have hgf : at' ps (f : Int) = pf := by unfold at'; rw [Int.toNat_natCast]; exact getD_some hpf
                      cases hge2 : decide (pf ≥ pe) with
                      | true =>
                        have hF : isPosB r ps xss = false := isPosB_not (fun hp => by obtain ⟨q0, q1, q2, q3⟩ := hp.bel e B hBe.out k f hf; rw [hgf, hge] at q2; simp at hge2; omega)
                        have hwn : IntKind.i64.wrap ((n : Int) - 1) = (n : Int) - 1 := by rw [IntKind.wrap_i64]; omega
                        replace hF := Lib.hid hF
                        replace hf := Lib.hid hf
                        replace hpe := Lib.hid hpe
                        replace hge := Lib.hid hge
                        replace hpf := Lib.hid hpf
                        replace hgf := Lib.hid hgf
                        replace hpl := Lib.hid hpl
                        go_wp2_with fail
                        go_quiet (((go_at_call 55; exact quiet_left (hin ▸ within_any _ _ _ _))))
                        go_wp2_with fail
                        go_ret
                        exact ⟨ret_bool hF.out.symm, hB.trans ((below_dn hb3 _).mono (by omega))⟩
                      | false =>
                        have hpfe : pf < pe := by simpa using hge2
                        cases k with
                        | zero =>
                          rw [Nat.add_zero] at hcf
                          have hrow2 : ∀ k2 : Nat, k2 < 0 + 1 → ∀ f : Int, B[k2]? = some f → BelK ps e B k2 f := fun k2 h2 g hg => by
                            by_cases ek : k2 = 0
                            · subst ek
                              have eg := hf.symm.trans hg
                              have eg2 := Option.some.inj eg
                              subst eg2
                              refine ⟨by omega, by rw [hpl]; omega, by rw [hgf, hge]; omega, fun h0 => ?_⟩
                              omega
                            · exact hrow.out k2 (by omega) g hg
                          replace hrow2 := Lib.hid hrow2
                          have hwn : IntKind.i64.wrap ((n : Int) - 1) = (n : Int) - 1 := by rw [IntKind.wrap_i64]; omega
                          replace hf := Lib.hid hf
                          replace hpe := Lib.hid hpe
                          replace hge := Lib.hid hge
                          replace hpf := Lib.hid hpf
                          replace hgf := Lib.hid hgf
                          replace hpl := Lib.hid hpl
                          go_wp2_with fail
                          go_quiet (((go_at_call 55; exact quiet_left (hin ▸ within_any _ _ _ _))))
                          go_wp2_with fail
                          clear hwn
                          go_roundw
                          case measure => simp [intOf]; omega
                          case rel => exact ⟨1, by omega, by go_num, hrow2, below_dn hb2 _⟩
                        | succ q =>
                          obtain ⟨bq, oq, fq, e5, _, _, hfq, hcfq⟩ := hrB2.at_ (k := q) (by omega)
                          injection e5 with e5
                          injection e5 with e6 e7 _
                          subst e6; subst e7
                          have hgq : B.getD q 0 = fq := getD_some hfq
                          have hd0 : decide ((q : Int) + 1 > 0) = true := by first | (simp; done) | (simp; omega)
                          cases hle : decide (fq ≥ (f : Int)) with
                          | true =>
                            have hF : isPosB r ps xss = false := isPosB_not (fun hp => by obtain ⟨q0, q1, q2, q3⟩ := hp.bel e B hBe.out (q + 1) f hf; have q4 := q3 (by omega); rw [Nat.add_sub_cancel, hgq] at q4; simp at hle; omega)
                            have hwn : IntKind.i64.wrap ((n : Int) - 1) = (n : Int) - 1 := by rw [IntKind.wrap_i64]; omega
                            have hwq : IntKind.i64.wrap (q : Int) = (q : Int) := by rw [IntKind.wrap_i64]; omega
                            replace hF := Lib.hid hF
                            replace hf := Lib.hid hf
                            replace hpe := Lib.hid hpe
                            replace hge := Lib.hid hge
                            replace hpf := Lib.hid hpf
                            replace hgf := Lib.hid hgf
                            replace hpl := Lib.hid hpl
                            replace hfq := Lib.hid hfq
                            replace hgq := Lib.hid hgq
                            go_wp2_with fail
                            go_quiet (((go_at_call 55; exact quiet_left (hin ▸ within_any _ _ _ _))))
                            go_wp2_with fail
                            go_ret
                            exact ⟨ret_bool hF.out.symm, hB.trans ((below_dn hb3 _).mono (by omega))⟩
                          | false =>
                            have hfqf : fq < (f : Int) := by simpa using hle
                            have hrow2 : ∀ k2 : Nat, k2 < q + 1 + 1 → ∀ f : Int, B[k2]? = some f → BelK ps e B k2 f := fun k2 h2 g hg => by
                              by_cases ek : k2 = q + 1
                              · subst ek
                                have eg := hf.symm.trans hg
                                have eg2 := Option.some.inj eg
                                subst eg2
                                refine ⟨by omega, by rw [hpl]; omega, by rw [hgf, hge]; omega, fun h0 => ?_⟩
                                rw [Nat.add_sub_cancel, hgq]; omega
                              · exact hrow.out k2 (by omega) g hg
                            replace hrow2 := Lib.hid hrow2
                            have hwn : IntKind.i64.wrap ((n : Int) - 1) = (n : Int) - 1 := by rw [IntKind.wrap_i64]; omega
                            have hwq : IntKind.i64.wrap (q : Int) = (q : Int) := by rw [IntKind.wrap_i64]; omega
                            replace hf := Lib.hid hf
                            replace hpe := Lib.hid hpe
                            replace hge := Lib.hid hge
                            replace hpf := Lib.hid hpf
                            replace hgf := Lib.hid hgf
                            replace hpl := Lib.hid hpl
                            replace hfq := Lib.hid hfq
                            replace hgq := Lib.hid hgq
                            go_wp2_with fail
                            go_quiet (((go_at_call 55; exact quiet_left (hin ▸ within_any _ _ _ _))))
                            go_wp2_with fail
                            clear hwn hwq
                            go_roundw
                            case measure => simp [intOf]; omega
                            case rel => exact ⟨q + 1 + 1, by omega, by go_num, hrow2, below_dn hb2 _⟩
                  · have hkk : k = nk := by omega
                    subst hkk
                    have hbel2 : ∀ e2 : Nat, e2 < e + 1 → ∀ B, xss[e2]? = some B → ∀ (k : Nat) (f : Int), B[k]? = some f → BelK ps e2 B k f := fun e2 h2 B2 hB2 k f hf => by
                      by_cases ek : e2 = e
                      · subst ek
                        have eB := Option.some.inj (hBe.out.symm.trans hB2)
                        subst eB
                        exact hrow.out k (by have := (List.getElem?_eq_some_iff.1 hf).1; have := hBl.out; omega) f hf
                      · exact hbel.out e2 (by omega) B2 hB2 k f hf
                    replace hbel2 := Lib.hid hbel2
                    replace hpl := Lib.hid hpl
                    go_wp2_with fail
                    go_roundw
                    case measure => simp [intOf]; omega
                    case rel => exact ⟨e + 1, by omega, by go_num, hbel2, hb3⟩
              · have hen : e = n := by omega
                subst hen
                have hbA : ∀ (e : Nat) (B : List Int), xss[e]? = some B → ∀ (k : Nat) (f : Int), B[k]? = some f → BelK ps e B k f := fun e2 B2 hB2 => hbel.out e2 (by have := (List.getElem?_eq_some_iff.1 hB2).1; have := hl1.out; omega) B2 hB2
                clear hbel
                replace hbA := Lib.hid hbA
                go_wp2_with fail
                obtain ⟨wm, rfl⟩ : ∃ wm : World, wm = wr := ⟨_, rfl⟩
                go_loopw [102] (fun kv wq => ∃ i : Nat, i ≤ e ∧ kv = .int .i64 i ∧ Hid (∀ e2 : Nat, e2 < i → ∀ B, xss[e2]? = some B → ∀ f ∈ B, ∀ C, xss[f.toNat]? = some C → ∀ g ∈ C, g ∈ B) ∧ Below W1.heap.size W1 wq) (fun kv _ => e - (intOf kv).toNat)
                case atStart => exact ⟨0, by omega, rfl, Lib.hid (fun e2 h2 => by omega), hb⟩
                case round =>
                  clear c0 c1 c2
                  obtain ⟨i, hi2, rfl, htr, hb2⟩ := hrel
                  have hbz2 := hb2.size
                  have c0 := (hb2.cell (p := ⟨w.heap.size, 0, none⟩) (by simp; omega)).trans hC0
                  have c1 := (hb2.cell (p := ⟨w.heap.size, 1, none⟩) (by simp; omega)).trans hC1
                  have c2 := (hb2.cell (p := ⟨w.heap.size, 2, none⟩) (by simp; omega)).trans hC2
                  by_cases hie : i < e
                  · obtain ⟨b, o, Ak, nk, ck, B, rfl, _, _, hBe, hcB, hrB⟩ := (hR1.below hb2 (by omega)).at_ hie
                    have hBl := hrB.len
                    have hBm := hrB.max
                    have hBs := bel_srt (hbA.out i B hBe)
                    replace hBe := Lib.hid hBe
                    replace hBl := Lib.hid hBl
                    replace hBs := Lib.hid hBs
                    go_wp2_with fail
                    obtain ⟨wo, rfl⟩ : ∃ wo : World, wo = wr := ⟨_, rfl⟩
                    go_loopw [108] (fun kv wq => ∃ k : Nat, k ≤ nk ∧ kv = .int .i64 k ∧ Hid (∀ f ∈ B.take k, ∀ C, xss[f.toNat]? = some C → ∀ g ∈ C, g ∈ B) ∧ Below wo.heap.size wo wq) (fun kv _ => nk - (intOf kv).toNat)
                    case atStart => exact ⟨0, by omega, rfl, Lib.hid (by simp), Below.refl _ _⟩
                    case round =>
                      clear c0 c1 c2
                      obtain ⟨k, hk, rfl, hrow, hb4⟩ := hrel
                      have hb3 : Below W1.heap.size W1 wr := below_then hb2 hb4 (by omega)
                      have hz3 := hb3.size
                      have c0 := (hb3.cell (p := ⟨w.heap.size, 0, none⟩) (by simp; omega)).trans hC0
                      have c1 := (hb3.cell (p := ⟨w.heap.size, 1, none⟩) (by simp; omega)).trans hC1
                      have c2 := (hb3.cell (p := ⟨w.heap.size, 2, none⟩) (by simp; omega)).trans hC2
                      have hrB2 := hrB.below hb4 (by omega)
                      by_cases hkn : k < nk
                      · obtain ⟨bb, oo, f, rfl, _, _, hf, hcf⟩ := hrB2.at_ hkn
                        obtain ⟨q0, q1, _, _⟩ := hbA.out i B hBe.out k f hf
                        rw [hl.out] at q1
                        obtain ⟨f, rfl⟩ : ∃ q : Nat, f = q := ⟨f.toNat, by omega⟩
                        have hfe : f < e := by omega
                        obtain ⟨b5, o5, Af, nf, cf, C, e5, _, _, hCf, hcC, hrC⟩ := (hR1.below hb3 (by omega)).at_ hfe
                        injection e5 with e5
                        injection e5 with e6 e7 _
                        subst e6; subst e7
                        have hCl := hrC.len
                        have hCm := hrC.max
                        have htk := take_succ_of hf
                        replace hf := Lib.hid hf
                        replace hCf := Lib.hid hCf
                        replace hCl := Lib.hid hCl
                        replace htk := Lib.hid htk
                        go_wp2_with fail
                        obtain ⟨wp, rfl⟩ : ∃ wp : World, wp = wr := ⟨_, rfl⟩
                        go_loopw [118] (fun kv wq => ∃ q : Nat, q ≤ nf ∧ kv = .int .i64 q ∧ Hid (∀ g ∈ C.take q, g ∈ B) ∧ wp = wq) (fun kv _ => nf - (intOf kv).toNat)
                        case atStart => exact ⟨0, by omega, rfl, Lib.hid (by simp), by first | rfl | trivial⟩
                        case round =>
                          obtain ⟨q, hq, rfl, hin, rfl⟩ := hrel
                          by_cases hqf : q < nf
                          · obtain ⟨bg, og, g, rfl, _, _, hg, hcg⟩ := hrC.at_ hqf
                            have htg := take_succ_of hg
                            have hgm := mem_of_get? hg
                            replace hg := Lib.hid hg
                            replace htg := Lib.hid htg
                            replace hgm := Lib.hid hgm
                            have hnk5 : nk ≤ 1048576 := by have a := bel_len (hbA.out i B hBe.out); rw [hBl.out, hl.out] at a; omega
                            cases hmem : decide (g ∈ B) with
                            | false =>
                              have hF : isPosB r ps xss = false := isPosB_not (fun hp => by have a := hp.tra i B hBe.out (f : Int) (mem_of_get? hf.out) C (by rw [Int.toNat_natCast]; exact hCf.out) g hgm.out; exact of_decide_eq_false hmem a)
                              replace hF := Lib.hid hF
                              replace hmem := Lib.hid hmem
                              go_wp2_with fail
                              ((with_reducible refine (bin_any _ nk ck B g _ hrB2 hnk5 hBs.out).mono ?_); rintro e w' ⟨p, rfl, rfl⟩)
                              rw [hmem.out]
                              go_wp2_with fail
                              go_ret
                              exact ⟨ret_bool hF.out.symm, hB.trans (hb3.mono (by omega))⟩
                            | true =>
                              have hin2 : ∀ x ∈ C.take (q + 1), x ∈ B := by
                                rw [htg.out]
                                intro x hx
                                rcases List.mem_append.1 hx with hx | hx
                                · exact hin.out x hx
                                · rw [List.mem_singleton.1 hx]; exact of_decide_eq_true hmem
                              replace hin2 := Lib.hid hin2
                              replace hmem := Lib.hid hmem
                              go_wp2_with fail
                              ((with_reducible refine (bin_any _ nk ck B g _ hrB2 hnk5 hBs.out).mono ?_); rintro e w' ⟨p, rfl, rfl⟩)
                              rw [hmem.out]
                              go_wp2_with fail
                              go_roundw
                              case measure => simp [intOf]; omega
                              case rel => exact ⟨q + 1, by omega, by go_num, hin2, by first | rfl | trivial⟩
                          · have hqq : q = nf := by omega
                            subst hqq
                            have hrow2 : ∀ x ∈ B.take (k + 1), ∀ D, xss[x.toNat]? = some D → ∀ g ∈ D, g ∈ B := by
                              rw [htk.out]
                              intro x hx D hD g hg
                              rcases List.mem_append.1 hx with hx | hx
                              · exact hrow.out x hx D hD g hg
                              · rw [List.mem_singleton.1 hx, Int.toNat_natCast] at hD
                                have eD := Option.some.inj (hCf.out.symm.trans hD)
                                subst eD
                                have a := hin.out
                                rw [List.take_of_length_le (by have := hCl.out; omega)] at a
                                exact a g hg
                            replace hrow2 := Lib.hid hrow2
                            go_wp2_with fail
                            go_roundw
                            case measure => simp [intOf]; omega
                            case rel => exact ⟨k + 1, by omega, by go_num, hrow2, hb4⟩
                      · have hkk : k = nk := by omega
                        subst hkk
                        have htr2 : ∀ e2 : Nat, e2 < i + 1 → ∀ D, xss[e2]? = some D → ∀ f ∈ D, ∀ C, xss[f.toNat]? = some C → ∀ g ∈ C, g ∈ D := fun e2 h2 D hD f hf => by
                          by_cases ek : e2 = i
                          · subst ek
                            have eD := Option.some.inj (hBe.out.symm.trans hD)
                            subst eD
                            have a := hrow.out
                            rw [List.take_of_length_le (by have := hBl.out; omega)] at a
                            exact a f hf
                          · exact htr.out e2 (by omega) D hD f hf
                        replace htr2 := Lib.hid htr2
                        go_wp2_with fail
                        go_roundw
                        case measure => simp [intOf]; omega
                        case rel => exact ⟨i + 1, by omega, by go_num, htr2, hb3⟩
                  · have hie2 : i = e := by omega
                    subst hie2
                    have hF : isPosB r ps xss = true := isPosB_iff.2 ⟨hr15.1, hr15.2, by rw [hl.out]; exact hn5, by rw [hl.out]; exact hl1.out, hrk.out, hsrt.out, hbA.out, fun e2 D hD => htr.out e2 (by have := (List.getElem?_eq_some_iff.1 hD).1; have := hl1.out; omega) D hD⟩
                    replace hF := Lib.hid hF
                    go_wp2_with fail
                    go_ret
                    exact ⟨ret_bool hF.out.symm, hB.trans (hb2.mono (by omega))⟩
end Go.Proofs.Ytbioelmofceaaaa
