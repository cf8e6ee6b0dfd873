/- Walk: the reference's first place where a poset has no diamond. No condition but the sizes of memory. -/
import Derived.Test.YtpbmhhopgjikhaaDf
import Derived.Test.YtpbmhhopgjikhaaPosS
import Derived.Test.YtpbmhhopgjikhaaOppX
namespace Go.Proofs.Ytpbmhhopgjikhaa
open Go.RowKit
set_option linter.unusedVariables false
set_option maxRecDepth 100000
theorem dfAt_len {xss : List (List Int)} {mid : List Int} {i e f : Int} {l : List Int} (h : dfAt xss mid i e f = some l) : l.length = 3 := by
  unfold dfAt at h
  split at h
  · cases h
  · split at h
    · cases h
    · cases h; rfl
theorem df_len {r : Int} {ps : List Int} {xss : List (List Int)} {l : List Int} (h : df r ps xss = some l) : l.length = 3 := by
  unfold df at h
  obtain ⟨i, _, h⟩ := List.exists_of_findSome?_eq_some h
  unfold dfI at h
  obtain ⟨e, _, h⟩ := List.exists_of_findSome?_eq_some h
  unfold dfE at h
  obtain ⟨f, _, h⟩ := List.exists_of_findSome?_eq_some h
  exact dfAt_len h
def cntS (ps : List Int) (xss : List (List Int)) (i e f : Int) (k : Nat) : Nat := ((rngI k).filter fun d => decide (i = ps.getD d.toNat 0) && midB xss e f d).length
theorem cntS_succ (ps : List Int) (xss : List (List Int)) (i e f : Int) (k : Nat) : cntS ps xss i e f (k + 1) = cntS ps xss i e f k + (if (decide (i = ps.getD k 0) && midB xss e f (k : Int)) = true then 1 else 0) := by
  unfold cntS
  rw [rngI_succ, List.filter_append, List.length_append]
  congr 1
  by_cases hb : (decide (i = ps.getD k 0) && midB xss e f (k : Int)) = true
  · rw [if_pos hb, List.filter_cons, if_pos (by rw [Int.toNat_natCast]; exact hb)]; rfl
  · rw [if_neg hb, List.filter_cons, if_neg (by rw [Int.toNat_natCast]; exact hb)]; rfl
theorem cntS_eq (ps : List Int) (xss : List (List Int)) (i e f : Int) (n : Nat) : cntS ps xss i e f n = cntM xss e f (plc ps i n) := by
  unfold cntS cntM plc rngI
  rw [List.filter_map, List.filter_map, List.length_map, List.length_map, List.filter_filter]
  congr 1
  refine List.filter_congr (fun x _ => ?_)
  simp only [Function.comp]
  rw [Bool.and_comm]
  rfl
theorem cntS_le (ps : List Int) (xss : List (List Int)) (i e f : Int) (k : Nat) : cntS ps xss i e f k ≤ k := by
  unfold cntS
  have := List.length_filter_le (fun d => decide (i = ps.getD d.toNat 0) && midB xss e f d) (rngI k)
  have h2 : (rngI k).length = k := by simp [rngI]
  omega
/-- what the reference asks of e, of f -/
def gfF (r : Int) (ps : List Int) (xss : List (List Int)) (i e f : Int) : Option (List Int) := if gE ps (r - 1 - i) (i + 1) f = true then dfAt xss (ofRk r ps i) i e f else none
def gfE (r : Int) (ps : List Int) (xss : List (List Int)) (i e : Int) : Option (List Int) := if gE ps i (i - 1) e = true then dfE r ps xss i e else none
theorem gfE_all {r : Int} {ps : List Int} {xss : List (List Int)} {i : Int} (h0 : 0 ≤ i) (h1 : i < r) : (rngM (ps.length + 1)).findSome? (gfE r ps xss i) = dfI r ps xss i := by
  unfold dfI
  rw [← cand_eq (r := r) (ps := ps) (z := i) (j := i - 1) (by omega), fs_filter]
  rfl
theorem gfF_all {r : Int} {ps : List Int} {xss : List (List Int)} {i e : Int} (h0 : 0 ≤ i) (h1 : i < r) : (rngM (ps.length + 1)).findSome? (gfF r ps xss i e) = dfE r ps xss i e := by
  unfold dfE
  rw [← cand_eq (r := r) (ps := ps) (z := r - 1 - i) (j := i + 1) (by omega), fs_filter]
  rfl
set_option maxHeartbeats 8000000 in
theorem l03Fault_any (r : Int) (D : Option Addr) (e0 n : Nat) (ps : List Int) (A : Option Addr) (c : Nat) (xss : List (List Int)) (w : World) {lo hi lo' hi' : Nat} (g : RI w lo hi D n ps) (hg : hi ≤ w.heap.size) (h : RS w lo' hi' A n xss) (hhi : hi' ≤ w.heap.size) (hp : PosP r ps xss) :
    Calls Try.prog 61 #[.agg #[.int .i64 r, .slice D n e0, .slice A n c]] w fun e' w' => ∃ (A1 : Option Addr) (n1 c1 : Nat) (zs : List Int), e' = .returned (.slice A1 n1 c1) ∧ Hid (zs = (df r ps xss).getD []) ∧ Own w' w.heap.size w'.heap.size 2 A1 n1 c1 (zs.map (Value.int .i64)) ∧ Below w.heap.size w w' := by
  have hl := g.len
  have hl1 := h.len
  have hn5 : n ≤ 500 := by have := hp.n5; omega
  have hr15 : 1 ≤ r ∧ r ≤ 5 := ⟨hp.r1, hp.r5⟩
  have hR := rs_alloc h hhi (.cells #[.int .i64 r, .slice D n e0, .slice A n c] 28)
  have hG := ri_alloc g hg (.cells #[.int .i64 r, .slice D n e0, .slice A n c] 28)
  have hB : Below w.heap.size w (w.alloc (.cells #[.int .i64 r, .slice D n e0, .slice A n c] 28)) := (Below.refl _ _).alloc (Nat.le_refl _) _
  have p0 : (w.alloc (.cells #[.int .i64 r, .slice D n e0, .slice A n c] 28)).heap[w.heap.size]? = some (.cells #[.int .i64 r, .slice D n e0, .slice A n c] 28 (0, 0)) := heap_new _ _ _ rfl
  obtain ⟨R, rfl⟩ : ∃ R : Nat, r = R := ⟨r.toNat, by omega⟩
  have hdf : Hid (df (R : Int) ps xss = (rngI R).findSome? (dfI (R : Int) ps xss)) := Lib.hid (by unfold df; rw [Int.toNat_natCast])
  replace p0 := Lib.hid p0
  replace hl := Lib.hid hl
  replace hl1 := Lib.hid hl1
  replace hp := Lib.hid hp
  go_enter Try.func61, Try.ntmps61
  go_wp2_with fail
  obtain ⟨W1, hW⟩ : ∃ W1 : World, w.alloc (.cells #[.int .i64 (R : Int), .slice D n e0, .slice A n c] 28) = W1 := ⟨_, rfl⟩
  have hz1 : W1.heap.size = w.heap.size + 1 := by rw [← hW]; simp
  rw [hW] at hR hG hB p0 ⊢
  clear hW h g
  have c0 : W1.cell? ⟨w.heap.size, 0, none⟩ = some (.int .i64 (R : Int)) := by rw [cell_of_row _ _ _ _ _ _ p0.out]; rfl
  have c1 : W1.cell? ⟨w.heap.size, 1, none⟩ = some (.slice D n e0) := by rw [cell_of_row _ _ _ _ _ _ p0.out]; rfl
  have c2 : W1.cell? ⟨w.heap.size, 2, none⟩ = some (.slice A n c) := by rw [cell_of_row _ _ _ _ _ _ p0.out]; rfl
  go_loopw [4] (fun iv wq => ∃ i : Nat, i ≤ R ∧ iv = .int .i64 i ∧ Hid ((rngI i).findSome? (dfI (R : Int) ps xss) = none) ∧ W1 = wq) (fun iv _ => R - (intOf iv).toNat)
  case atStart => exact ⟨0, by omega, rfl, Lib.hid rfl, by first | rfl | trivial⟩
  case round =>
    obtain ⟨i, hi0, rfl, hfi, rfl⟩ := hrel
    by_cases hiR : i < R
    · have hall := gfE_all (r := (R : Int)) (ps := ps) (xss := xss) (i := (i : Int)) (by omega) (by omega)
      have hallF := fun e => gfF_all (r := (R : Int)) (ps := ps) (xss := xss) (i := (i : Int)) (e := e) (by omega) (by omega)
      have hmid : ofRk (R : Int) ps (i : Int) = plc ps (i : Int) n := by
        unfold ofRk
        rw [if_pos (inR_iff.2 (by omega)), hl.out]
      rw [hl.out] at hall
      simp only [hl.out] at hallF
      replace hall := Lib.hid hall
      replace hallF := Lib.hid hallF
      replace hmid := Lib.hid hmid
      go_wp2_with fail
      go_loopw [5] (fun ev wq => ∃ (s : Nat) (ee : Int), s ≤ n + 1 ∧ ev = .int .i64 ee ∧ Hid (ee = (s : Int) - 1) ∧ -1 ≤ ee ∧ ee ≤ n ∧ Hid ((rngM s).findSome? (gfE (R : Int) ps xss (i : Int)) = none) ∧ W1 = wq) (fun ev _ => n + 1 - (intOf ev + 1).toNat)
      case atStart => exact ⟨0, -1, by omega, rfl, Lib.hid (by omega), by omega, by omega, Lib.hid rfl, by first | rfl | trivial⟩
      case round =>
        obtain ⟨s, ee, hs, rfl, hes, he0, he1, hfe, rfl⟩ := hrel
        by_cases hen : ee < n
        · have hsn : s < n + 1 := by have := hes.out; omega
          go_upto_region 8 with fail
          go_cut [41] from 18 to 132 (fun s41 wx => s41 = .bool (!gE ps (i : Int) ((i : Int) - 1) ee) ∧ W1 = wx)
          --CUT
          case first =>
            by_cases hez : ee < 0
            · have d1 : decide (ee < 0) = true := decide_eq_true hez
              have d2 : decide (ee ≥ 0) = false := by simp; omega
              by_cases hiz : i = 0
              · have hz : ((i : Int) == 0) = true := by simp; omega
                have hF : gE ps (i : Int) ((i : Int) - 1) ee = true := by unfold gE; rw [d1, show decide ((i : Int) = 0) = true by simp; omega]; simp; omega
                replace hF := Lib.hid hF
                replace hiz := Lib.hid hiz
                replace hez := Lib.hid hez
                go_wp2_with fail
                go_meet
                exact ⟨by rw [hF.out]; rfl, rfl⟩
              · have hz : ((i : Int) == 0) = false := by simp; omega
                have hF : gE ps (i : Int) ((i : Int) - 1) ee = false := by unfold gE; rw [d1, show decide ((i : Int) = 0) = false by simp; omega]; rfl
                replace hF := Lib.hid hF
                replace hiz := Lib.hid hiz
                replace hez := Lib.hid hez
                go_wp2_with fail
                go_meet
                exact ⟨by rw [hF.out]; rfl, rfl⟩
            · have d1 : decide (ee < 0) = false := decide_eq_false hez
              have d2 : decide (ee ≥ 0) = true := by simp; omega
              by_cases hiz : i = 0
              · have hz : ((i : Int) == 0) = true := by simp; omega
                have hF : gE ps (i : Int) ((i : Int) - 1) ee = false := by unfold gE; rw [d1, show decide ((i : Int) = 0) = true by simp; omega]; rfl
                replace hF := Lib.hid hF
                replace hiz := Lib.hid hiz
                replace hez := Lib.hid hez
                go_wp2_with fail
                go_meet
                exact ⟨by rw [hF.out]; rfl, rfl⟩
              · have hz : ((i : Int) == 0) = false := by simp; omega
                obtain ⟨e, rfl⟩ : ∃ z : Nat, ee = z := ⟨ee.toNat, by omega⟩
                obtain ⟨bp, op, pe, hD, _, _, hpe, hcpe⟩ := hG.at_ (k := e) (by omega)
                subst hD
                have hF : (!gE ps (i : Int) ((i : Int) - 1) (e : Int)) = (pe != (i : Int) - 1) := by
                  have h2 : decide ((0 : Int) ≤ (e : Int)) = true := by simp
                  unfold gE
                  rw [d1, show decide ((i : Int) = 0) = false by simp; omega, h2, Int.toNat_natCast, getD_some hpe, Bool.not_not]
                  rfl
                have hw1 : IntKind.i64.wrap ((i : Int) - 1) = (i : Int) - 1 := by rw [IntKind.wrap_i64]; omega
                have hen2 : (e : Int) < (n : Int) := by omega
                replace hF := Lib.hid hF
                replace hiz := Lib.hid hiz
                replace hez := Lib.hid hez
                replace hpe := Lib.hid hpe
                go_wp2_with fail
                go_meet
                exact ⟨by rw [hF.out], rfl⟩
          case rest =>
            obtain ⟨rfl, rfl⟩ := hcut
            have hw2 : IntKind.i64.wrap (ee + 1) = ee + 1 := by rw [IntKind.wrap_i64]; omega
            have hes2 : Hid (ee + 1 = ((s + 1 : Nat) : Int) - 1) := Lib.hid (by have := hes.out; omega)
            cases hgE : gE ps (i : Int) ((i : Int) - 1) ee with
            | false =>
              have hn : (rngM (s + 1)).findSome? (gfE (R : Int) ps xss (i : Int)) = none := by
                rw [rngM_succ, fs_snoc hfe.out, ← hes.out]
                unfold gfE
                rw [if_neg (by rw [hgE]; simp)]
              replace hn := Lib.hid hn
              replace hgE := Lib.hid hgE
              go_wp2_with fail
              clear hw2
              go_roundw
              case measure => first | (simp [intOf]; done) | (simp [intOf]; omega)
              case rel => first | exact ⟨s + 1, ee + 1, by omega, rfl, hes2, by omega, by omega, hn, by first | rfl | trivial⟩ | (repeat (first | exact ⟨⟨s + 1, ee + 1, by omega, rfl, hes2, by omega, by omega, hn, by first | rfl | trivial⟩, rfl⟩ | refine Exists.intro _ ?_))
            | true =>
              have hgfE : gfE (R : Int) ps xss (i : Int) ee = dfE (R : Int) ps xss (i : Int) ee := by unfold gfE; rw [if_pos hgE]
              replace hgfE := Lib.hid hgfE
              replace hgE := Lib.hid hgE
              go_wp2_with fail
              clear hw2
              go_loopw [6] (fun fv wq => ∃ (u : Nat) (ff : Int), u ≤ n + 1 ∧ fv = .int .i64 ff ∧ Hid (ff = (u : Int) - 1) ∧ -1 ≤ ff ∧ ff ≤ n ∧ Hid ((rngM u).findSome? (gfF (R : Int) ps xss (i : Int) ee) = none) ∧ W1 = wq) (fun fv _ => n + 1 - (intOf fv + 1).toNat)
              case atStart => exact ⟨0, -1, by omega, rfl, Lib.hid (by omega), by omega, by omega, Lib.hid rfl, by first | rfl | trivial⟩
              case round =>
                obtain ⟨u, ff, hu, rfl, hfs, hf0, hf1, hff, rfl⟩ := hrel
                by_cases hfn : ff < n
                · have hun : u < n + 1 := by have := hfs.out; omega
                  go_upto_region 12 with fail
                  go_cut [86] from 42 to 132 (fun s86 wx => s86 = .bool (!gE ps ((R : Int) - 1 - (i : Int)) ((i : Int) + 1) ff || skipEF xss ee ff) ∧ W1 = wx)
                  case first =>
                    have hw3 : IntKind.i64.wrap ((R : Int) - 1) = (R : Int) - 1 := by rw [IntKind.wrap_i64]; omega
                    have hw4 : IntKind.i64.wrap ((i : Int) + 1) = (i : Int) + 1 := by rw [IntKind.wrap_i64]; omega
                    by_cases hfz : ff < 0
                    · have d1 : decide (ff < 0) = true := decide_eq_true hfz
                      have d2 : decide (ff ≥ 0) = false := by simp; omega
                      by_cases hiz : i + 1 = R
                      · have hz : ((i : Int) == (R : Int) - 1) = true := by simp; omega
                        have hF : (!gE ps ((R : Int) - 1 - (i : Int)) ((i : Int) + 1) ff || skipEF xss ee ff) = false := by
                          have h3 : decide ((0 : Int) ≤ ff) = false := by simp; omega
                          unfold gE skipEF
                          rw [d1, h3, show decide ((R : Int) - 1 - (i : Int) = 0) = true by simp; omega]
                          simp
                        replace hF := Lib.hid hF
                        replace hiz := Lib.hid hiz
                        replace hfz := Lib.hid hfz
                        by_cases hez : ee < 0
                        · have d3 : decide (ee ≥ 0) = false := by simp; omega
                          replace hez := Lib.hid hez
                          go_wp2_with fail
                          go_meet
                          exact ⟨by rw [hF.out], rfl⟩
                        · have d3 : decide (ee ≥ 0) = true := by simp; omega
                          replace hez := Lib.hid hez
                          go_wp2_with fail
                          go_meet
                          exact ⟨by rw [hF.out], rfl⟩
                      · have hz : ((i : Int) == (R : Int) - 1) = false := by simp; omega
                        have hF : (!gE ps ((R : Int) - 1 - (i : Int)) ((i : Int) + 1) ff || skipEF xss ee ff) = true := by
                          unfold gE
                          rw [d1, show decide ((R : Int) - 1 - (i : Int) = 0) = false by simp; omega]
                          rfl
                        replace hF := Lib.hid hF
                        replace hiz := Lib.hid hiz
                        replace hfz := Lib.hid hfz
                        go_wp2_with fail
                        go_meet
                        exact ⟨by rw [hF.out], rfl⟩
                    · have d1 : decide (ff < 0) = false := decide_eq_false hfz
                      have d2 : decide (ff ≥ 0) = true := by simp; omega
                      by_cases hiz : i + 1 = R
                      · have hz : ((i : Int) == (R : Int) - 1) = true := by simp; omega
                        have hF : (!gE ps ((R : Int) - 1 - (i : Int)) ((i : Int) + 1) ff || skipEF xss ee ff) = true := by
                          unfold gE
                          rw [d1, show decide ((R : Int) - 1 - (i : Int) = 0) = true by simp; omega]
                          rfl
                        replace hF := Lib.hid hF
                        replace hiz := Lib.hid hiz
                        replace hfz := Lib.hid hfz
                        go_wp2_with fail
                        go_meet
                        exact ⟨by rw [hF.out], rfl⟩
                      · have hz : ((i : Int) == (R : Int) - 1) = false := by simp; omega
                        obtain ⟨f, rfl⟩ : ∃ z : Nat, ff = z := ⟨ff.toNat, by omega⟩
                        obtain ⟨bp, op, pf, hD, _, _, hpf, hcpf⟩ := hG.at_ (k := f) (by omega)
                        subst hD
                        obtain ⟨b, o, Ak, nk, ck, B, hA, _, _, hBf, hcB, hrB⟩ := hR.at_ (k := f) (by omega)
                        subst hA
                        have hfn2 : (f : Int) < (n : Int) := by omega
                        have hgv : gE ps ((R : Int) - 1 - (i : Int)) ((i : Int) + 1) (f : Int) = decide (pf = (i : Int) + 1) := by
                          have h2 : decide ((0 : Int) ≤ (f : Int)) = true := by simp
                          unfold gE
                          rw [d1, show decide ((R : Int) - 1 - (i : Int) = 0) = false by simp; omega, h2, Int.toNat_natCast, getD_some hpf]
                          simp
                        by_cases hpfi : pf = (i : Int) + 1
                        · have hb : (pf != (i : Int) + 1) = false := by simpa using hpfi
                          by_cases hez : ee < 0
                          · have d3 : decide (ee ≥ 0) = false := by simp; omega
                            have hF : (!gE ps ((R : Int) - 1 - (i : Int)) ((i : Int) + 1) (f : Int) || skipEF xss ee (f : Int)) = false := by
                              rw [hgv, decide_eq_true hpfi]
                              unfold skipEF
                              rw [show decide ((0 : Int) ≤ ee) = false by simp; omega]
                              rfl
                            replace hF := Lib.hid hF
                            replace hgv := Lib.hid hgv
                            replace hiz := Lib.hid hiz
                            replace hfz := Lib.hid hfz
                            replace hez := Lib.hid hez
                            replace hpfi := Lib.hid hpfi
                            replace hpf := Lib.hid hpf
                            replace hBf := Lib.hid hBf
                            go_wp2_with fail
                            go_meet
                            exact ⟨by rw [hF.out], rfl⟩
                          · have d3 : decide (ee ≥ 0) = true := by simp; omega
                            have hF : (!gE ps ((R : Int) - 1 - (i : Int)) ((i : Int) + 1) (f : Int) || skipEF xss ee (f : Int)) = !decide (ee ∈ B) := by
                              rw [hgv, decide_eq_true hpfi]
                              unfold skipEF inBl
                              rw [show decide ((0 : Int) ≤ ee) = true by simp; omega, show decide ((0 : Int) ≤ (f : Int)) = true by simp, Int.toNat_natCast, getD_some hBf]
                              rfl
                            replace hF := Lib.hid hF
                            replace hgv := Lib.hid hgv
                            replace hiz := Lib.hid hiz
                            replace hfz := Lib.hid hfz
                            replace hez := Lib.hid hez
                            replace hpfi := Lib.hid hpfi
                            replace hpf := Lib.hid hpf
                            replace hBf := Lib.hid hBf
                            go_wp2_with fail
                            ((with_reducible refine (l01Has_any Ak nk ck B ee _ hrB).mono ?_); rintro e w' ⟨rfl, rfl⟩)
                            go_wp2_with fail
                            go_meet
                            exact ⟨by rw [hF.out], rfl⟩
                        · have hb : (pf != (i : Int) + 1) = true := by simpa using hpfi
                          have hF : (!gE ps ((R : Int) - 1 - (i : Int)) ((i : Int) + 1) (f : Int) || skipEF xss ee (f : Int)) = true := by rw [hgv, decide_eq_false hpfi]; rfl
                          replace hF := Lib.hid hF
                          replace hgv := Lib.hid hgv
                          replace hiz := Lib.hid hiz
                          replace hfz := Lib.hid hfz
                          replace hpfi := Lib.hid hpfi
                          replace hpf := Lib.hid hpf
                          replace hBf := Lib.hid hBf
                          go_wp2_with fail
                          go_meet
                          exact ⟨by rw [hF.out], rfl⟩
                  case rest =>
                    obtain ⟨rfl, rfl⟩ := hcut
                    have hw5 : IntKind.i64.wrap (ff + 1) = ff + 1 := by rw [IntKind.wrap_i64]; omega
                    have hfs2 : Hid (ff + 1 = ((u + 1 : Nat) : Int) - 1) := Lib.hid (by have := hfs.out; omega)
                    have hst : Hid ((rngM (u + 1)).findSome? (gfF (R : Int) ps xss (i : Int) ee) = gfF (R : Int) ps xss (i : Int) ee ff) := Lib.hid (by rw [rngM_succ, fs_snoc hff.out, ← hfs.out])
                    cases hsk : (!gE ps ((R : Int) - 1 - (i : Int)) ((i : Int) + 1) ff || skipEF xss ee ff) with
                    | true =>
                      have hn : (rngM (u + 1)).findSome? (gfF (R : Int) ps xss (i : Int) ee) = none := by
                        rw [hst.out]
                        unfold gfF
                        cases hq : gE ps ((R : Int) - 1 - (i : Int)) ((i : Int) + 1) ff with
                        | false => rfl
                        | true =>
                          rw [hq] at hsk
                          have hs2 : skipEF xss ee ff = true := by simpa using hsk
                          unfold dfAt
                          rw [if_pos rfl, if_pos hs2]
                      replace hn := Lib.hid hn
                      replace hsk := Lib.hid hsk
                      go_wp2_with fail
                      clear hw5
                      go_roundw
                      case measure => first | (simp [intOf]; done) | (simp [intOf]; omega)
                      case rel => first | exact ⟨u + 1, ff + 1, by omega, rfl, hfs2, by omega, by omega, hn, by first | rfl | trivial⟩ | (repeat (first | exact ⟨⟨u + 1, ff + 1, by omega, rfl, hfs2, by omega, by omega, hn, by first | rfl | trivial⟩, rfl⟩ | refine Exists.intro _ ?_))
                    | false =>
                      obtain ⟨hq1, hq2⟩ : gE ps ((R : Int) - 1 - (i : Int)) ((i : Int) + 1) ff = true ∧ skipEF xss ee ff = false := by simpa using hsk
                      have hgf : gfF (R : Int) ps xss (i : Int) ee ff = if cntS ps xss (i : Int) ee ff n = 2 then none else some [(i : Int), ee, ff] := by
                        unfold gfF dfAt
                        rw [if_pos hq1, if_neg (by rw [hq2]; simp), hmid.out, cntS_eq]
                      replace hgf := Lib.hid hgf
                      replace hq1 := Lib.hid hq1
                      replace hq2 := Lib.hid hq2
                      replace hsk := Lib.hid hsk
                      go_wp2_with fail
                      clear hw5
                      go_loopw [7, 8] (fun cv dv wq => ∃ q m : Nat, q ≤ n ∧ dv = .int .i64 q ∧ cv = .int .i64 m ∧ Hid (m = cntS ps xss (i : Int) ee ff q) ∧ m ≤ q ∧ W1 = wq) (fun _ dv _ => n - (intOf dv).toNat)
                      case atStart => exact ⟨0, 0, by omega, rfl, rfl, Lib.hid rfl, by omega, by first | rfl | trivial⟩
                      case round =>
                        obtain ⟨q, m, hq, rfl, rfl, hm, hmq, rfl⟩ := hrel
                        by_cases hqn : q < n
                        · obtain ⟨bp, op, pd, hD, _, _, hpd, hcpd⟩ := hG.at_ hqn
                          subst hD
                          obtain ⟨b, o, Ak, nk, ck, B, hA, _, _, hBd, hcB, hrB⟩ := hR.at_ hqn
                          subst hA
                          have hqn2 : (q : Int) < (n : Int) := by omega
                          have hcs := cntS_succ ps xss (i : Int) ee ff q
                          have hgp : ps.getD q 0 = pd := getD_some hpd
                          rw [hgp] at hcs
                          replace hcs := Lib.hid hcs
                          replace hgp := Lib.hid hgp
                          replace hpd := Lib.hid hpd
                          go_upto_region 17 with fail
                          go_cut [124] from 87 to 126 (fun s124 wx => s124 = .bool (decide ((i : Int) = pd) && midB xss ee ff (q : Int)) ∧ W1 = wx)
                          case first =>
                            by_cases hpi : pd = (i : Int)
                            · have hb : (pd == (i : Int)) = true := by simpa using hpi
                              have hpi2 : decide ((i : Int) = pd) = true := by simp; omega
                              by_cases hez : ee < 0
                              · have d1 : decide (ee < 0) = true := decide_eq_true hez
                                replace hez := Lib.hid hez
                                have hE1 : (decide (ee < 0) || inBl xss ee (q : Int)) = true := by rw [d1]; rfl
                                replace hE1 := Lib.hid hE1
                                by_cases hfz : ff < 0
                                · have d2 : decide (ff < 0) = true := decide_eq_true hfz
                                  have hF : (decide ((i : Int) = pd) && midB xss ee ff (q : Int)) = true := by unfold midB; rw [hpi2, hE1.out, d2]; rfl
                                  replace hF := Lib.hid hF
                                  replace hpi := Lib.hid hpi
                                  replace hpi2 := Lib.hid hpi2
                                  replace hfz := Lib.hid hfz
                                  replace hBd := Lib.hid hBd
                                  go_wp2_with fail
                                  go_meet
                                  exact ⟨by rw [hF.out], rfl⟩
                                · have d2 : decide (ff < 0) = false := decide_eq_false hfz
                                  obtain ⟨f, rfl⟩ : ∃ z : Nat, ff = z := ⟨ff.toNat, by omega⟩
                                  obtain ⟨b3, o3, Ac, nc, cc, C, hA, _, _, hCf, hcC, hrC⟩ := hR.at_ (k := f) (by omega)
                                  injection hA with hA
                                  injection hA with hA1 hA2 _
                                  subst hA1; subst hA2
                                  have hfn2 : (f : Int) < (n : Int) := by omega
                                  have hF : (decide ((i : Int) = pd) && midB xss ee (f : Int) (q : Int)) = decide ((q : Int) ∈ C) := by
                                    unfold midB
                                    rw [hpi2, hE1.out, d2]
                                    unfold inBl
                                    rw [Int.toNat_natCast f, getD_some hCf]
                                    simp
                                  replace hF := Lib.hid hF
                                  replace hpi := Lib.hid hpi
                                  replace hpi2 := Lib.hid hpi2
                                  replace hfz := Lib.hid hfz
                                  replace hBd := Lib.hid hBd
                                  replace hCf := Lib.hid hCf
                                  go_wp2_with fail
                                  ((with_reducible refine (l01Has_any Ac nc cc C (q : Int) _ hrC).mono ?_); rintro e w' ⟨rfl, rfl⟩)
                                  go_wp2_with fail
                                  go_meet
                                  exact ⟨by rw [hF.out], rfl⟩
                              · have d1 : decide (ee < 0) = false := decide_eq_false hez
                                replace hez := Lib.hid hez
                                have hIn : inBl xss ee (q : Int) = decide (ee ∈ B) := by unfold inBl; rw [Int.toNat_natCast, getD_some hBd]
                                cases hmB : decide (ee ∈ B) with
                                | false =>
                                  have hF : (decide ((i : Int) = pd) && midB xss ee ff (q : Int)) = false := by unfold midB; rw [hpi2, d1, hIn, hmB]; rfl
                                  replace hF := Lib.hid hF
                                  replace hpi := Lib.hid hpi
                                  replace hpi2 := Lib.hid hpi2
                                  replace hBd := Lib.hid hBd
                                  replace hIn := Lib.hid hIn
                                  replace hmB := Lib.hid hmB
                                  go_wp2_with fail
                                  ((with_reducible refine (l01Has_any Ak nk ck B ee _ hrB).mono ?_); rintro e w' ⟨rfl, rfl⟩)
                                  rw [hmB.out]
                                  go_wp2_with fail
                                  go_meet
                                  exact ⟨by rw [hF.out], rfl⟩
                                | true =>
                                  have hE1 : (decide (ee < 0) || inBl xss ee (q : Int)) = true := by rw [d1, hIn, hmB]; rfl
                                  replace hE1 := Lib.hid hE1
                                  replace hIn := Lib.hid hIn
                                  by_cases hfz : ff < 0
                                  · have d2 : decide (ff < 0) = true := decide_eq_true hfz
                                    have hF : (decide ((i : Int) = pd) && midB xss ee ff (q : Int)) = true := by unfold midB; rw [hpi2, hE1.out, d2]; rfl
                                    replace hF := Lib.hid hF
                                    replace hpi := Lib.hid hpi
                                    replace hpi2 := Lib.hid hpi2
                                    replace hfz := Lib.hid hfz
                                    replace hBd := Lib.hid hBd
                                    replace hmB := Lib.hid hmB
                                    go_wp2_with fail
                                    ((with_reducible refine (l01Has_any Ak nk ck B ee _ hrB).mono ?_); rintro e w' ⟨rfl, rfl⟩)
                                    rw [hmB.out]
                                    go_wp2_with fail
                                    go_meet
                                    exact ⟨by rw [hF.out], rfl⟩
                                  · have d2 : decide (ff < 0) = false := decide_eq_false hfz
                                    obtain ⟨f, rfl⟩ : ∃ z : Nat, ff = z := ⟨ff.toNat, by omega⟩
                                    obtain ⟨b3, o3, Ac, nc, cc, C, hA, _, _, hCf, hcC, hrC⟩ := hR.at_ (k := f) (by omega)
                                    injection hA with hA
                                    injection hA with hA1 hA2 _
                                    subst hA1; subst hA2
                                    have hfn2 : (f : Int) < (n : Int) := by omega
                                    have hF : (decide ((i : Int) = pd) && midB xss ee (f : Int) (q : Int)) = decide ((q : Int) ∈ C) := by
                                      unfold midB
                                      rw [hpi2, hE1.out, d2]
                                      unfold inBl
                                      rw [Int.toNat_natCast f, getD_some hCf]
                                      simp
                                    replace hF := Lib.hid hF
                                    replace hpi := Lib.hid hpi
                                    replace hpi2 := Lib.hid hpi2
                                    replace hfz := Lib.hid hfz
                                    replace hBd := Lib.hid hBd
                                    replace hCf := Lib.hid hCf
                                    replace hmB := Lib.hid hmB
                                    go_wp2_with fail
                                    ((with_reducible refine (l01Has_any Ak nk ck B ee _ hrB).mono ?_); rintro e w' ⟨rfl, rfl⟩)
                                    rw [hmB.out]
                                    go_wp2_with fail
                                    ((with_reducible refine (l01Has_any Ac nc cc C (q : Int) _ hrC).mono ?_); rintro e w' ⟨rfl, rfl⟩)
                                    go_wp2_with fail
                                    go_meet
                                    exact ⟨by rw [hF.out], rfl⟩
                            · have hb : (pd == (i : Int)) = false := by simpa using hpi
                              have hF : (decide ((i : Int) = pd) && midB xss ee ff (q : Int)) = false := by rw [show decide ((i : Int) = pd) = false by simp; omega]; rfl
                              replace hF := Lib.hid hF
                              replace hpi := Lib.hid hpi
                              replace hBd := Lib.hid hBd
                              go_wp2_with fail
                              go_meet
                              exact ⟨by rw [hF.out], rfl⟩
                          case rest =>
                            obtain ⟨rfl, rfl⟩ := hcut
                            cases hmb : (decide ((i : Int) = pd) && midB xss ee ff (q : Int)) with
                            | true =>
                              have hm2 : m + 1 = cntS ps xss (i : Int) ee ff (q + 1) := by rw [hcs.out, if_pos hmb, ← hm.out]
                              replace hm2 := Lib.hid hm2
                              replace hmb := Lib.hid hmb
                              go_wp2_with fail
                              go_roundw
                              case measure => simp [intOf]; omega
                              case rel => first | exact ⟨q + 1, m + 1, by omega, by go_num, by go_num, hm2, by omega, by first | rfl | trivial⟩ | (repeat (first | exact ⟨⟨q + 1, m + 1, by omega, by go_num, by go_num, hm2, by omega, by first | rfl | trivial⟩, rfl⟩ | refine Exists.intro _ ?_))
                            | false =>
                              have hm2 : m = cntS ps xss (i : Int) ee ff (q + 1) := by rw [hcs.out, if_neg (by rw [hmb]; simp), ← hm.out]; rfl
                              replace hm2 := Lib.hid hm2
                              replace hmb := Lib.hid hmb
                              go_wp2_with fail
                              go_roundw
                              case measure => simp [intOf]; omega
                              case rel => first | exact ⟨q + 1, m, by omega, by go_num, rfl, hm2, by omega, by first | rfl | trivial⟩ | (repeat (first | exact ⟨⟨q + 1, m, by omega, by go_num, rfl, hm2, by omega, by first | rfl | trivial⟩, rfl⟩ | refine Exists.intro _ ?_))
                        · have hqq : q = n := by omega
                          subst hqq
                          have hw5 : IntKind.i64.wrap (ff + 1) = ff + 1 := by rw [IntKind.wrap_i64]; omega
                          by_cases hm2 : m = 2
                          · have hne : ((m : Int) != 2) = false := by simp; omega
                            have hn : (rngM (u + 1)).findSome? (gfF (R : Int) ps xss (i : Int) ee) = none := by
                              rw [hst.out, hgf.out, if_pos (by rw [← hm.out]; exact hm2)]
                            replace hn := Lib.hid hn
                            replace hm2 := Lib.hid hm2
                            go_wp2_with fail
                            clear hw5
                            go_roundw
                            case measure => first | (simp [intOf]; done) | (simp [intOf]; omega)
                            case rel => first | exact ⟨u + 1, ff + 1, by omega, rfl, hfs2, by omega, by omega, hn, by first | rfl | trivial⟩ | (repeat (first | exact ⟨⟨u + 1, ff + 1, by omega, rfl, hfs2, by omega, by omega, hn, by first | rfl | trivial⟩, rfl⟩ | refine Exists.intro _ ?_))
                          · have hne : ((m : Int) != 2) = true := by simp; omega
                            have hy : gfF (R : Int) ps xss (i : Int) ee ff = some [(i : Int), ee, ff] := by rw [hgf.out, if_neg (by rw [← hm.out]; exact hm2)]
                            have hy2 : gfE (R : Int) ps xss (i : Int) ee = some [(i : Int), ee, ff] := by rw [hgfE.out, ← hallF.out ee]; exact rngM_hit hff.out hun (by rw [← hfs.out]; exact hy)
                            have hy3 : dfI (R : Int) ps xss (i : Int) = some [(i : Int), ee, ff] := by rw [← hall.out]; exact rngM_hit hfe.out hsn (by rw [← hes.out]; exact hy2)
                            have hy4 : df (R : Int) ps xss = some [(i : Int), ee, ff] := by rw [hdf.out]; exact rngI_hit hfi.out hiR hy3
                            have hFa : Hid ([(i : Int), ee, ff] = (df (R : Int) ps xss).getD []) := Lib.hid (by rw [hy4]; rfl)
                            clear hy hy2 hy3 hy4 hw5
                            replace hm2 := Lib.hid hm2
                            have hO3 := own_lit3 W1 2 (i : Int) ee ff (lo := w.heap.size) (by omega)
                            rw [hz1] at hO3
                            go_wp2_with fail
                            go_ret
                            exact ⟨_, _, _, [(i : Int), ee, ff], rfl, hFa, hO3.more (Nat.le_refl _) (by simp; omega), hB.alloc (by omega) _⟩
                · have hun : u = n + 1 := by have := hfs.out; omega
                  have hw2 : IntKind.i64.wrap (ee + 1) = ee + 1 := by rw [IntKind.wrap_i64]; omega
                  have hn : (rngM (s + 1)).findSome? (gfE (R : Int) ps xss (i : Int)) = none := by
                    rw [rngM_succ, fs_snoc hfe.out, ← hes.out, hgfE.out, ← hallF.out ee, ← hun]
                    exact hff.out
                  replace hn := Lib.hid hn
                  go_wp2_with fail
                  clear hw2
                  go_roundw
                  case measure => first | (simp [intOf]; done) | (simp [intOf]; omega)
                  case rel => first | exact ⟨s + 1, ee + 1, by omega, rfl, hes2, by omega, by omega, hn, by first | rfl | trivial⟩ | (repeat (first | exact ⟨⟨s + 1, ee + 1, by omega, rfl, hes2, by omega, by omega, hn, by first | rfl | trivial⟩, rfl⟩ | refine Exists.intro _ ?_))
        · have hsn : s = n + 1 := by have := hes.out; omega
          have hw6 : IntKind.i64.wrap ((i : Int) + 1) = (i : Int) + 1 := by rw [IntKind.wrap_i64]; omega
          have hn : (rngI (i + 1)).findSome? (dfI (R : Int) ps xss) = none := by
            rw [rngI_succ, fs_snoc hfi.out, ← hall.out, ← hsn]
            exact hfe.out
          replace hn := Lib.hid hn
          go_wp2_with fail
          clear hw6
          go_roundw
          case measure => simp [intOf]; omega
          case rel => first | exact ⟨i + 1, by omega, by go_num, hn, by first | rfl | trivial⟩ | (repeat (first | exact ⟨⟨i + 1, by omega, by go_num, hn, by first | rfl | trivial⟩, rfl⟩ | refine Exists.intro _ ?_))
    · have hii : i = R := by omega
      subst hii
      have hFa : Hid (([] : List Int) = (df (i : Int) ps xss).getD []) := Lib.hid (by rw [hdf.out, hfi.out]; rfl)
      have hO3 := own_lit0 W1 2 (lo := w.heap.size) (by omega)
      rw [hz1] at hO3
      go_wp2_with fail
      go_ret
      exact ⟨_, _, _, [], rfl, hFa, hO3.more (Nat.le_refl _) (by simp; omega), hB.alloc (by omega) _⟩
end Go.Proofs.Ytpbmhhopgjikhaa
