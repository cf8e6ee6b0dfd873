/- Walk: the program's first place where a poset has no diamond. No condition but the sizes of memory. -/
import Derived.Test.YtpbmhhopgjikhaaDfP
import Derived.Test.YtpbmhhopgjikhaaLawP
import Derived.Test.YtpbmhhopgjikhaaPos
import Derived.Deep.Cut
import Derived.Deep.CutRange
namespace Go.Proofs.Ytpbmhhopgjikhaa
open Go.RowKit
set_option linter.unusedVariables false
set_option maxRecDepth 100000
theorem isBelow_any (b : Nat) (A : Option Addr) (n c : Nat) (xss : List (List Int)) (e : Int) (f : Nat) (w : World) {lo hi : Nat} (hc : w.cell? ⟨b, 2, none⟩ = some (.slice A n c)) (h : RS w lo hi A n xss) (hf : f < n) (hbig : ∀ B, xss[f]? = some B → B.length ≤ 1048576) (hs : ∀ B, xss[f]? = some B → ∀ k, k + 1 < B.length → B.getD k 0 ≤ B.getD (k + 1) 0) :
    Calls Try.prog 93 #[.pointer (some ⟨b, 0, none⟩), .int .i64 e, .int .i64 (f : Int)] w fun e' w' => e' = .returned (.bool (inBl xss e (f : Int))) ∧ w = w' := by
  obtain ⟨b1, o1, Ak, nk, ck, B, rfl, _, _, hB, hcB, hrB⟩ := h.at_ hf
  have hm := h.max
  have hnk : nk ≤ 1048576 := by have := hbig B hB; have := hrB.len; omega
  have hF : inBl xss e (f : Int) = decide (e ∈ B) := by unfold inBl; rw [Int.toNat_natCast, getD_some hB]
  have hsB := hs B hB
  replace hF := Lib.hid hF
  replace hB := Lib.hid hB
  replace hsB := Lib.hid hsB
  clear hs hbig
  go_enter Try.func93, Try.ntmps93
  go_wp2_with fail
  ((with_reducible refine (bin_any Ak nk ck B e _ hrB hnk hsB.out).mono ?_); rintro e w' ⟨p, rfl, rfl⟩)
  go_wp2_with fail
  go_ret
  exact ⟨ret_bool hF.out.symm, rfl⟩
theorem ofRank_any (b : Nat) (r : Int) (D : Option Addr) (n c : Nat) (ps : List Int) (i : Int) (w : World) {lo hi : Nat} (hc0 : w.cell? ⟨b, 0, none⟩ = some (.int .i64 r)) (hc1 : w.cell? ⟨b, 1, none⟩ = some (.slice D n c)) (h : RI w lo hi D n ps) (hhi : hi ≤ w.heap.size) (hn : n ≤ 1048576) (hr : 1 ≤ r ∧ r ≤ 5) :
    Calls Try.prog 92 #[.pointer (some ⟨b, 0, none⟩), .int .i64 i] w fun e' w' => ∃ (A1 : Option Addr) (n1 c1 : Nat), e' = .returned (.slice A1 n1 c1) ∧ Own w' w.heap.size w'.heap.size 2 A1 n1 c1 ((ofRk r ps i).map (Value.int .i64)) ∧ Below w.heap.size w w' := by
  have hl := h.len
  have hwr : IntKind.i64.wrap (r - 1) = r - 1 := by rw [IntKind.wrap_i64]; omega
  cases hin : inR 0 (r - 1) i with
  | false =>
    have hF : ofRk r ps i = [-1] := by unfold ofRk; rw [hin]; rfl
    have hin2 : (decide ((0 : Int) ≤ i) && decide (i ≤ r - 1)) = false := hin
    rw [hF]
    replace hF := Lib.hid hF
    replace hin := Lib.hid hin
    replace hin2 := Lib.hid hin2
    go_enter Try.func92, Try.ntmps92
    go_wp2_with fail
    ((with_reducible refine (within_any _ _ _ _).mono ?_); rintro e w' ⟨rfl, rfl⟩)
    rw [hin2.out]
    go_wp2_with fail
    go_ret
    exact ⟨_, _, _, rfl, (own_lit1 w 2 (-1) (Nat.le_refl _)).more (Nat.le_refl _) (by simp), (Below.refl _ _).alloc (Nat.le_refl _) _⟩
  | true =>
    have hF : ofRk r ps i = plc ps i n := by unfold ofRk; rw [if_pos hin, hl]
    have hin2 : (decide ((0 : Int) ≤ i) && decide (i ≤ r - 1)) = true := hin
    rw [hF]
    replace hF := Lib.hid hF
    replace hin := Lib.hid hin
    replace hin2 := Lib.hid hin2
    go_enter Try.func92, Try.ntmps92
    go_wp2_with fail
    ((with_reducible refine (within_any _ _ _ _).mono ?_); rintro e w' ⟨rfl, rfl⟩)
    rw [hin2.out]
    go_wp2_with fail
    ((with_reducible refine (placesOf_any D n c ps i w h hhi hn).mono ?_); rintro e w1 ⟨A1, n1, c1, rfl, o1, f1⟩)
    go_wp2_with fail
    go_ret
    exact ⟨_, _, _, rfl, o1, f1⟩
/-- what the search hands back -/
def FaultOf (d : Option (List Int)) (w' : World) (lo : Nat) (v : Value) : Prop :=
  (d = none → v = .slice none 0 0) ∧ ∀ l, d = some l → ∃ g, v = .slice (some ⟨g, 0, none⟩) 3 3 ∧ Own w' lo w'.heap.size 2 (some ⟨g, 0, none⟩) 3 3 (l.map (Value.int .i64))
theorem FaultOf.some_ {d : Option (List Int)} {w' : World} {lo g : Nat} {l : List Int} (h : d = some l) (ho : Own w' lo w'.heap.size 2 (some ⟨g, 0, none⟩) 3 3 (l.map (Value.int .i64))) : Hid (FaultOf d w' lo (.slice (some ⟨g, 0, none⟩) 3 3)) :=
  Lib.hid (by subst h; exact ⟨(fun h => by cases h), fun l2 h2 => by cases h2; exact ⟨_, rfl, ho⟩⟩)
theorem FaultOf.none_ {d : Option (List Int)} {w' : World} {lo : Nat} (h : d = none) : Hid (FaultOf d w' lo (.slice none 0 0)) := Lib.hid (by subst h; exact ⟨fun _ => rfl, (fun l h => by cases h)⟩)
theorem own_lit3 (w : World) (T : TypeId) (x y z : Int) {lo : Nat} (hlo : lo ≤ w.heap.size) : Own (w.alloc (.cells #[.int .i64 x, .int .i64 y, .int .i64 z] T)) lo (w.heap.size + 1) T (some ⟨w.heap.size, 0, none⟩) 3 3 ([x, y, z].map (Value.int .i64)) := by
  have h0 := World.ownsRow_lit (e := T) (base := lo) (size := 1) w #[.int .i64 x, .int .i64 y, .int .i64 z] 3 hlo (by simp only [maxLen]; omega) rfl
  have h1 := Own.of_row h0
  simpa using h1
set_option maxHeartbeats 8000000 in
theorem diamondFault_any (r : Int) (D : Option Addr) (e0 n : Nat) (ps : List Int) (A : Option Addr) (c : Nat) (xss : List (List Int)) (w : World) {lo hi lo' hi' : Nat} (g : RI w lo hi D n ps) (hg : hi ≤ w.heap.size) (h : RS w lo' hi' A n xss) (hhi : hi' ≤ w.heap.size) (hp : PosP r ps xss) :
    Calls Try.prog 62 #[.agg #[.int .i64 r, .slice D n e0, .slice A n c]] w fun e' w' => ∃ v, e' = .returned v ∧ Hid (FaultOf (df r ps xss) w' w.heap.size v) ∧ Below w.heap.size w w' := by
  have hl := g.len
  have hl1 := h.len
  have hn5 : n ≤ 500 := by have := hp.n5; omega
  have hr15 : 1 ≤ r ∧ r ≤ 5 := ⟨hp.r1, hp.r5⟩
  have hR := rs_alloc h hhi (.cells #[.int .i64 r, .slice D n e0, .slice A n c] 28)
  have hG := ri_alloc g hg (.cells #[.int .i64 r, .slice D n e0, .slice A n c] 28)
  have hB : Below w.heap.size w (w.alloc (.cells #[.int .i64 r, .slice D n e0, .slice A n c] 28)) := (Below.refl _ _).alloc (Nat.le_refl _) _
  have p0 : (w.alloc (.cells #[.int .i64 r, .slice D n e0, .slice A n c] 28)).heap[w.heap.size]? = some (.cells #[.int .i64 r, .slice D n e0, .slice A n c] 28 (0, 0)) := heap_new _ _ _ rfl
  have hbig : ∀ (f : Nat) (B : List Int), xss[f]? = some B → B.length ≤ 1048576 := fun f B hB => by have := bel_len (hp.bel f B hB); omega
  have hsrt : ∀ (f : Nat) (B : List Int), xss[f]? = some B → ∀ k, k + 1 < B.length → B.getD k 0 ≤ B.getD (k + 1) 0 := fun f B hB => bel_srt (hp.bel f B hB)
  obtain ⟨R, rfl⟩ : ∃ R : Nat, r = R := ⟨r.toNat, by omega⟩
  replace p0 := Lib.hid p0
  replace hl := Lib.hid hl
  replace hl1 := Lib.hid hl1
  replace hp := Lib.hid hp
  replace hbig := Lib.hid hbig
  replace hsrt := Lib.hid hsrt
  have hdf : Hid (df (R : Int) ps xss = (rngI R).findSome? (dfI (R : Int) ps xss)) := Lib.hid (by unfold df; rw [Int.toNat_natCast])
  go_enter Try.func62, Try.ntmps62
  go_wp2_with fail
  obtain ⟨W1, hW⟩ : ∃ W1 : World, w.alloc (.cells #[.int .i64 (R : Int), .slice D n e0, .slice A n c] 28) = W1 := ⟨_, rfl⟩
  have hz1 : W1.heap.size = w.heap.size + 1 := by rw [← hW]; simp
  rw [hW] at hR hG hB p0 ⊢
  clear hW h g
  have cells : ∀ wq : World, Below W1.heap.size W1 wq → wq.cell? ⟨w.heap.size, 0, none⟩ = some (.int .i64 (R : Int)) ∧ wq.cell? ⟨w.heap.size, 1, none⟩ = some (.slice D n e0) ∧ wq.cell? ⟨w.heap.size, 2, none⟩ = some (.slice A n c) := fun wq hb => by
    have P := (hb.block w.heap.size (by omega)).trans p0.out
    exact ⟨by rw [cell_of_row _ _ _ _ _ _ P]; rfl, by rw [cell_of_row _ _ _ _ _ _ P]; rfl, by rw [cell_of_row _ _ _ _ _ _ P]; rfl⟩
  replace cells := Lib.hid cells
  go_loopw [15] (fun iv wq => ∃ i : Nat, i ≤ R ∧ iv = .int .i64 i ∧ Hid ((rngI i).findSome? (dfI (R : Int) ps xss) = none) ∧ Below W1.heap.size W1 wq) (fun iv _ => R - (intOf iv).toNat)
  case atStart => exact ⟨0, by omega, rfl, Lib.hid rfl, Below.refl _ _⟩
  case round =>
    obtain ⟨i, hi0, rfl, hfi, hb⟩ := hrel
    have hbz := hb.size
    obtain ⟨c0, c1, c2⟩ := cells.out wr hb
    by_cases hiR : i < R
    · have hw1 : IntKind.i64.wrap ((i : Int) + 1) = (i : Int) + 1 := by rw [IntKind.wrap_i64]; omega
      have hw2 : IntKind.i64.wrap ((i : Int) - 1) = (i : Int) - 1 := by rw [IntKind.wrap_i64]; omega
      go_wp2_with fail
      ((with_reducible refine (ofRank_any w.heap.size (R : Int) D n e0 ps (i : Int) wr c0 c1 (hG.below hb (by omega)) (by omega) (by omega) hr15).mono ?_); rintro e2 w2 ⟨A2, n2, k2, rfl, o2, f2⟩)
      have y2 := f2.size
      have b2 : Below W1.heap.size W1 w2 := below_then hb f2 (by omega)
      clear c0 c1 c2
      obtain ⟨c0, c1, c2⟩ := cells.out w2 b2
      go_wp2_with fail
      ((with_reducible refine (ofRank_any w.heap.size (R : Int) D n e0 ps ((i : Int) + 1) w2 c0 c1 (hG.below b2 (by omega)) (by omega) (by omega) hr15).mono ?_); rintro e3 w3 ⟨A3, n3, k3, rfl, o3, f3⟩)
      have y3 := f3.size
      have b3 : Below W1.heap.size W1 w3 := below_then b2 f3 (by omega)
      clear c0 c1 c2
      obtain ⟨c0, c1, c2⟩ := cells.out w3 b3
      go_wp2_with fail
      ((with_reducible refine (ofRank_any w.heap.size (R : Int) D n e0 ps ((i : Int) - 1) w3 c0 c1 (hG.below b3 (by omega)) (by omega) (by omega) hr15).mono ?_); rintro e4 w4 ⟨A4, n4, k4, rfl, o4, f4⟩)
      have y4 := f4.size
      have b4 : Below W1.heap.size W1 w4 := below_then b3 f4 (by omega)
      clear c0 c1 c2
      obtain ⟨c0, c1, c2⟩ := cells.out w4 b4
      have o2 := (o2.below f3 (Nat.le_refl _)).below f4 (by omega)
      have o3 := o3.below f4 (Nat.le_refl _)
      clear hb b2 b3 f2 f3 f4
      have hdI : Hid (dfI (R : Int) ps xss (i : Int) = (ofRk (R : Int) ps ((i : Int) - 1)).findSome? (dfE (R : Int) ps xss (i : Int))) := Lib.hid rfl
      have r2 : ∀ x ∈ ofRk (R : Int) ps (i : Int), 0 ≤ x ∧ x < n := fun x hx => by
        have hin : inR 0 ((R : Int) - 1) (i : Int) = true := inR_iff.2 (by omega)
        unfold ofRk at hx
        rw [if_pos hin] at hx
        have h1 := plc_mem.1 hx
        have := hl.out
        omega
      have r3 : ∀ x ∈ ofRk (R : Int) ps ((i : Int) + 1), x = -1 ∨ (0 ≤ x ∧ x < n) := fun x hx => (ofRk_rng hx).imp id (fun hh => by have := hl.out; omega)
      have r4 : ∀ x ∈ ofRk (R : Int) ps ((i : Int) - 1), x = -1 ∨ (0 ≤ x ∧ x < n) := fun x hx => (ofRk_rng hx).imp id (fun hh => by have := hl.out; omega)
      have e3 : Hid (∀ ee, dfE (R : Int) ps xss (i : Int) ee = (ofRk (R : Int) ps ((i : Int) + 1)).findSome? (dfAt xss (ofRk (R : Int) ps (i : Int)) (i : Int) ee)) := Lib.hid (fun ee => rfl)
      have m2 := o2.lenI
      have m3 := o3.lenI
      have m4 := o4.lenI
      have g2 : n2 ≤ n + 1 := by have := ofRk_le (R : Int) ps (i : Int); have := hl.out; omega
      have g3 : n3 ≤ n + 1 := by have := ofRk_le (R : Int) ps ((i : Int) + 1); have := hl.out; omega
      have g4 : n4 ≤ n + 1 := by have := ofRk_le (R : Int) ps ((i : Int) - 1); have := hl.out; omega
      generalize ofRk (R : Int) ps (i : Int) = L2 at *
      generalize ofRk (R : Int) ps ((i : Int) + 1) = L3 at *
      generalize ofRk (R : Int) ps ((i : Int) - 1) = L4 at *
      replace r2 := Lib.hid r2
      replace r3 := Lib.hid r3
      replace r4 := Lib.hid r4
      replace m2 := Lib.hid m2
      replace m3 := Lib.hid m3
      replace m4 := Lib.hid m4
      go_wp2_with fail
      clear hw1 hw2
      go_loopw [27] (fun jv wq => ∃ j : Nat, j ≤ n4 ∧ jv = .int .i64 j ∧ Hid ((L4.take j).findSome? (dfE (R : Int) ps xss (i : Int)) = none) ∧ w4 = wq) (fun jv _ => n4 - (intOf jv).toNat)
      case atStart => exact ⟨0, by omega, rfl, Lib.hid rfl, by first | rfl | trivial⟩
      case round =>
        obtain ⟨j, hj, rfl, hfe, rfl⟩ := hrel
        by_cases hjn : j < n4
        · obtain ⟨gb, ee, rfl, _, _, _, hee, hce, _⟩ := o4.atI hjn
          have hee2 := r4.out ee (mem_of_get? hee)
          have hE64 : -1 ≤ ee ∧ ee < n := by rcases hee2 with h | h <;> omega
          replace hee := Lib.hid hee
          go_wp2_with fail
          go_loopw [33] (fun kv wq => ∃ k : Nat, k ≤ n3 ∧ kv = .int .i64 k ∧ Hid ((L3.take k).findSome? (dfAt xss L2 (i : Int) ee) = none) ∧ w4 = wq) (fun kv _ => n3 - (intOf kv).toNat)
          case atStart => exact ⟨0, by omega, rfl, Lib.hid rfl, by first | rfl | trivial⟩
          case round =>
            obtain ⟨k, hk, rfl, hff, rfl⟩ := hrel
            by_cases hkn : k < n3
            · obtain ⟨gc, ff, rfl, _, _, _, hffk, hcf, _⟩ := o3.atI hkn
              have hff2 := r3.out ff (mem_of_get? hffk)
              have hstep := fs_take hff.out hffk
              replace hffk := Lib.hid hffk
              replace hstep := Lib.hid hstep
              go_upto_region 11 with fail
              go_cut [48] from 34 to 80 (fun s48 wx => s48 = .bool (skipEF xss ee ff) ∧ w4 = wx)
              case first =>
                rcases hee2 with h | ⟨h0, h1⟩
                · subst h
                  have hF : skipEF xss (-1) ff = false := by simp [skipEF]
                  replace hF := Lib.hid hF
                  go_wp2_with fail
                  go_meet
                  exact ⟨by rw [hF.out], rfl⟩
                · have d1 : decide (ee ≥ 0) = true := by simp; omega
                  rcases hff2 with h | ⟨h2, h3⟩
                  · subst h
                    have hF : skipEF xss ee (-1) = false := by simp [skipEF]
                    replace hF := Lib.hid hF
                    go_wp2_with fail
                    go_meet
                    exact ⟨by rw [hF.out], rfl⟩
                  · obtain ⟨f, rfl⟩ : ∃ z : Nat, ff = z := ⟨ff.toNat, by omega⟩
                    have hF : skipEF xss ee (f : Int) = !inBl xss ee (f : Int) := by simp [skipEF, h0]
                    replace hF := Lib.hid hF
                    go_wp2_with fail
                    ((with_reducible refine (isBelow_any w.heap.size A n c xss ee f w4 c2 (hR.below b4 (by omega)) (by omega) (hbig.out f) (hsrt.out f)).mono ?_); rintro e' w' ⟨rfl, rfl⟩)
                    go_wp2_with fail
                    go_meet
                    exact ⟨by rw [hF.out], rfl⟩
              case rest =>
                obtain ⟨rfl, rfl⟩ := hcut
                cases hsk : skipEF xss ee ff with
                | true =>
                  have hn : (L3.take (k + 1)).findSome? (dfAt xss L2 (i : Int) ee) = none := by rw [hstep.out]; unfold dfAt; rw [if_pos hsk]
                  replace hn := Lib.hid hn
                  replace hsk := Lib.hid hsk
                  go_wp2_with fail
                  go_roundw
                  case measure => simp [intOf]; omega
                  case rel => first | exact ⟨k + 1, by omega, by go_num, hn, by first | rfl | trivial⟩ | (repeat (first | exact ⟨⟨k + 1, by omega, by go_num, hn, by first | rfl | trivial⟩, rfl⟩ | refine Exists.intro _ ?_))
                | false =>
                  have hdA : dfAt xss L2 (i : Int) ee ff = if cntM xss ee ff L2 = 2 then none else some [(i : Int), ee, ff] := by unfold dfAt; rw [if_neg (by rw [hsk]; simp)]
                  replace hdA := Lib.hid hdA
                  replace hsk := Lib.hid hsk
                  go_wp2_with fail
                  go_loopw [10, 51] (fun cv qv wq => ∃ q m : Nat, q ≤ n2 ∧ qv = .int .i64 q ∧ cv = .int .i64 m ∧ Hid (m = cntM xss ee ff (L2.take q)) ∧ m ≤ q ∧ w4 = wq) (fun _ qv _ => n2 - (intOf qv).toNat)
                  case atStart => exact ⟨0, 0, by omega, rfl, rfl, Lib.hid (by simp [cntM]), by omega, by first | rfl | trivial⟩
                  case round =>
                    obtain ⟨q, m, hq, rfl, rfl, hm, hmq, rfl⟩ := hrel
                    by_cases hqn : q < n2
                    · obtain ⟨gd, dd, rfl, _, _, _, hdd, hcd, _⟩ := o2.atI hqn
                      obtain ⟨hd0, hd1⟩ := r2.out dd (mem_of_get? hdd)
                      obtain ⟨d, rfl⟩ : ∃ z : Nat, dd = z := ⟨dd.toNat, by omega⟩
                      have hcn : cntM xss ee ff (L2.take (q + 1)) = cntM xss ee ff (L2.take q) + (if midB xss ee ff (d : Int) = true then 1 else 0) := by
                        unfold cntM
                        rw [take_succ_of hdd, List.filter_append, List.length_append]
                        congr 1
                        by_cases hmb : midB xss ee ff (d : Int) = true
                        · rw [if_pos hmb]; simp [hmb]
                        · rw [if_neg hmb]; simp [hmb]
                      replace hcn := Lib.hid hcn
                      replace hdd := Lib.hid hdd
                      go_upto_region 16 with fail
                      go_cut [70] from 52 to 73 (fun s70 wx => s70 = .bool (midB xss ee ff (d : Int)) ∧ w4 = wx)
                      case first =>
                        rcases hee2 with h | ⟨h0, h1⟩
                        · subst h
                          rcases hff2 with h | ⟨h2, h3⟩
                          · subst h
                            have hF : midB xss (-1) (-1) (d : Int) = true := by simp [midB]
                            replace hF := Lib.hid hF
                            go_wp2_with fail
                            go_meet
                            exact ⟨by rw [hF.out], rfl⟩
                          · obtain ⟨f, rfl⟩ : ∃ z : Nat, ff = z := ⟨ff.toNat, by omega⟩
                            have hF : midB xss (-1) (f : Int) (d : Int) = inBl xss (d : Int) (f : Int) := by
                              have h4 : ¬ (f : Int) < 0 := by omega
                              simp [midB, h4]
                            have d2 : decide ((f : Int) < 0) = false := by simp
                            replace hF := Lib.hid hF
                            go_wp2_with fail
                            ((with_reducible refine (isBelow_any w.heap.size A n c xss (d : Int) f w4 c2 (hR.below b4 (by omega)) (by omega) (hbig.out f) (hsrt.out f)).mono ?_); rintro e' w' ⟨rfl, rfl⟩)
                            go_wp2_with fail
                            go_meet
                            exact ⟨by rw [hF.out], rfl⟩
                        · have d1 : decide (ee < 0) = false := by simp; omega
                          cases hb1 : inBl xss ee (d : Int) with
                          | false =>
                            have hF : midB xss ee ff (d : Int) = false := by unfold midB; rw [d1, hb1]; rfl
                            replace hF := Lib.hid hF
                            replace hb1 := Lib.hid hb1
                            go_wp2_with fail
                            ((with_reducible refine (isBelow_any w.heap.size A n c xss ee d w4 c2 (hR.below b4 (by omega)) (by omega) (hbig.out d) (hsrt.out d)).mono ?_); rintro e' w' ⟨rfl, rfl⟩)
                            rw [hb1.out]
                            go_wp2_with fail
                            go_meet
                            exact ⟨by rw [hF.out], rfl⟩
                          | true =>
                            rcases hff2 with h | ⟨h2, h3⟩
                            · subst h
                              have hF : midB xss ee (-1) (d : Int) = true := by unfold midB; rw [d1, hb1]; rfl
                              replace hF := Lib.hid hF
                              replace hb1 := Lib.hid hb1
                              go_wp2_with fail
                              ((with_reducible refine (isBelow_any w.heap.size A n c xss ee d w4 c2 (hR.below b4 (by omega)) (by omega) (hbig.out d) (hsrt.out d)).mono ?_); rintro e' w' ⟨rfl, rfl⟩)
                              rw [hb1.out]
                              go_wp2_with fail
                              go_meet
                              exact ⟨by rw [hF.out], rfl⟩
                            · obtain ⟨f, rfl⟩ : ∃ z : Nat, ff = z := ⟨ff.toNat, by omega⟩
                              have hF : midB xss ee (f : Int) (d : Int) = inBl xss (d : Int) (f : Int) := by
                                have h4 : ¬ (f : Int) < 0 := by omega
                                unfold midB
                                rw [hb1]
                                simp [h4]
                              have d2 : decide ((f : Int) < 0) = false := by simp
                              replace hF := Lib.hid hF
                              replace hb1 := Lib.hid hb1
                              go_wp2_with fail
                              ((with_reducible refine (isBelow_any w.heap.size A n c xss ee d w4 c2 (hR.below b4 (by omega)) (by omega) (hbig.out d) (hsrt.out d)).mono ?_); rintro e' w' ⟨rfl, rfl⟩)
                              rw [hb1.out]
                              go_wp2_with fail
                              ((with_reducible refine (isBelow_any w.heap.size A n c xss (d : Int) f w4 c2 (hR.below b4 (by omega)) (by omega) (hbig.out f) (hsrt.out f)).mono ?_); rintro e' w' ⟨rfl, rfl⟩)
                              go_wp2_with fail
                              go_meet
                              exact ⟨by rw [hF.out], rfl⟩
                      case rest =>
                        obtain ⟨rfl, rfl⟩ := hcut
                        cases hmb : midB xss ee ff (d : Int) with
                        | true =>
                          have hm2 : m + 1 = cntM xss ee ff (L2.take (q + 1)) := by rw [hcn.out, if_pos hmb, ← hm.out]
                          replace hm2 := Lib.hid hm2
                          replace hmb := Lib.hid hmb
                          go_wp2_with fail
                          go_roundw
                          case measure => simp [intOf]; omega
                          case rel => first | exact ⟨q + 1, m + 1, by omega, by go_num, by go_num, hm2, by omega, by first | rfl | trivial⟩ | (repeat (first | exact ⟨⟨q + 1, m + 1, by omega, by go_num, by go_num, hm2, by omega, by first | rfl | trivial⟩, rfl⟩ | refine Exists.intro _ ?_))
                        | false =>
                          have hm2 : m = cntM xss ee ff (L2.take (q + 1)) := by rw [hcn.out, if_neg (by rw [hmb]; simp), ← hm.out]; rfl
                          replace hm2 := Lib.hid hm2
                          replace hmb := Lib.hid hmb
                          go_wp2_with fail
                          go_roundw
                          case measure => simp [intOf]; omega
                          case rel => first | exact ⟨q + 1, m, by omega, by go_num, rfl, hm2, by omega, by first | rfl | trivial⟩ | (repeat (first | exact ⟨⟨q + 1, m, by omega, by go_num, rfl, hm2, by omega, by first | rfl | trivial⟩, rfl⟩ | refine Exists.intro _ ?_))
                    · have hqq : q = n2 := by omega
                      subst hqq
                      have hmL : m = cntM xss ee ff L2 := by have := hm.out; rwa [List.take_of_length_le (by have := m2.out; omega)] at this
                      by_cases hm2 : m = 2
                      · have hn : (L3.take (k + 1)).findSome? (dfAt xss L2 (i : Int) ee) = none := by rw [hstep.out, hdA.out, if_pos (by omega)]
                        have hne : ((m : Int) != 2) = false := by simp; omega
                        replace hn := Lib.hid hn
                        replace hmL := Lib.hid hmL
                        replace hm2 := Lib.hid hm2
                        go_wp2_with fail
                        go_roundw
                        case measure => simp [intOf]; omega
                        case rel => first | exact ⟨k + 1, by omega, by go_num, hn, by first | rfl | trivial⟩ | (repeat (first | exact ⟨⟨k + 1, by omega, by go_num, hn, by first | rfl | trivial⟩, rfl⟩ | refine Exists.intro _ ?_))
                      · have hne : ((m : Int) != 2) = true := by simp; omega
                        have hy : dfAt xss L2 (i : Int) ee ff = some [(i : Int), ee, ff] := by rw [hdA.out, if_neg (by omega)]
                        have hy2 : dfE (R : Int) ps xss (i : Int) ee = some [(i : Int), ee, ff] := by rw [e3.out]; exact fs_hit hff.out hffk.out hy
                        have hy3 : dfI (R : Int) ps xss (i : Int) = some [(i : Int), ee, ff] := by rw [hdI.out]; exact fs_hit hfe.out hee.out hy2
                        have hy4 : df (R : Int) ps xss = some [(i : Int), ee, ff] := by rw [hdf.out]; exact rngI_hit hfi.out hiR hy3
                        have hFa : ∀ wq : World, Own wq w.heap.size wq.heap.size 2 (some ⟨w4.heap.size, 0, none⟩) 3 3 ([(i : Int), ee, ff].map (Value.int .i64)) → Hid (FaultOf (df (R : Int) ps xss) wq w.heap.size (.slice (some ⟨w4.heap.size, 0, none⟩) 3 3)) := fun wq ho => FaultOf.some_ hy4 ho
                        clear hy hy2 hy3 hy4
                        replace hFa := Lib.hid hFa
                        replace hmL := Lib.hid hmL
                        replace hm2 := Lib.hid hm2
                        go_wp2_with fail
                        go_ret
                        exact ⟨_, rfl, hFa.out _ (((own_lit3 w4 2 (i : Int) ee ff (Nat.le_refl _)).more (by omega) (by simp))), hB.trans ((b4.alloc (by omega) _).mono (by omega))⟩
            · have hkk : k = n3 := by omega
              subst hkk
              have hn : (L4.take (j + 1)).findSome? (dfE (R : Int) ps xss (i : Int)) = none := by
                rw [fs_take hfe.out hee.out, e3.out]
                have := hff.out
                rwa [List.take_of_length_le (by have := m3.out; omega)] at this
              replace hn := Lib.hid hn
              go_wp2_with fail
              go_roundw
              case measure => simp [intOf]; omega
              case rel => first | exact ⟨j + 1, by omega, by go_num, hn, by first | rfl | trivial⟩ | (repeat (first | exact ⟨⟨j + 1, by omega, by go_num, hn, by first | rfl | trivial⟩, rfl⟩ | refine Exists.intro _ ?_))
        · have hjj : j = n4 := by omega
          subst hjj
          have hn : (rngI (i + 1)).findSome? (dfI (R : Int) ps xss) = none := by
            rw [rngI_succ, fs_snoc hfi.out, hdI.out]
            have := hfe.out
            rwa [List.take_of_length_le (by have := m4.out; omega)] at this
          replace hn := Lib.hid hn
          go_wp2_with fail
          go_roundw
          case measure => simp [intOf]; omega
          case rel => first | exact ⟨i + 1, by omega, by go_num, hn, b4⟩ | (repeat (first | exact ⟨⟨i + 1, by omega, by go_num, hn, b4⟩, rfl⟩ | refine Exists.intro _ ?_))
    · have hii : i = R := by omega
      subst hii
      have hnone : df (i : Int) ps xss = none := by rw [hdf.out]; exact hfi.out
      have hFa : ∀ wq : World, Hid (FaultOf (df (i : Int) ps xss) wq w.heap.size (.slice none 0 0)) := fun wq => FaultOf.none_ hnone
      replace hFa := Lib.hid hFa
      replace hnone := Lib.hid hnone
      go_wp2_with fail
      go_ret
      exact ⟨_, rfl, hFa.out _, hB.trans (hb.mono (by omega))⟩
end Go.Proofs.Ytpbmhhopgjikhaa
