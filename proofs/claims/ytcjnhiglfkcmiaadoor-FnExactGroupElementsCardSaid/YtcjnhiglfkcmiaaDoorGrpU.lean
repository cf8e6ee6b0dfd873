/- The group of a system: l01Group of the reference. No condition but the sizes of memory. -/
import Derived.Test.YtcjnhiglfkcmiaaDoorGrpT
import Derived.Test.YtcjnhiglfkcmiaaDoorGrpI
namespace Go.Proofs.YtcjnhiglfkcmiaaDoor
open Go.RowKit
set_option linter.unusedVariables false
set_option maxRecDepth 100000
/-- how a search for the group ends -/
def GrpE (e : Ending) (w w' : World) (T2 T1 : TypeId) (n : Nat) (xss : List (List Int)) : Prop :=
  ∃ (A1 : Option Addr) (n1 c1 : Nat) (zss : List (List Int)) (ok : Bool), e = .returned (.tuple #[.slice A1 n1 c1, .bool ok]) ∧ Hid (GrpO n xss zss ok) ∧ OwnS w' w.heap.size w'.heap.size T2 T1 A1 n1 c1 zss ∧ n1 + numsIn zss ≤ 1048576 ∧ Below w.heap.size w w'
theorem lexB_of_lt {a b : List Int} (h : cmpL a b < 0) : lexB a b = true := decide_eq_true (by omega)
theorem own_litW (w : World) (T : TypeId) (v : Value) : (w.alloc (.cells #[v] T)).ownsRow w.heap.size T 1 (.slice (some ⟨w.heap.size, 0, none⟩) 1 1) 1 [v] :=
  World.ownsRow_lit (e := T) (base := w.heap.size) (size := 1) w #[v] 1 (Nat.le_refl _) (by simp only [maxLen]; omega) rfl
theorem GS.start {w w1 w3 : World} {A1 A3 : Option Addr} {n c1 c3 : Nat} (o1 : Own w1 w.heap.size w1.heap.size 2 A1 n c1 ((idL n).map (Value.int .i64))) (f1 : Below w.heap.size w w1)
    (o3 : Own w3 (w1.heap.size + 1) w3.heap.size 2 A3 n c3 ((idL n).map (Value.int .i64))) (f3 : Below (w1.heap.size + 1) (w1.alloc (.cells #[.slice A1 n c1] 24)) w3) :
    GS w (w3.alloc (.cells #[.slice A3 n c3] 24)) (some ⟨w1.heap.size, 0, none⟩) 1 1 [.slice A1 n c1] (some ⟨w3.heap.size, 0, none⟩) 1 1 [.slice A3 n c3] (.slice A3 n c3) n [idL n] [idL n] := by
  have y1 := f1.size
  have z3 := f3.size
  have hsz : (w1.alloc (.cells #[.slice A1 n c1] 24)).heap.size = w1.heap.size + 1 := by simp
  rw [hsz] at z3
  have r1 : RowsOwn w1 w.heap.size w1.heap.size 2 [.slice A1 n c1] [idL n] := (RowsOwn.nil (hi := w.heap.size)).snoc o1 (Nat.le_refl _) y1
  have r2 := r1.bag.below ((Below.refl w1.heap.size w1).alloc (Nat.le_refl _) (.cells #[.slice A1 n c1] 24)) (Nat.le_refl _)
  have r3 := Bag.ins (P := []) (e := ⟨24, .slice (some ⟨w1.heap.size, 0, none⟩) 1 1, 1, [.slice A1 n c1]⟩) (hi' := w1.heap.size + 1) r2 y1 (by omega) (own_litW w1 24 (.slice A1 n c1)) (fun z hz => by simp [Value.ownBlock] at hz; subst hz; omega)
  have r4 := r3.below f3 (Nat.le_refl _)
  have hid : (idL n).length = n := idL_length n
  have r5 := Bag.ins (P := [⟨24, .slice (some ⟨w1.heap.size, 0, none⟩) 1 1, 1, [.slice A1 n c1]⟩]) (Q := rowsE 2 [.slice A1 n c1] [idL n]) (e := ⟨2, .slice A3 n c3, n, (idL n).map (Value.int .i64)⟩) (hi' := w3.heap.size) r4 (by omega) z3 o3.1 (fun z hz => (o3.1.lt z hz).2)
  have r6 := r5.below ((Below.refl w3.heap.size w3).alloc (Nat.le_refl _) (.cells #[.slice A3 n c3] 24)) (Nat.le_refl _)
  have r7 := Bag.ins (P := [⟨24, .slice (some ⟨w1.heap.size, 0, none⟩) 1 1, 1, [.slice A1 n c1]⟩]) (Q := ⟨2, .slice A3 n c3, n, (idL n).map (Value.int .i64)⟩ :: rowsE 2 [.slice A1 n c1] [idL n]) (e := ⟨24, .slice (some ⟨w3.heap.size, 0, none⟩) 1 1, 1, [.slice A3 n c3]⟩) (hi' := (w3.alloc (.cells #[.slice A3 n c3] 24)).heap.size) r6 (by omega) (by simp) (own_litW w3 24 (.slice A3 n c3)) (fun z hz => by simp [Value.ownBlock] at hz; subst hz; simp)
  have e : rowsE 2 ((.slice A3 n c3) :: [.slice A1 n c1]) (idL n :: [idL n]) = ⟨2, .slice A3 n c3, n, (idL n).map (Value.int .i64)⟩ :: rowsE 2 [.slice A1 n c1] [idL n] := by
    simp [rowsE, hid]
  have B3 : Below w.heap.size w w3 := (f1.trans (((Below.refl _ _).alloc (Nat.le_refl _) _).mono y1)).trans (f3.mono (by omega))
  refine ⟨by rw [e]; simpa using r7, rfl, rfl, rfl, rfl, List.Perm.refl _, by simp [SrtL], fun j v xs h1 h2 => ?_, B3.alloc (by omega) _⟩
  have : j = 0 := by have := (List.getElem?_eq_some_iff.1 h1).1; simpa using this
  subst this
  exact ⟨0, h1, h2⟩
set_option maxHeartbeats 8000000 in
theorem l01Group_any (n : Nat) (A : Option Addr) (m c : Nat) (xss : List (List Int)) (w : World) {lo hi : Nat} (h : RS w lo hi A m xss) (hhi : hi ≤ w.heap.size) (hsys : isSysP n xss) :
    Calls Tryd.prog 62 #[.int .i64 n, .slice A m c] w fun e w' => GrpE e w w' 24 2 n xss := by
  obtain ⟨s0, hs0, hu0, hu1, hu2⟩ := info_parts infoS
  have hn4 : n ≤ 400 := by have := hsys.2.1; omega
  have hml := h.len
  have hm16 : m ≤ 16 := by have := hsys.2.2.1; omega
  have hmx := h.max
  have hI := unit_any n w (by omega)
  have hI2 := fun V => unit_any n V (by omega)
  have hgs := GrpS.zero hsys
  have hpl : ∀ p ∈ xss, p.length = n := fun p hp => by have := (hsys.2.2.2 p hp).2; omega
  replace hsys := Lib.hid hsys
  replace hpl := Lib.hid hpl
  replace hml := Lib.hid hml
  replace hgs := Lib.hid hgs
  go_enter Tryd.func62, Tryd.ntmps62
  go_wp2_with fail
  ((with_reducible refine hI.mono ?_); rintro e w1 ⟨A1, c1, rfl, o1, f1⟩)
  clear hI
  have y1 := f1.size
  have hI3 := hI2 (w1.alloc (.cells #[.slice A1 n c1] 24))
  clear hI2
  go_wp2_with fail
  ((with_reducible refine hI3.mono ?_); rintro e w3 ⟨A3, c3, rfl, o3, f3⟩)
  clear hI3
  have hsz : (w1.alloc (.cells #[.slice A1 n c1] 24)).heap.size = w1.heap.size + 1 := by simp
  rw [hsz] at o3 f3
  have g0 := GS.start o1 f1 o3 f3
  have y3 := f3.size
  rw [hsz] at y3
  clear hsz o1 f1 o3 f3
  go_wp2_with fail
  obtain ⟨b1, hb1⟩ : ∃ b1, w1.heap.size = b1 := ⟨_, rfl⟩
  obtain ⟨b3, hb3⟩ : ∃ b3, w3.heap.size = b3 := ⟨_, rfl⟩
  obtain ⟨w4, hw4⟩ : ∃ w4 : World, w3.alloc (.cells #[.slice A3 n c3] 24) = w4 := ⟨_, rfl⟩
  rw [hb1, hb3, hw4] at g0
  rw [hb1, hb3, hw4]
  clear hb1 hb3 hw4 y1 y3
  go_loopw [6, 7, 8] (fun ev sv iv wq => ∃ (i : Nat) (F S : List (List Int)) (A6 : Option Addr) (n6 c6 : Nat) (vsF : List Value) (A7 : Option Addr) (c7 : Nat) (vsS : List Value), ev = .slice A6 n6 c6 ∧ sv = .slice A7 n6 c7 ∧ iv = .int .i64 i ∧ i ≤ n6 ∧ n6 ≤ 1000 ∧ Hid (GrpS n xss i F) ∧ GS w wq A6 n6 c6 vsF A7 n6 c7 vsS (.slice A3 n c3) n F S) (fun _ _ iv _ => 1001 - (intOf iv).toNat)
  case atStart => exact ⟨0, [idL n], [idL n], _, 1, 1, _, _, 1, _, rfl, rfl, rfl, by omega, by omega, hgs, g0⟩
  case round =>
    clear g0 hgs
    obtain ⟨i, F, S, A6, n6, c6, vsF, A7, c7, vsS, rfl, rfl, rfl, hi6, hn6, hS, hG⟩ := hrel
    by_cases hlt : i < n6
    · have hgl := hG.fn
      obtain ⟨e0, he⟩ : ∃ e, F[i]? = some e := ⟨F[i]'(by omega), List.getElem?_eq_getElem (by omega)⟩
      have hR0 := Lib.hid (hS.out.start he)
      replace he := Lib.hid he
      clear hgl
      go_wp2_with fail
      go_loopw [6, 7, 9] (fun ev sv kv wq => ∃ (k : Nat) (G S : List (List Int)) (A6 : Option Addr) (n7 c6 : Nat) (vsF : List Value) (A7 : Option Addr) (c7 : Nat) (vsS : List Value), ev = .slice A6 n7 c6 ∧ sv = .slice A7 n7 c7 ∧ kv = .int .i64 k ∧ k ≤ m ∧ n7 ≤ 1000 ∧ n6 ≤ n7 ∧ Hid (GrpR n xss i F e0 k G) ∧ GS w wq A6 n7 c6 vsF A7 n7 c7 vsS (.slice A3 n c3) n G S) (fun _ _ kv _ => m - (intOf kv).toNat)
      case atStart => exact ⟨0, F, S, A6, n6, c6, vsF, A7, c7, vsS, rfl, rfl, rfl, by omega, by omega, by omega, hR0, hG⟩
      case round =>
        clear hG hR0
        obtain ⟨k, G, S, A6, n7, c6, vsF, A7, c7, vsS, rfl, rfl, rfl, hk, hn7, hn67, hR, hG⟩ := hrel
        have yk := hG.bel.size
        by_cases hkm : k < m
        · obtain ⟨b, o, Ap, np, cp, p, rfl, _, hb, hp, hpc, hpr⟩ := (h.below hG.bel hhi).at_ hkm
          have hprl := hpr.len
          have hpn := hpl.out p (mem_of_get? hp)
          have hst := hR.out.step hp
          obtain ⟨hq1, hq2⟩ := hR.out.prod hp
          obtain ⟨hep, hel⟩ := hR.out.e_perm
          have hGi := hR.out.at_G
          obtain ⟨bh, v, rfl, -, -, -, hvi, -, hvc, -⟩ := hG.hdr.at_ (k := i) (by omega)
          obtain ⟨Ae, ne, ce, rfl, oe⟩ := hG.row (k := i + 1) (by rw [List.getElem?_cons_succ]; exact hvi) (by rw [List.getElem?_cons_succ]; exact hGi)
          have hne := oe.lenI
          have hTh := l01Then_any Ae ne ce e0 Ap np cp p wr.drew (oe.ri.keep same_drw) (Nat.le_refl _) (hpr.keep same_drw) (by show _ ≤ wr.heap.size; omega) (by omega) (fun x hx => by have := hep.rng x hx; omega)
          obtain ⟨q, hq⟩ : ∃ q, thenL e0 p = q := ⟨_, rfl⟩
          rw [hq] at hTh hst hq1 hq2
          have hnq : ne = n := by omega
          subst hnq
          have hmem : q ∈ S ↔ q ∈ G := hG.per.mem_iff
          have i0 : (0 : Int) ≤ (i : Int) := by omega
          have i1 : (i : Int) < (n7 : Int) := by omega
          have k0 : (0 : Int) ≤ (k : Int) := by omega
          have k1 : (k : Int) < (m : Int) := by omega
          replace hst := Lib.hid hst
          replace hGi := Lib.hid hGi
          replace hp := Lib.hid hp
          replace hq := Lib.hid hq
          replace hvi := Lib.hid hvi
          replace hel := Lib.hid hel
          replace hne := Lib.hid hne
          replace hpn := Lib.hid hpn
          replace hprl := Lib.hid hprl
          clear hpr oe
          go_wp2_with fail
          go_region_with (go_at_call 92; (with_reducible refine hTh.mono ?_); rintro e w5 ⟨A5, c5, rfl, o5, f5'⟩; have f5 : Below wr.heap.size wr w5 := ⟨f5'.os, f5'.tape, f5'.output, f5'.size, f5'.block⟩; have o5 : Own w5 wr.heap.size w5.heap.size 2 A5 ne c5 (q.map (Value.int .i64)) := o5)
          all_goals
            clear hTh f5' hvc hpc
            have y5 := f5.size
            have hG5 := hG.below f5
            have hPut := l01Put_any A7 n7 c7 vsS S A5 ne c5 q w5 (lo := w.heap.size) hG5.hdr2.1 hG5.bel.size hG5.rowS hG5.sl hG5.srt (o5.ri.more yk (Nat.le_refl _)) (by omega)
            go_wp2_with fail
            ((with_reducible refine hPut.mono ?_); rintro e w6 ⟨A8, n8, c8, fr, rfl, hg6, hcase⟩)
            clear hPut
            rcases hcase with ⟨rfl, hin, rfl, rfl, rfl, ho6⟩ | ⟨rfl, hnin, rfl, g8, low, rfl, hor8, hlow, hPl, ho6⟩
            · have hadd : addG G q = G := if_pos (hmem.1 hin)
              have hG6 := hG5.same hg6 ho6
              have hst2 := hst.out
              rw [hadd] at hst2
              replace hst2 := Lib.hid hst2
              replace hin := Lib.hid hin
              clear hmem hst hG hG5 hg6 ho6 o5 f5
              go_wp2_with fail
              go_roundw
              case measure => simp [intOf] <;> omega
              case rel => exact ⟨k + 1, G, S, _, n8, c6, vsF, _, c8, vsS, rfl, rfl, by go_num, by omega, hn7, hn67, hst2, hG6⟩
            · have hadd : addG G q = G ++ [q] := if_neg (fun hh => hnin (hmem.2 hh))
              have hst2 := hst.out
              rw [hadd] at hst2
              have hgn := hG.fn
              have hh6 : w6.ownsRow w.heap.size 24 1 (.slice (some ⟨bh, 0, none⟩) n7 c6) n7 vsF := (hG5.bag.set (j := 1) (e' := ⟨24, .slice (some ⟨g8, 0, none⟩) (n7 + 1) c8, n7 + 1, vsS.take low ++ .slice A5 ne c5 :: vsS.drop low⟩) rfl (Nat.le_refl _) ho6 hg6 (fun y hy => by
                have hy' : g8 = y := by simpa [Value.ownBlock] using hy
                subst hy'
                rcases hor8 with hh | hh
                · left; rw [hh]; rfl
                · exact .inr hh)).get (j := 0) rfl
              have y6 := hg6.size
              replace hst2 := Lib.hid hst2
              replace hgn := Lib.hid hgn
              replace hnin := Lib.hid hnin
              clear hmem hst
              go_wp2_with (at_builtin; refine wpList_append1 w6 rfl (.tmp 48) (.tmp 50) 33 rfl w.heap.size 24 s0 (.slice none 0 0) 24 Tryd.underlying33 hs0 hu0 hu1 hu2 rfl (by omega) (some ⟨bh, 0, none⟩) n7 c6 _ (.slice A5 ne c5) rfl hh6 _ rfl rfl rfl (by omega) (by omega) ?_)
              intro g9 c9 w9 ho9 hg9 hlo9 hlt9 hor9
              have hG9 := hG.add f5 o5 hg6 hor8 hlow hPl hnin.out ho6 ho9 hg9 (hor9.imp (fun e => by rw [e]) id)
              clear hG hG5 hg6 ho6 ho9 hg9 hor9 hh6 hor8 hPl o5 f5
              by_cases hbig : 1000 < n7 + 1
              · have hF : GrpO ne xss [] false := hst2.out.many (by rw [List.length_append, List.length_singleton, hgn.out]; exact hbig)
                have d9 : (1000 : Int) < (n7 : Int) + 1 := by omega
                replace hF := Lib.hid hF
                go_wp2_with fail
                go_ret2
                exact ⟨_, 0, _, [], false, rfl, hF, OwnS.nil, by simp [numsIn], hG9.bel⟩
              · have d9 : ¬ (1000 : Int) < (n7 : Int) + 1 := by omega
                go_wp2_with fail
                go_roundw
                case measure => simp [intOf] <;> omega
                case rel => exact ⟨k + 1, G ++ [q], _, _, n7 + 1, c9, _, _, c8, _, rfl, rfl, by go_num, by omega, by omega, by omega, hst2, hG9⟩
        · have hkm' : k = m := by omega
          subst hkm'
          have hgl := hG.fn
          have hR2 := hR.out
          rw [← hml.out] at hR2
          have hS2 := Lib.hid (hR2.next (by omega))
          replace hgl := Lib.hid hgl
          clear hR2
          go_wp2_with fail
          go_roundw
          case measure => simp [intOf] <;> omega
          case rel => exact ⟨i + 1, G, S, A6, n7, c6, vsF, A7, c7, vsS, rfl, rfl, by go_num, by omega, by omega, hS2, hG⟩
    · have hi' : i = n6 := by omega
      have hgl := hG.fn
      have hdone := hS.out
      rw [hi', ← hgl] at hdone
      have hall := hdone.all
      replace hdone := hdone.done
      have hz : S = srtG F := srtG_of hG.per (hG.srt.imp fun hab => lexB_of_lt hab)
      have hlenS : ∀ xs ∈ S, xs.length ≤ 400 := fun xs hx => by
        have := (hall xs (hG.per.mem_iff.1 hx)).2
        omega
      have hsn := hG.sn
      have hrs : RS wr w.heap.size wr.heap.size A7 n6 S := ⟨vsS, hG.hdr2.rd, hG.sl, hG.rowS⟩
      have hO := l01Own2_any A7 n6 c7 S wr hrs (Nat.le_refl _) (by omega) (fun xs hx => by have := hlenS xs hx; omega)
      have hnum : n6 + numsIn S ≤ 1048576 := by
        have h1 := numsIn_le (xss := S) (n := 400) hlenS
        have := Nat.mul_le_mul_right 400 (show S.length ≤ 1000 by omega)
        omega
      have hF : GrpO n xss S true := by unfold GrpO; rw [if_pos rfl]; exact ⟨F, hdone, hz⟩
      have hB := hG.bel
      have yB := hB.size
      replace hF := Lib.hid hF
      replace hgl := Lib.hid hgl
      replace hsn := Lib.hid hsn
      clear hall hdone hz hlenS hrs hi'
      go_wp2_with fail
      ((with_reducible refine hO.mono ?_); rintro e w5 ⟨A8, c8, rfl, o8, f8⟩)
      clear hO
      have hB8 := hB.trans (f8.mono yB)
      go_wp2_with fail
      go_ret2
      exact ⟨A8, n6, c8, S, true, rfl, hF, o8.more yB (Nat.le_refl _), hnum, hB8⟩
end Go.Proofs.YtcjnhiglfkcmiaaDoor
