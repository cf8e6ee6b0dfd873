/- Walks: the flags of a poset: how the reference grows them. No condition but that it is a poset. -/
import Derived.Test.YtebdfhkimnlglaaDoorFlgS
import Derived.Test.YtebdfhkimnlglaaDoorOrd
import Derived.Test.YtebdfhkimnlglaaDoorStep
import Derived.Deep.Cut
import Derived.Deep.RegionLaw
import Derived.Deep.CutRange
namespace Go.Proofs.YtebdfhkimnlglaaDoor
open Go.RowKit
set_option linter.unusedVariables false
set_option maxRecDepth 100000
open Classical
theorem lit_lt (w : World) (o : Obj) (n q : Nat) : ((⟨w.heap.size, 0, none⟩ : Addr).add q).block < ((w.drewN n).alloc o).heap.size := by
  simp only [Addr.add]
  split <;> simp
/-- a list of rows of the call's own that grows: its header lies from base on, its rows too -/
def Lst (w : World) (base m : Nat) (A : Option Addr) (n c : Nat) (xss : List (List Int)) : Prop := ∃ vs, Own w base w.heap.size 22 A n c vs ∧ RowsOwn w base m 2 vs xss
/-- w' is w but for the header's block and new blocks, and the new header lies in the old one's block or a new one -/
structure Grew (w w' : World) (v v' : Value) : Prop where
  g : w.grownBy w' v.ownBlock
  blk : ∀ z, v'.ownBlock = some z → v.ownBlock = some z ∨ w.heap.size ≤ z
theorem Grew.refl (w : World) (v : Value) : Grew w w v v := ⟨World.grownBy.refl _ _, fun z h => .inl h⟩
theorem Grew.size {w w' : World} {v v' : Value} (h : Grew w w' v v') : w.heap.size ≤ w'.heap.size := h.g.size
theorem Grew.trans {w w' w'' : World} {v v' v'' : Value} (h : Grew w w' v v') (k : Grew w' w'' v' v'') : Grew w w'' v v'' := by
  refine ⟨⟨k.g.os.trans h.g.os, k.g.tape.trans h.g.tape, k.g.output.trans h.g.output, Nat.le_trans h.g.size k.g.size, fun z hz hne => ?_⟩, fun z hz => ?_⟩
  · rw [k.g.block z (Nat.lt_of_lt_of_le hz h.g.size) (fun e => ?_)]
    · exact h.g.block z hz hne
    · rcases h.blk z e.symm with e2 | e2
      · exact hne e2.symm
      · omega
  · rcases k.blk z hz with e | e
    · exact h.blk z e
    · exact .inr (Nat.le_trans h.g.size e)
theorem Grew.below {w w' w'' : World} {v v' : Value} (h : Grew w w' v v') (k : Below w'.heap.size w' w'') : Grew w w'' v v' := by
  refine ⟨⟨k.os.trans h.g.os, k.tape.trans h.g.tape, k.output.trans h.g.output, Nat.le_trans h.g.size k.size, fun z hz hne => ?_⟩, h.blk⟩
  rw [k.block z (Nat.lt_of_lt_of_le hz h.g.size)]
  exact h.g.block z hz hne
theorem Grew.base {B : Nat} {w w' : World} {v v' : Value} (h : Grew w w' v v') (hB : B ≤ w.heap.size) (hv : ∀ z, v.ownBlock = some z → B ≤ z) : Below B w w' := (Below.refl _ _).grown h.g hB hv
theorem Own.grew {w w' : World} {lo hi n c n2 c2 base : Nat} {A A2 : Option Addr} {T T' : TypeId} {us ys : List Value} {v' : Value} (h : Own w lo hi T A n c us) (k : Own w base w.heap.size T' A2 n2 c2 ys) (hne : T ≠ T') (hg : Grew w w' (.slice A2 n2 c2) v') : Own w' lo hi T A n c us := h.kept_ty k.1 hne hg.g
theorem Lst.header {w : World} {base m n c : Nat} {A : Option Addr} {xss : List (List Int)} (h : Lst w base m A n c xss) : ∀ z, (Value.slice A n c).ownBlock = some z → base ≤ z ∧ z < w.heap.size := by
  obtain ⟨vs, h1, _⟩ := h
  exact fun z hz => h1.1.lt z hz
theorem Lst.len {w : World} {base m n c : Nat} {A : Option Addr} {xss : List (List Int)} (h : Lst w base m A n c xss) : xss.length = n := by
  obtain ⟨vs, h1, h2⟩ := h
  have := h1.len; have := h2.1; omega
theorem Lst.keep {w w' : World} {base m n c : Nat} {A : Option Addr} {xss : List (List Int)} (h : Lst w base m A n c xss) (hb : Below w.heap.size w w') (hm : m ≤ w.heap.size) : Lst w' base m A n c xss := by
  obtain ⟨vs, h1, h2⟩ := h
  exact ⟨vs, (h1.below hb (Nat.le_refl _)).more (Nat.le_refl _) hb.size, h2.keep (Same.of_below hb hm)⟩
theorem Lst.more {w : World} {base m m' n c : Nat} {A : Option Addr} {xss : List (List Int)} (h : Lst w base m A n c xss) (hm : m ≤ m') : Lst w base m' A n c xss := by
  obtain ⟨vs, h1, h2⟩ := h
  exact ⟨vs, h1, h2.more (Nat.le_refl _) hm⟩
theorem Lst.base {w : World} {base base' m n c : Nat} {A : Option Addr} {xss : List (List Int)} (h : Lst w base m A n c xss) (hb : base' ≤ base) : Lst w base' m A n c xss := by
  obtain ⟨vs, h1, h2⟩ := h
  exact ⟨vs, h1.more hb (Nat.le_refl _), h2.more hb (Nat.le_refl _)⟩
/-- the row S is appended -/
theorem Lst.snoc {w w' : World} {base m n c ns cs g c' : Nat} {A S : Option Addr} {xss : List (List Int)} {s : List Int} {vs : List Value} (h1 : Own w base w.heap.size 22 A n c vs) (h2 : RowsOwn w base m 2 vs xss) (hs : Own w m w.heap.size 2 S ns cs (s.map (Value.int .i64))) (hb : base ≤ m) (hm : m ≤ w.heap.size)
    (ho : w'.ownsRow base 22 1 (.slice (some ⟨g, 0, none⟩) (n + 1) c') (n + 1) (vs ++ [.slice S ns cs])) (hg : w.grownBy w' (Value.slice A n c).ownBlock) : Lst w' base w'.heap.size (some ⟨g, 0, none⟩) (n + 1) c' (xss ++ [s]) :=
  ⟨_, Own.of_row ho, ((h2.kept_ty h1.1 (by decide) hg).snoc (hs.kept_ty h1.1 (by decide) hg) hb hm).more (Nat.le_refl _) hg.size⟩
set_option maxHeartbeats 8000000 in
theorem ext_any (R : Nat) (D : Option Addr) (e0 n : Nat) (ps : List Int) (A : Option Addr) (c : Nat) (xss : List (List Int)) (AL : Option Addr) (cAL : Nat) {lo hi lo' hi' l2 : Nat} (hp : PosP (R : Int) ps xss) (hpl : ps.length = n) : ∀ (k : Nat) (w : World) (base m : Nat) (S : Option Addr) (ns cs : Nat) (s : List Int) (L : Option Addr) (nl cl : Nat) (list : List (List Int)),
    RI w lo hi D n ps → RS w lo' hi' A n xss → Own w l2 w.heap.size 4 AL n cAL ((alR (Al (R : Int) ps xss) n).map Value.bool) → hi ≤ base → hi' ≤ base → base ≤ m → m ≤ w.heap.size → Chn ps s → s.length + k = R → Own w m w.heap.size 2 S ns cs (s.map (Value.int .i64)) → Lst w base m L nl cl list → list.length ≤ 401 →
    Calls Tryd.prog 38 #[.agg #[.int .i64 (R : Int), .slice D n e0, .slice A n c], .slice AL n cAL, .slice S ns cs, .slice L nl cl] w fun e w' => ∃ (L' : Option Addr) (nl' cl' : Nat), e = .returned (.slice L' nl' cl') ∧ Lst w' base w'.heap.size L' nl' cl' (cut4 (list ++ growF (R : Int) ps xss k s)) ∧ Grew w w' (.slice L nl cl) (.slice L' nl' cl') := by
  obtain ⟨j0, hj0, hy0, hy1, hy2⟩ := info_parts infoI
  obtain ⟨s0, hs0, hu0, hu1, hu2⟩ := info_parts infoS
  have hR5 : R ≤ 5 := by have := hp.r5; omega
  have hn5 : n ≤ 500 := by have := hp.n5; omega
  replace hpl := Lib.hid hpl
  replace hp := Lib.hid hp
  intro k
  induction k with
  | zero =>
    intro w base m S ns cs s L nl cl list hG hR hAl hb1 hb2 hbm hmw hc hsk hS hL h401
    have hsl := hS.lenI
    have hll := hL.len
    have hhd := hL.header
    have hR0 := hL.keep ((Below.refl w.heap.size w).alloc (Nat.le_refl _) (.cells #[.int .i64 (R : Int), .slice D n e0, .slice A n c] 29)) hmw
    have hB : Below w.heap.size w (w.alloc (.cells #[.int .i64 (R : Int), .slice D n e0, .slice A n c] 29)) := (Below.refl _ _).alloc (Nat.le_refl _) _
    have hS0 := (hS.below hB (Nat.le_refl _)).more (Nat.le_refl _) hB.size
    have c0 := al3_0 w (.int .i64 (R : Int)) (.slice D n e0) (.slice A n c) 29 w.heap.size rfl
    by_cases h4 : 400 < nl
    · have hF : cut4 (list ++ growF (R : Int) ps xss 0 s) = list := by
        have e : cut4 list = list := cut4_small h401
        rw [cut4_full (by rw [e]; omega), e]
      rw [hF]
      replace hF := Lib.hid hF
      replace hll := Lib.hid hll
      replace hsl := Lib.hid hsl
      go_enter Tryd.func38, Tryd.ntmps38
      go_wp2_with fail
      go_ret
      exact ⟨L, nl, cl, rfl, hR0.more (by simp only [World.size_alloc]; omega), (Grew.refl _ _).below hB⟩
    · have hF : cut4 (list ++ growF (R : Int) ps xss 0 s) = list ++ [s] := by
        rw [growF_zero]
        exact cut4_small (by simp; omega)
      rw [hF]
      replace hF := Lib.hid hF
      have hsR : ns = R := by omega
      subst hsR
      replace hll := Lib.hid hll
      replace hsl := Lib.hid hsl
      obtain ⟨vs, hL1, hL2⟩ := hR0
      go_enter Tryd.func38, Tryd.ntmps38
      go_wp2_with (at_builtin; refine wpList_append1 (w.alloc (.cells #[.int .i64 (ns : Int), .slice D n e0, .slice A n c] 29)) rfl (.tmp 21) (.tmp 23) 23 rfl base 22 s0 (.slice none 0 0) 24 Tryd.underlying23 hs0 hu0 hu1 hu2 rfl (by omega) L nl cl _ (.slice S ns cs) rfl hL1.1 _ rfl (by simp) rfl (by omega) (by simp; omega) ?_)
      intro g4 c4 w5 ho5 hg5 hlo5 hlt5 hor5
      go_wp2_with fail
      go_ret
      refine ⟨_, _, _, rfl, Lst.snoc hL1 hL2 hS0 hbm (by simp; omega) ho5 hg5, ?_⟩
      refine ⟨⟨hg5.os.trans hB.os, hg5.tape.trans hB.tape, hg5.output.trans hB.output, Nat.le_trans hB.size hg5.size, fun z hz hne => (hg5.block z (by simp; omega) hne).trans (hB.block z hz)⟩, fun z hz => ?_⟩
      simp [Value.ownBlock] at hz
      subst hz
      rcases hor5 with h | h
      · exact .inl (by rw [h]; rfl)
      · exact .inr (by omega)
  | succ k ih =>
    intro w base m S ns cs s L nl cl list hG hR hAl hb1 hb2 hbm hmw hc hsk hS hL h401
    have hsl := hS.lenI
    have hll := hL.len
    have hhd := hL.header
    have hB : Below w.heap.size w (w.alloc (.cells #[.int .i64 (R : Int), .slice D n e0, .slice A n c] 29)) := (Below.refl _ _).alloc (Nat.le_refl _) _
    have hR0 := hL.keep hB hmw
    have hS0 := (hS.below hB (Nat.le_refl _)).more (Nat.le_refl _) hB.size
    have hAl0 := (hAl.below hB (Nat.le_refl _)).more (Nat.le_refl _) hB.size
    have p0 : (w.alloc (.cells #[.int .i64 (R : Int), .slice D n e0, .slice A n c] 29)).heap[w.heap.size]? = some (.cells #[.int .i64 (R : Int), .slice D n e0, .slice A n c] 29 (0, 0)) := heap_new _ _ _ rfl
    by_cases h4 : 400 < nl
    · have hF : cut4 (list ++ growF (R : Int) ps xss (k + 1) s) = list := by
        have e : cut4 list = list := cut4_small h401
        rw [cut4_full (by rw [e]; omega), e]
      rw [hF]
      replace hF := Lib.hid hF
      replace hll := Lib.hid hll
      replace hsl := Lib.hid hsl
      replace p0 := Lib.hid p0
      go_enter Tryd.func38, Tryd.ntmps38
      go_wp2_with fail
      go_ret
      exact ⟨L, nl, cl, rfl, hR0.more (by simp only [World.size_alloc]; omega), (Grew.refl _ _).below hB⟩
    · have hsR : ((ns : Int) == (R : Int)) = false := by simp; omega
      have hc4 : cut4 (list ++ growT (R : Int) ps xss k s (nxL (R : Int) ps xss s 0)) = list := by
        have : nxL (R : Int) ps xss s 0 = [] := by unfold nxL firstL upL; split <;> simp
        rw [this, growT_nil, List.append_nil]
        exact cut4_small h401
      replace p0 := Lib.hid p0
      replace hll := Lib.hid hll
      replace hsl := Lib.hid hsl
      replace hc4 := Lib.hid hc4
      go_enter Tryd.func38, Tryd.ntmps38
      have c0 := al3_0 w (.int .i64 (R : Int)) (.slice D n e0) (.slice A n c) 29 w.heap.size rfl
      go_wp2_with fail
      obtain ⟨W1, hW⟩ : ∃ W1 : World, w.alloc (.cells #[.int .i64 (R : Int), .slice D n e0, .slice A n c] 29) = W1 := ⟨_, rfl⟩
      have hz1 : W1.heap.size = w.heap.size + 1 := by rw [← hW]; simp
      rw [hW] at hR0 hS0 hAl0 hB p0 ⊢
      clear hW c0
      go_loopw [3, 10] (fun lv ev wq => ∃ (e : Nat) (Lx : Option Addr) (nx cx : Nat) (lst : List (List Int)), e ≤ n ∧ lv = .slice Lx nx cx ∧ ev = .int .i64 e ∧ Lst wq base wq.heap.size Lx nx cx lst ∧ Hid (cut4 (list ++ growT (R : Int) ps xss k s (nxL (R : Int) ps xss s e)) = lst) ∧ Grew W1 wq (.slice L nl cl) (.slice Lx nx cx)) (fun _ ev _ => n - (intOf ev).toNat)
      case atStart => exact ⟨0, L, nl, cl, list, by omega, rfl, rfl, hR0.more (by omega), hc4, Grew.refl _ _⟩
      case round =>
        obtain ⟨e, Lx, nx, cx, lst, hen, rfl, rfl, hLx, hlst, hgw⟩ := hrel
        have hbW : Below base W1 wr := hgw.base (by omega) (fun z hz => (hhd z hz).1)
        have hbw : Below base w wr := (hB.mono (by omega)).trans hbW
        have hyz := hgw.size
        have P := (hgw.g.block w.heap.size (by omega) (fun e => by have := (hhd _ e.symm).2; omega)).trans p0.out
        have C0 : wr.cell? ⟨w.heap.size, 0, none⟩ = some (.int .i64 (R : Int)) := by rw [cell_of_row _ _ _ _ _ _ P]; rfl
        have C1 : wr.cell? ⟨w.heap.size, 1, none⟩ = some (.slice D n e0) := by rw [cell_of_row _ _ _ _ _ _ P]; rfl
        have C2 : wr.cell? ⟨w.heap.size, 2, none⟩ = some (.slice A n c) := by rw [cell_of_row _ _ _ _ _ _ P]; rfl
        replace P := Lib.hid P
        obtain ⟨vs0, hH0, _⟩ := hR0
        have hSr : Own wr m W1.heap.size 2 S ns cs (s.map (Value.int .i64)) := hS0.grew hH0 (by decide) hgw
        have hAlr : Own wr l2 W1.heap.size 4 AL n cAL ((alR (Al (R : Int) ps xss) n).map Value.bool) := hAl0.grew hH0 (by decide) hgw
        by_cases hlt : e < n
        · obtain ⟨bD, oD, xe, hDe, _, _, hxe, hcx⟩ := (hG.below hbw hb1).at_ hlt
          subst hDe
          obtain ⟨bA, oA, Ae, ne, ce, Be, hAe, _, _, hBe, hcB, hrB⟩ := (hR.below hbw hb2).at_ hlt
          subst hAe
          obtain ⟨bL, oL, va, hLe, _, _, hva, hca⟩ := hAlr.rd.at_ hlt
          subst hLe
          rw [List.getElem?_map, alR_get hlt] at hva
          have hva := Option.some.inj hva
          subst hva
          have hgx : ps.getD e 0 = xe := getD_some hxe
          have hgB : xss.getD e [] = Be := getD_some hBe
          obtain ⟨hx0, hx1⟩ := hp.out.rk xe (mem_of_get? hxe)
          replace hxe := Lib.hid hxe
          replace hBe := Lib.hid hBe
          have hsn := nxL_succ (r := (R : Int)) (xss := xss) hc e
          go_upto_region 9 with fail
          go_cut [61] from 32 to 70 (fun s61 wx => s61 = .bool (decide (Nx (R : Int) ps xss s e)) ∧ ∃ q, wx = wr.drewN q)
          case first =>
            replace hsn := Lib.hid hsn
            by_cases h1 : xe = (ns : Int)
            · have d1 : (xe == (ns : Int)) = true := by simp; omega
              by_cases h2 : Al (R : Int) ps xss e
              · rw [decide_eq_true h2] at hca
                by_cases h3 : ns = 0
                · have d3 : ((ns : Int) == 0) = true := by simp; omega
                  have hF : decide (Nx (R : Int) ps xss s e) = true := decide_eq_true ⟨by rw [hgx, hsl.out]; exact h1, h2, .inl (by have := hsl.out; omega)⟩
                  replace hF := Lib.hid hF
                  replace h1 := Lib.hid h1
                  replace h2 := Lib.hid h2
                  replace h3 := Lib.hid h3
                  replace hgx := Lib.hid hgx
                  replace hgB := Lib.hid hgB
                  go_wp2_with fail
                  go_quiet (fail)
                  go_wp2_with fail
                  go_meet
                  exact ⟨by rw [hF.out], _, rfl⟩
                · have d3 : ((ns : Int) == 0) = false := by simp; omega
                  obtain ⟨bS, z, hSe, _, _, _, hz, hcz, _⟩ := hSr.atI (k := ns - 1) (by omega)
                  subst hSe
                  have hgz : s.getD (s.length - 1) 0 = z := by rw [hsl.out]; exact getD_some hz
                  have hF : decide (Nx (R : Int) ps xss s e) = decide (z ∈ Be) := by
                    refine decide_eq_decide.2 ⟨fun h => ?_, fun h => ?_⟩
                    · have h5 := h.2.2.resolve_left (by have := hsl.out; omega)
                      rwa [hgz, hgB] at h5
                    · exact ⟨by rw [hgx, hsl.out]; exact h1, h2, .inr (by rw [hgz, hgB]; exact h)⟩
                  have w1 : IntKind.i64.wrap ((ns : Int) - 1) = (ns : Int) - 1 := by rw [IntKind.wrap_i64]; omega
                  have w2 : (0 : Int) ≤ (ns : Int) - 1 := by omega
                  have w3 : (ns : Int) - 1 < (ns : Int) := by omega
                  have w4 : ((ns : Int) - 1).toNat = ns - 1 := by omega
                  replace hF := Lib.hid hF
                  replace h1 := Lib.hid h1
                  replace h2 := Lib.hid h2
                  replace h3 := Lib.hid h3
                  replace hgx := Lib.hid hgx
                  replace hgB := Lib.hid hgB
                  replace hgz := Lib.hid hgz
                  replace hz := Lib.hid hz
                  have hcon : ∀ q, Calls Tryd.prog 37 #[.slice Ae ne ce, .int .i64 z] (wr.drewN q) fun e' w' => e' = .returned (.bool (decide (z ∈ Be))) ∧ wr.drewN q = w' := fun q => l01Has_any Ae ne ce Be z (wr.drewN q) hrB
                  go_wp2_with fail
                  go_quiet ((go_at_call 37; exact quiet_left (hcon _)))
                  go_wp2_with fail
                  go_meet
                  exact ⟨by rw [hF.out], _, rfl⟩
              · rw [decide_eq_false h2] at hca
                have hF : decide (Nx (R : Int) ps xss s e) = false := decide_eq_false fun h => h2 h.2.1
                replace hF := Lib.hid hF
                replace h1 := Lib.hid h1
                replace h2 := Lib.hid h2
                replace hgx := Lib.hid hgx
                replace hgB := Lib.hid hgB
                go_wp2_with fail
                go_quiet (fail)
                go_wp2_with fail
                go_meet
                exact ⟨by rw [hF.out], _, rfl⟩
            · have d1 : (xe == (ns : Int)) = false := by simp; omega
              have hF : decide (Nx (R : Int) ps xss s e) = false := decide_eq_false fun h => h1 (by rw [← hgx, h.1, hsl.out])
              replace hF := Lib.hid hF
              replace h1 := Lib.hid h1
              replace hgx := Lib.hid hgx
              replace hgB := Lib.hid hgB
              go_wp2_with fail
              go_quiet (fail)
              go_wp2_with fail
              go_meet
              exact ⟨by rw [hF.out], _, rfl⟩
          case rest =>
            obtain ⟨rfl, q, rfl⟩ := hcut
            clear hcx hcB hca hgx hgB hx0 hx1 hrB
            by_cases hN : Nx (R : Int) ps xss s e
            · rw [if_pos hN] at hsn
              have hcs := chn_snoc (r := (R : Int)) (xss := xss) (x := (e : Int)) hc (by
                have h1 : (e : Int) ∈ nxL (R : Int) ps xss s (e + 1) := by rw [hsn]; simp
                unfold nxL at h1 ⊢
                split at h1
                · next h0 =>
                  rw [if_pos h0]
                  obtain ⟨f, _, h2, h3⟩ := firstL_mem.1 h1
                  exact firstL_mem.2 ⟨f, by have := hpl.out; omega, h2, h3⟩
                · next h0 =>
                  rw [if_neg h0]
                  obtain ⟨f, _, h2, h3⟩ := upL_mem.1 h1
                  exact upL_mem.2 ⟨f, by have := hpl.out; omega, h2, h3⟩)
              rw [decide_eq_true hN]
              have hnxt : cut4 (list ++ growT (R : Int) ps xss k s (nxL (R : Int) ps xss s (e + 1))) = cut4 (lst ++ growF (R : Int) ps xss k (s ++ [(e : Int)])) := by
                rw [hsn, growT_snoc, ← hlst.out, cut4_app, List.append_assoc]
              have hl401 : lst.length ≤ 401 := by rw [← hlst.out]; exact cut4_len _
              have hns : ns ≤ 5 := by have := hsl.out; omega
              have hOw : ∀ wq, Below wr.heap.size wr wq → Calls Tryd.prog 50 #[.slice S ns cs] wq fun e' w' => ∃ A1 c1, e' = .returned (.slice A1 ns c1) ∧ Own w' wr.heap.size w'.heap.size 2 A1 ns c1 (s.map (Value.int .i64)) ∧ Below wr.heap.size wr w' ∧ Below wq.heap.size wq w' := by
                intro wq hq
                have hr := ((hSr.more (Nat.le_refl _) hyz).below hq (Nat.le_refl _)).ri
                refine (own1_any S ns cs s wq hr hq.size (by omega)).mono ?_
                rintro e' w' ⟨A1, c1, rfl, o1, f1⟩
                exact ⟨A1, c1, rfl, o1.more hq.size (Nat.le_refl _), below_then hq f1 hq.size, f1⟩
              have hRe : ∀ wq g6 c6, Below wr.heap.size wr wq → wq.ownsRow wr.heap.size 2 1 (.slice (some ⟨g6, 0, none⟩) (ns + 1) c6) (ns + 1) (s.map (Value.int .i64) ++ [.int .i64 (e : Int)]) → Calls Tryd.prog 38 #[.agg #[.int .i64 (R : Int), .slice (some ⟨bD, oD, none⟩) n e0, .slice (some ⟨bA, oA, none⟩) n c], .slice (some ⟨bL, oL, none⟩) n cAL, .slice (some ⟨g6, 0, none⟩) (ns + 1) c6, .slice Lx nx cx] wq fun e' w' => ∃ (L' : Option Addr) (nl' cl' : Nat), e' = .returned (.slice L' nl' cl') ∧ Lst w' base w'.heap.size L' nl' cl' (cut4 (lst ++ growF (R : Int) ps xss k (s ++ [(e : Int)]))) ∧ Grew W1 w' (.slice L nl cl) (.slice L' nl' cl') := by
                intro wq g6 c6 hq ho
                have hbq := hbw.trans (hq.mono (by omega))
                refine (ih wq base wr.heap.size (some ⟨g6, 0, none⟩) (ns + 1) c6 (s ++ [(e : Int)]) Lx nx cx lst (hG.below hbq hb1) (hR.below hbq hb2) (((hAlr.more (Nat.le_refl _) hyz).below hq (Nat.le_refl _)).more (Nat.le_refl _) hq.size) hb1 hb2 (by omega) hq.size hcs.1 (by simp; omega) (by rw [List.map_append]; exact Own.of_row ho) (hLx.keep hq (Nat.le_refl _)) hl401).mono ?_
                rintro e' w' ⟨L', nl', cl', rfl, h1, h2⟩
                exact ⟨L', nl', cl', rfl, h1, (hgw.below hq).trans h2⟩
              replace hsn := Lib.hid hsn
              replace hnxt := Lib.hid hnxt
              replace hN := Lib.hid hN
              replace hOw := Lib.hid hOw
              replace hRe := Lib.hid hRe
              clear hcs
              go_upto_region 10 with fail
              have hOa := hOw.out (wr.drewN (q + 1)) (below_dn (Below.refl _ _) _)
              have hOb := hOw.out ((wr.drewN (q + 1)).alloc (.cells #[.int .i64 (e : Int)] 2)) ((below_dn (Below.refl _ _) _).alloc (Nat.le_refl _) _)
              have hnewb : Hid (∀ q' v, [Value.int .i64 (e : Int)][q']? = some v → ((wr.drewN (q + 1)).alloc (.cells #[.int .i64 (e : Int)] 2)).cell? ((⟨wr.heap.size, 0, none⟩ : Addr).add q') = some v) := Lib.hid (cell_one_new (wr.drewN (q + 1)) _ _)
              have G0 : ((wr.drewN (q + 1)).alloc (.cells #[.int .i64 (e : Int)] 2)).cell? ⟨w.heap.size, 0, none⟩ = some (.int .i64 (R : Int)) := (al_old _ _ _ _ (show w.heap.size < wr.heap.size by omega)).trans C0
              have G1 : ((wr.drewN (q + 1)).alloc (.cells #[.int .i64 (e : Int)] 2)).cell? ⟨w.heap.size, 1, none⟩ = some (.slice (some ⟨bD, oD, none⟩) n e0) := (al_old _ _ _ _ (show w.heap.size < wr.heap.size by omega)).trans C1
              have G2 : ((wr.drewN (q + 1)).alloc (.cells #[.int .i64 (e : Int)] 2)).cell? ⟨w.heap.size, 2, none⟩ = some (.slice (some ⟨bA, oA, none⟩) n c) := (al_old _ _ _ _ (show w.heap.size < wr.heap.size by omega)).trans C2
              have hml : Hid (ns + 1 ≤ maxLen) := Lib.hid (by simp only [maxLen]; omega)
              go_region_law (first
                | (refine step_call rfl 50 #[.slice S ns cs] (by go_simp) hOa ?_; rintro e6 w6 ⟨A6, c6, rfl, o6, f6, _⟩; refine ⟨_, rfl, ?_⟩; have hsz6 := f6.size; have D0 := (f6.cell (p := ⟨w.heap.size, 0, none⟩) (by simp; omega)).trans C0; have D1 := (f6.cell (p := ⟨w.heap.size, 1, none⟩) (by simp; omega)).trans C1; have D2 := (f6.cell (p := ⟨w.heap.size, 2, none⟩) (by simp; omega)).trans C2; have E0 : (w6.alloc (.cells #[.int .i64 (e : Int)] 2)).cell? ⟨w.heap.size, 0, none⟩ = _ := (al_old _ _ _ _ (by omega)).trans D0; have E1 : (w6.alloc (.cells #[.int .i64 (e : Int)] 2)).cell? ⟨w.heap.size, 1, none⟩ = _ := (al_old _ _ _ _ (by omega)).trans D1; have E2 : (w6.alloc (.cells #[.int .i64 (e : Int)] 2)).cell? ⟨w.heap.size, 2, none⟩ = _ := (al_old _ _ _ _ (by omega)).trans D2; have hown' : Hid ((w6.alloc (.cells #[.int .i64 (e : Int)] 2)).drew.ownsRow wr.heap.size 2 1 (.slice A6 ns c6) ns (s.map (Value.int .i64))) := Lib.hid (o6.1.alloc _); have hnew' : Hid (∀ q v, [Value.int .i64 (e : Int)][q]? = some v → (w6.alloc (.cells #[.int .i64 (e : Int)] 2)).drew.cell? ((⟨w6.heap.size, 0, none⟩ : Addr).add q) = some v) := Lib.hid (cell_one_new w6 _ _); have hbs : Hid (wr.heap.size ≤ (w6.alloc (.cells #[.int .i64 (e : Int)] 2)).drew.heap.size) := Lib.hid (by simp; omega); have hbA : Hid (Below wr.heap.size wr (w6.alloc (.cells #[.int .i64 (e : Int)] 2))) := Lib.hid (f6.alloc hsz6 _); have hbs2 : Hid (wr.heap.size ≤ (w6.alloc (.cells #[.int .i64 (e : Int)] 2)).heap.size) := Lib.hid (by simp; omega); have hlo6 : Hid (∀ q, (Value.slice A6 ns c6).ownBlock = some q → wr.heap.size ≤ q) := Lib.hid (fun q hq => (o6.1.lt q hq).1))
                | (refine step_call rfl 50 #[.slice S ns cs] (by go_simp) hOb ?_; rintro e6 w6 ⟨A6, c6, rfl, o6, f6, f6'⟩; refine ⟨_, rfl, ?_⟩; have hsz6 := f6.size; have D0 := (f6.cell (p := ⟨w.heap.size, 0, none⟩) (by simp; omega)).trans C0; have D1 := (f6.cell (p := ⟨w.heap.size, 1, none⟩) (by simp; omega)).trans C1; have D2 := (f6.cell (p := ⟨w.heap.size, 2, none⟩) (by simp; omega)).trans C2; have hown2 : Hid (w6.ownsRow wr.heap.size 2 1 (.slice A6 ns c6) ns (s.map (Value.int .i64))) := Lib.hid o6.1; have hnew2 : Hid (∀ q v, [Value.int .i64 (e : Int)][q]? = some v → w6.cell? ((⟨wr.heap.size, 0, none⟩ : Addr).add q) = some v) := Lib.hid (fun q' v' hv' => (f6'.cell (p := (⟨wr.heap.size, 0, none⟩ : Addr).add q') (lit_lt wr _ _ q')).trans (hnewb.out q' v' hv')); have hbs3 : Hid (wr.heap.size ≤ w6.heap.size) := Lib.hid hsz6; have hbB : Hid (Below wr.heap.size wr w6) := Lib.hid f6; have hlo6 : Hid (∀ q, (Value.slice A6 ns c6).ownBlock = some q → wr.heap.size ≤ q) := Lib.hid (fun q hq => (o6.1.lt q hq).1))
                | (refine step_append_lies _ rfl (.tmp 65) (.tmp 67) 22 rfl wr.heap.size 2 j0 (.int .i64 0) 1 8 Tryd.underlying22 hj0 hy0 hy1 hy2 rfl (by decide) (.slice A6 ns c6) ns (s.map (Value.int .i64)) (by simp [Act.eval]) hown2.out ⟨wr.heap.size, 0, none⟩ 1 1 [.int .i64 (e : Int)] (by simp [Act.eval]) rfl hnew2.out (by simp [Value.oneCell']) (by decide) hml.out (by omega) hbs3.out _ rfl ?_; intro g7 c7 w7 ho7 hg7 hor7 hlt7; have f7 : Below wr.heap.size wr w7 := hbB.out.grown hg7 hbs3.out hlo6.out; have F0 := (f7.cell (p := ⟨w.heap.size, 0, none⟩) (by simp; omega)).trans C0; have F1 := (f7.cell (p := ⟨w.heap.size, 1, none⟩) (by simp; omega)).trans C1; have F2 := (f7.cell (p := ⟨w.heap.size, 2, none⟩) (by simp; omega)).trans C2; have hr7 := hRe.out w7 g7 c7 f7 ho7; clear ho7 hg7 hor7)
                | (refine step_append_lies _ rfl (.tmp 65) (.tmp 67) 22 rfl wr.heap.size 2 j0 (.int .i64 0) 1 8 Tryd.underlying22 hj0 hy0 hy1 hy2 rfl (by decide) (.slice A6 ns c6) ns (s.map (Value.int .i64)) (by simp [Act.eval]) hown'.out ⟨w6.heap.size, 0, none⟩ 1 1 [.int .i64 (e : Int)] (by simp [Act.eval]) rfl hnew'.out (by simp [Value.oneCell']) (by decide) hml.out (by omega) hbs.out _ rfl ?_; intro g7 c7 w7 ho7 hg7 hor7 hlt7; have f7 : Below wr.heap.size wr w7 := hbA.out.grown hg7 hbs2.out hlo6.out; have F0 := (f7.cell (p := ⟨w.heap.size, 0, none⟩) (by simp; omega)).trans C0; have F1 := (f7.cell (p := ⟨w.heap.size, 1, none⟩) (by simp; omega)).trans C1; have F2 := (f7.cell (p := ⟨w.heap.size, 2, none⟩) (by simp; omega)).trans C2; have hr7 := hRe.out w7 g7 c7 f7 ho7; clear ho7 hg7 hor7)
                | (refine step_call rfl 38 #[.agg #[.int .i64 (R : Int), .slice (some ⟨bD, oD, none⟩) n e0, .slice (some ⟨bA, oA, none⟩) n c], .slice (some ⟨bL, oL, none⟩) n cAL, .slice (some ⟨g7, 0, none⟩) (ns + 1) c7, .slice Lx nx cx] (by go_simp) hr7 ?_; rintro e8 w8 ⟨L8, n8, c8, rfl, l8, gr8⟩; refine ⟨_, rfl, ?_⟩))
              all_goals
                have he1 : e + 1 ≤ n := by omega
                have he5 : Hid (cut4 (list ++ growT (R : Int) ps xss k s (nxL (R : Int) ps xss s (e + 1))) = cut4 (lst ++ growF (R : Int) ps xss k (s ++ [(e : Int)]))) := hnxt
                go_wp2_with fail
                go_roundw
                case measure => simp [intOf]; omega
                case rel =>
                  first
                    | exact ⟨e + 1, L8, n8, c8, _, he1, rfl, (by go_num : Value.int .i64 ((e : Int) + 1) = .int .i64 ((e + 1 : Nat) : Int)), l8, he5, gr8⟩
                    | ((repeat (apply Exists.intro)); exact ⟨⟨e + 1, L8, n8, c8, _, he1, rfl, (by go_num : Value.int .i64 ((e : Int) + 1) = .int .i64 ((e + 1 : Nat) : Int)), l8, he5, gr8⟩, rfl⟩)
            · rw [if_neg hN, List.append_nil] at hsn
              rw [← hsn] at hlst
              rw [decide_eq_false hN]
              replace hsn := Lib.hid hsn
              replace hN := Lib.hid hN
              go_wp2_with fail
              have he1 : e + 1 ≤ n := by omega
              have he2 : Value.int .i64 ((e : Int) + 1) = .int .i64 ((e + 1 : Nat) : Int) := by go_num
              have he3 : Lst (wr.drewN q) base (wr.drewN q).heap.size Lx nx cx lst := hLx.keep (below_dn (Below.refl _ _) _) (Nat.le_refl _)
              have he4 := hgw.below (below_dn (Below.refl wr.heap.size wr) q)
              go_roundw
              case measure => simp [intOf]; omega
              case rel => exact ⟨e + 1, Lx, nx, cx, lst, he1, rfl, he2, he3, hlst, he4⟩
        · have hen' : e = n := by omega
          subst hen'
          have hF : cut4 (list ++ growF (R : Int) ps xss (k + 1) s) = lst := by rw [growF_eq, hpl.out]; exact hlst.out
          go_wp2_with fail
          go_ret
          exact ⟨Lx, nx, cx, rfl, by rw [hF]; exact hLx, ⟨⟨hgw.g.os.trans hB.os, hgw.g.tape.trans hB.tape, hgw.g.output.trans hB.output, Nat.le_trans hB.size hgw.g.size, fun z hz hne => (hgw.g.block z (by omega) hne).trans (hB.block z hz)⟩, fun z hz => (hgw.blk z hz).imp id (fun h => by omega)⟩⟩
end Go.Proofs.YtebdfhkimnlglaaDoor
