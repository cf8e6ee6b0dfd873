/- The group of a system: groupElements of the program. No condition but the sizes of memory and strconv's table of powers of ten. -/
import Derived.Test.YtcjnhiglfkcmiaaDoorSrtG
import Derived.Test.YtcjnhiglfkcmiaaDoorBgM
import Derived.Test.YtcjnhiglfkcmiaaDoorKey
import Derived.Test.YtcjnhiglfkcmiaaDoorPow
import Derived.Test.YtcjnhiglfkcmiaaDoorOrbL
import Derived.Test.YtcjnhiglfkcmiaaDoorFormP
namespace Go.Proofs.YtcjnhiglfkcmiaaDoor
open Go.RowKit
open Go.Maps (Keyed string_keyed)
set_option linter.unusedVariables false
set_option maxRecDepth 100000
theorem keyS : Keyed Tryd.prog 9 := string_keyed Tryd.underlying9
theorem zeroB (w : World) : (zeroValue 4).run Tryd.prog w = .ok (.bool false) w := by kernel_rfl
theorem keyS_of (L : List UInt8) (h : L.length ≤ 1099511627776) : keyOf Tryd.prog 9 (.string (strB L)) = some (.string L) := by
  have := Go.WideMaps.keyOf_string_mk (P := Tryd.prog) (k := 9) Tryd.underlying9 (s := strB L) (by rw [strB_size]; unfold maxLen; omega)
  rwa [strB_data] at this
theorem own_litV (w : World) (T : TypeId) (v : Value) : (w.alloc (.cells #[v] T)).ownsRow w.heap.size T 1 (.slice (some ⟨w.heap.size, 0, none⟩) 1 1) 1 [v] :=
  World.ownsRow_lit (e := T) (base := w.heap.size) (size := 1) w #[v] 1 (Nat.le_refl _) (by simp only [maxLen]; omega) rfl
/-- what groupElements returns -/
def GrpO (n : Nat) (xss zss : List (List Int)) (ok : Bool) : Prop := if ok = true then ∃ F, grpL n xss = some F ∧ zss = srtG F else grpL n xss = none
/-- the memory of the search: the row of the elements, their rows, the map of the keys -/
structure GI (w : World) (MB : Nat) (wq : World) (A : Option Addr) (n c : Nat) (vs : List Value) (G : List (List Int)) : Prop where
  bag : Bag wq w.heap.size wq.heap.size (⟨24, .slice A n c, n, vs⟩ :: rowsE 2 vs G)
  map : SetM Tryd.prog 9 4 wq MB G.length (G.map keyB)
  vl : vs.length = G.length
  gl : G.length = n
  bel : Below w.heap.size w wq
  mb : w.heap.size ≤ MB
section
variable {w wq w2 : World} {MB : Nat} {A : Option Addr} {n c : Nat} {vs : List Value} {G : List (List Int)}
theorem GI.hdr (g : GI w MB wq A n c vs G) : Own wq w.heap.size wq.heap.size 24 A n c vs := g.bag.getO (j := 0) rfl
theorem GI.row (g : GI w MB wq A n c vs G) {k : Nat} {v : Value} {xs : List Int} (h1 : vs[k]? = some v) (h2 : G[k]? = some xs) : ∃ A1 n1 c1, v = .slice A1 n1 c1 ∧ Own wq w.heap.size wq.heap.size 2 A1 n1 c1 (xs.map (Value.int .i64)) :=
  g.bag.row (fun e he => List.mem_cons_of_mem _ he) h1 h2
theorem GI.below (g : GI w MB wq A n c vs G) (f : Below wq.heap.size wq w2) : GI w MB w2 A n c vs G :=
  ⟨(g.bag.below f (Nat.le_refl _)).more f.size, g.map.below f g.map.lt, g.vl, g.gl, g.bel.trans (f.mono g.bel.size), g.mb⟩
/-- a new element: its key is put into the map, its row behind the others -/
theorem GI.add (g : GI w MB wq A n c vs G) {w3 w4 : World} {A5 : Option Addr} {n5 c5 lo5 : Nat} {q : List Int} (o5 : Own wq lo5 wq.heap.size 2 A5 n5 c5 (q.map (Value.int .i64))) (hlo : w2.heap.size ≤ lo5)
    (g2 : GI w MB w2 A n c vs G) (f : Below w2.heap.size w2 wq)
    (hm : SetM Tryd.prog 9 4 w3 MB (G.length + 1) (G.map keyB ++ [keyB q])) (hg : wq.grownBy w3 (some MB))
    {g4 c4 : Nat} (ho : w4.ownsRow w.heap.size 24 1 (.slice (some ⟨g4, 0, none⟩) (n + 1) c4) (n + 1) (vs ++ [.slice A5 n5 c5])) (hg4 : w3.grownBy w4 (Value.slice A n c).ownBlock) (hor : A = some ⟨g4, 0, none⟩ ∨ w3.heap.size ≤ g4) :
    GI w MB w4 (some ⟨g4, 0, none⟩) (n + 1) c4 (vs ++ [.slice A5 n5 c5]) (G ++ [q]) := by
  have hq : q.length = n5 := by have := o5.len; simpa using this
  subst hq
  obtain ⟨es, cl, hb⟩ := g.map.blk
  have z := f.size
  have z3 := hg.size
  have z4 := hg4.size
  have b1 := (g2.bag.below f (Nat.le_refl _))
  have b2 : Bag wq w.heap.size wq.heap.size ((⟨24, .slice A n c, n, vs⟩ :: rowsE 2 vs G) ++ ⟨2, .slice A5 q.length c5, q.length, q.map (Value.int .i64)⟩ :: []) := by
    refine Bag.ins (hi := w2.heap.size) (by simpa using b1) g2.bel.size z (row_lower o5.1 hlo) (fun y hy => ?_)
    exact (o5.1.lt y hy).2
  have b3 := (b2.grown_map hb hg).more z3
  have b4 := b3.set (j := 0) (e := ⟨24, .slice A n c, n, vs⟩) (e' := ⟨24, .slice (some ⟨g4, 0, none⟩) (n + 1) c4, n + 1, vs ++ [.slice A5 q.length c5]⟩) rfl (Nat.le_refl _) ho hg4 (fun y hy => by
    have hy' : g4 = y := by simpa [Value.ownBlock] using hy
    subst hy'
    rcases hor with h | h
    · left; rw [h]; rfl
    · exact .inr h)
  have hh : w3.ownsRow w.heap.size 24 1 (.slice A n c) n vs := (b3.get (j := 0) rfl)
  have hB : Below w.heap.size w w4 := (g.bel.grown hg g.bel.size (fun y hy => by cases hy; exact g.mb)).grown hg4 (by have := g.bel.size; omega) (fun y hy => (hh.lt y hy).1)
  refine ⟨?_, ?_, by simp [g.vl], by simp [g.gl], hB, g.mb⟩
  · rw [rowsE_snoc g.vl]
    simpa using b4
  · have := hm.grown_row hh hg4
    simpa using this
end
set_option maxHeartbeats 8000000 in
theorem groupElements_any (n : Nat) (A : Option Addr) (m c : Nat) (xss : List (List Int)) (w : World) {lo hi : Nat} (h : RS w lo hi A m xss) (hhi : hi ≤ w.heap.size) (hsys : isSysP n xss) {B : Nat} (hT : T10 B w) (hB : B ≤ w.heap.size) :
    Calls Tryd.prog 64 #[.int .i64 n, .slice A m c] w fun e w' => ∃ (A1 : Option Addr) (n1 c1 : Nat) (zss : List (List Int)) (ok : Bool), e = .returned (.tuple #[.slice A1 n1 c1, .bool ok]) ∧ Hid (GrpO n xss zss ok) ∧ OwnS w' w.heap.size w'.heap.size 24 2 A1 n1 c1 zss ∧ n1 + numsIn zss ≤ 1048576 ∧ Below w.heap.size w w' := by
  obtain ⟨s0, hs0, hu0, hu1, hu2⟩ := info_parts infoS
  have hn4 : n ≤ 400 := by have := hsys.2.1; omega
  have hml := h.len
  have hm16 : m ≤ 16 := by have := hsys.2.2.1; omega
  have hmx := h.max
  have hI := identity_any n w (by omega)
  have hmm := @run_makeMap Tryd.prog
  have hgs := GrpS.zero hsys
  have hpl : ∀ p ∈ xss, p.length = n := fun p hp => by have := (hsys.2.2.2 p hp).2; omega
  replace hsys := Lib.hid hsys
  replace hpl := Lib.hid hpl
  replace hml := Lib.hid hml
  replace hgs := Lib.hid hgs
  go_enter Tryd.func64, Tryd.ntmps64
  go_wp2_with fail
  ((with_reducible refine hI.mono ?_); rintro e w1 ⟨A1, rfl, o1, f1⟩)
  clear hI
  have y1 := f1.size
  have C0 : ((w1.alloc (.cells #[.slice A1 n n] 24)).alloc (.map #[] 0)).cell? ⟨w1.heap.size, 0, none⟩ = some (.slice A1 n n) := by
    have h0 : (w1.alloc (.cells #[.slice A1 n n] 24)).cell? ⟨w1.heap.size, 0, none⟩ = some (.slice A1 n n) := by rw [cell_of_row _ _ _ _ _ _ (heap_new w1 _ _ rfl)]; rfl
    exact (((Below.refl _ _).alloc (Nat.le_refl _) _).cell (p := ⟨w1.heap.size, 0, none⟩) (by simp)).trans h0
  have m0 := SetM.made (w1.alloc (.cells #[.slice A1 n n] 24)) Tryd.prog 9 4
  have f2 : Below w1.heap.size w1 ((w1.alloc (.cells #[.slice A1 n n] 24)).alloc (.map #[] 0)) := ((Below.refl _ _).alloc (Nat.le_refl _) _).alloc (by simp) _
  have hb0 : Bag ((w1.alloc (.cells #[.slice A1 n n] 24)).alloc (.map #[] 0)) w.heap.size ((w1.alloc (.cells #[.slice A1 n n] 24)).alloc (.map #[] 0)).heap.size (⟨24, .slice (some ⟨w1.heap.size, 0, none⟩) 1 1, 1, [.slice A1 n n]⟩ :: rowsE 2 [.slice A1 n n] [idL n]) := by
    have r1 : RowsOwn w1 w.heap.size w1.heap.size 2 [.slice A1 n n] [idL n] := (RowsOwn.nil (hi := w.heap.size)).snoc o1 (Nat.le_refl _) y1
    have r2 := r1.bag.below ((Below.refl w1.heap.size w1).alloc (Nat.le_refl _) (.cells #[.slice A1 n n] 24)) (Nat.le_refl _)
    have r3 := Bag.ins (P := []) (e := ⟨24, .slice (some ⟨w1.heap.size, 0, none⟩) 1 1, 1, [.slice A1 n n]⟩) (hi' := (w1.alloc (.cells #[.slice A1 n n] 24)).heap.size) r2 y1 (by simp) (own_litV w1 24 (.slice A1 n n)) (fun z hz => by simp [Value.ownBlock] at hz; subst hz; simp)
    exact (r3.below ((Below.refl _ _).alloc (Nat.le_refl _) _) (Nat.le_refl _)).more (by simp)
  have hz0 : ((w1.alloc (.cells #[.slice A1 n n] 24)).alloc (.map #[] 0)).heap.size = w1.heap.size + 2 := by simp
  have hzm : (w1.alloc (.cells #[.slice A1 n n] 24)).heap.size = w1.heap.size + 1 := by simp
  rw [hzm] at m0
  go_wp2_with fail
  obtain ⟨w2, hW⟩ : ∃ w2 : World, (w1.alloc (.cells #[.slice A1 n n] 24)).alloc (.map #[] 0) = w2 := ⟨_, rfl⟩
  rw [hW] at C0 m0 f2 hb0 hz0 ⊢
  clear hW hzm
  have y2 : w1.heap.size + 2 ≤ w2.heap.size := by omega
  clear hz0
  have B2 := f1.trans (f2.mono y1)
  have o2 := o1.below f2 (Nat.le_refl _)
  have hsi : ∀ x ∈ idL n, SmallM x := fun x hx => by
    have := (idL_perm hn4).rng x hx
    rw [idL_length] at this
    exact .inr ⟨by omega, by omega⟩
  have hK := keyOf_any A1 n n (idL n) w2 o2.ri (by omega) hsi (by omega) (hT.on (B2.mono hB)) (by omega)
  have hkl : (keyB (idL n)).length ≤ 1099511627776 := by have := keyB_len hsi; rw [idL_length] at this; omega
  have hke := keyS_of _ hkl
  go_wp2_with fail
  ((with_reducible refine hK.mono ?_); rintro e w3 ⟨rfl, f3⟩)
  clear hK C0 hsi hkl o2
  have y3 := f3.size
  have m3 := m0.below f3 (by omega)
  have b3 := (hb0.below f3 (Nat.le_refl _)).more y3
  have B3 := B2.trans (f3.mono (by omega))
  clear m0 hb0 o1
  obtain ⟨D, hown, hIs, hD⟩ := m3
  go_wp2_with (refine wpList_insert_own w3 rfl _ _ _ 110 rfl 9 4 keyS Tryd.underlying110 _ (w1.heap.size + 1) 0 D rfl hown (by unfold maxLen; omega) _ _ _ rfl rfl hke _ [] (plainElem_bool Tryd.underlying4 true) ?_)
  intro w4 hown4 hg4
  have y4 := hg4.size
  have m4 : SetM Tryd.prog 9 4 w4 (w1.heap.size + 1) 1 [keyB (idL n)] := SetM.put hIs hD _ hown4
  have b4 : Bag w4 w.heap.size w4.heap.size (⟨24, .slice (some ⟨w1.heap.size, 0, none⟩) 1 1, 1, [.slice A1 n n]⟩ :: rowsE 2 [.slice A1 n n] [idL n]) := by
    obtain ⟨es, cl, hb, _⟩ := hown
    exact (b3.grown_map hb hg4).more y4
  have B4 : Below w.heap.size w w4 := B3.grown hg4 (by omega) (fun y hy => by cases hy; omega)
  have g0 : GI w (w1.heap.size + 1) w4 (some ⟨w1.heap.size, 0, none⟩) 1 1 [.slice A1 n n] [idL n] := ⟨b4, m4, rfl, rfl, B4, by omega⟩
  clear b3 hown hIs hD hown4 m4 b4 f2 f3 hke
  obtain ⟨MB, hMB⟩ : ∃ MB, w1.heap.size + 1 = MB := ⟨_, rfl⟩
  rw [hMB] at g0 hg4 ⊢
  have hMB1 : w.heap.size ≤ MB := by omega
  clear hg4 B2 B3
  go_wp2_with fail
  go_loopw [6, 8] (fun ev iv wq => ∃ (i : Nat) (F : List (List Int)) (A6 : Option Addr) (n6 c6 : Nat) (vs : List Value), ev = .slice A6 n6 c6 ∧ iv = .int .i64 i ∧ i ≤ n6 ∧ n6 ≤ 1000 ∧ Hid (GrpS n xss i F) ∧ GI w MB wq A6 n6 c6 vs F) (fun _ iv _ => 1001 - (intOf iv).toNat)
  case atStart => exact ⟨0, [idL n], _, 1, 1, _, rfl, rfl, by omega, by omega, hgs, g0⟩
  case round =>
    clear g0 hgs B4
    obtain ⟨i, F, A6, n6, c6, vs, rfl, rfl, hi6, hn6, hS, hG⟩ := hrel
    have yq := hG.bel.size
    by_cases hlt : i < n6
    · have hgl := hG.gl
      obtain ⟨e0, he⟩ : ∃ e, F[i]? = some e := ⟨F[i]'(by omega), List.getElem?_eq_getElem (by omega)⟩
      have hR0 := Lib.hid (hS.out.start he)
      replace he := Lib.hid he
      clear hgl
      obtain ⟨wo, hwo⟩ : ∃ wo : World, wo = wr := ⟨_, rfl⟩
      have hGo := hG
      go_wp2_with fail
      go_loopw [6, 30] (fun ev kv wq => ∃ (k : Nat) (G : List (List Int)) (A7 : Option Addr) (n7 c7 : Nat) (vs : List Value), ev = .slice A7 n7 c7 ∧ kv = .int .i64 k ∧ k ≤ m ∧ n7 ≤ 1016 ∧ n6 ≤ n7 ∧ Hid (GrpR n xss i F e0 k G) ∧ GI w MB wq A7 n7 c7 vs G) (fun _ kv _ => m - (intOf kv).toNat)
      case atStart => exact ⟨0, F, A6, n6, c6, vs, rfl, rfl, by omega, by omega, by omega, hR0, hG⟩
      case round =>
        clear hG hGo hR0 hwo
        obtain ⟨k, G, A7, n7, c7, vs, rfl, rfl, hk, hn7, hn67, hR, hG⟩ := hrel
        have yk := hG.bel.size
        by_cases hkm : k < m
        · obtain ⟨b, o, Ap, np, cp, p, rfl, _, hb, hp, hpc, hpr⟩ := (h.below hG.bel hhi).at_ hkm
          have hprl := hpr.len
          have hpn := hpl.out p (mem_of_get? hp)
          have hst := hR.out.step hp
          obtain ⟨hq1, hq2⟩ := hR.out.prod hp
          obtain ⟨hep, hel⟩ := hR.out.e_perm
          have hGi := hR.out.at_G
          obtain ⟨bh, v, rfl, -, -, -, hvi, -, hvc, -⟩ := hG.hdr.at_ (k := i) (by omega)
          obtain ⟨Ae, ne, ce, rfl, oe⟩ := hG.row hvi hGi
          have hne := oe.lenI
          have hTh := then_any Ae ne ce e0 Ap np cp p wr oe.ri (Nat.le_refl _) hpr (by omega) (by omega) (fun x hx => by have := hep.rng x hx; omega)
          obtain ⟨q, hq⟩ : ∃ q, thenL e0 p = q := ⟨_, rfl⟩
          rw [hq] at hTh hst hq1 hq2
          have hqs : ∀ x ∈ q, SmallM x := fun x hx => .inr ⟨(hq1.rng x hx).1, by have := (hq1.rng x hx).2; omega⟩
          have hGs : ∀ xs ∈ G, ∀ x ∈ xs, SmallM x := fun xs hxs x hx => by
            obtain ⟨r1, r2⟩ := hR.out.all xs hxs
            exact .inr ⟨(r1.rng x hx).1, by have := (r1.rng x hx).2; omega⟩
          have hkm2 := key_mem hGs hqs
          have hkl : (keyB q).length ≤ 1099511627776 := by have := keyB_len hqs; omega
          have hke := keyS_of _ hkl
          have hnq : ne = n := by omega
          subst hnq
          have hlen7 := hst.len
          replace hGs := Lib.hid hGs
          replace hst := Lib.hid hst
          replace hGi := Lib.hid hGi
          replace hp := Lib.hid hp
          replace hq := Lib.hid hq
          replace hvi := Lib.hid hvi
          replace hel := Lib.hid hel
          replace hne := Lib.hid hne
          replace hpn := Lib.hid hpn
          replace hprl := Lib.hid hprl
          clear hkl hpr
          go_wp2_with fail
          ((with_reducible refine hTh.mono ?_); rintro e w5 ⟨A5, rfl, o5, f5⟩)
          clear hTh
          have y5 := f5.size
          have hG5 := hG.below f5
          have hK5 := keyOf_any A5 ne ne q w5 o5.ri (Nat.le_refl _) hqs (by omega) (hT.on (hG5.bel.mono hB)) (by omega)
          replace hqs := Lib.hid hqs
          go_wp2_with fail
          ((with_reducible refine hK5.mono ?_); rintro e w6 ⟨rfl, f6⟩)
          clear hK5
          have y6 := f6.size
          have hG6 := hG5.below f6
          have o6 := o5.below f6 (Nat.le_refl _)
          have f56 : Below wr.heap.size wr w6 := f5.trans (f6.mono y5)
          clear hG5 o5 f5 f6
          obtain ⟨D, hown, hIs, hD⟩ := hG6.map
          by_cases hin : q ∈ G
          · have hc : D.atKey (.string (keyB q)) (.lit (.bool false)) = .lit (.bool true) := by rw [hD, decide_eq_true (hkm2.2 hin)]
            have hadd : addG G q = G := if_pos hin
            rw [hadd] at hst hlen7
            replace hin := Lib.hid hin
            clear hD hkm2
            go_wp2_with (at_lookup; refine wpList_lookup_own_bool w6 rfl _ _ 110 rfl 9 4 keyS Tryd.underlying110 Tryd.underlying4 (zeroB _) MB _ D rfl hown _ _ rfl hke true hc ?_)
            clear hown hc
            go_roundw
            case measure => simp [intOf]; omega
            case rel => exact ⟨k + 1, G, _, n7, c7, vs, rfl, by go_num, by omega, hn7, hn67, hst, hG6⟩
          · have hc : D.atKey (.string (keyB q)) (.lit (.bool false)) = .lit (.bool false) := by rw [hD, decide_eq_false (fun hh => hin (hkm2.1 hh))]
            have hadd : addG G q = G ++ [q] := if_neg hin
            rw [hadd] at hst hlen7
            have hgl := hG.gl
            rw [List.length_append, List.length_singleton, hgl] at hlen7
            replace hin := Lib.hid hin
            replace hgl := Lib.hid hgl
            clear hkm2
            go_wp2_with (first | (at_lookup; refine wpList_lookup_own_bool w6 rfl _ _ 110 rfl 9 4 keyS Tryd.underlying110 Tryd.underlying4 (zeroB _) MB _ D rfl hown _ _ rfl hke false hc ?_) | (at_mapUpdate; refine wpList_mapUpdate_own w6 rfl _ _ _ 110 rfl 9 4 keyS Tryd.underlying110 _ MB G.length D rfl hown (by rw [hgl.out]; unfold maxLen; omega) _ _ _ rfl rfl hke _ [] (plainElem_bool Tryd.underlying4 true) ?_))
            intro w7 hown7 hg7
            have m7 : SetM Tryd.prog 9 4 w7 MB (G.length + 1) (G.map keyB ++ [keyB q]) := SetM.put hIs hD _ hown7
            have y7 := hg7.size
            have hh7 : w7.ownsRow w.heap.size 24 1 (.slice (some ⟨bh, 0, none⟩) n7 c7) n7 vs := by
              obtain ⟨es, cl, hbm, _⟩ := hown
              exact (hG6.bag.grown_map hbm hg7).get (j := 0) rfl
            clear hown hIs hD hown7 hke
            go_wp2_with (at_builtin; refine wpList_append1 w7 rfl (.tmp 48) (.tmp 50) 33 rfl w.heap.size 24 s0 (.slice none 0 0) 24 Tryd.underlying33 hs0 hu0 hu1 hu2 rfl (by omega) (some ⟨bh, 0, none⟩) n7 c7 _ (.slice A5 ne ne) rfl hh7 _ rfl rfl rfl (by omega) (by omega) ?_)
            intro g8 c8 w8 ho8 hg8 hlo8 hlt8 hor8
            have hG8 := hG6.add (o6.more (Nat.le_refl _) y6) (Nat.le_refl _) hG f56 m7 hg7 ho8 hg8 (hor8.imp (fun e => by rw [e]) id)
            clear hG hG6 o6 f56 m7 hg7 ho8 hg8 hor8 hh7
            go_wp2_with fail
            go_roundw
            case measure => simp [intOf]; omega
            case rel => exact ⟨k + 1, G ++ [q], _, n7 + 1, c8, _, rfl, by go_num, by omega, by omega, by omega, hst, hG8⟩
        · have hkm' : k = m := by omega
          subst hkm'
          have hgl := hG.gl
          have hR2 := hR.out
          rw [← hml.out] at hR2
          by_cases hbig : 1000 < n7
          · have hF : GrpO n xss [] false := hR2.many (by omega)
            replace hF := Lib.hid hF
            replace hgl := Lib.hid hgl
            clear hR2
            go_wp2_with fail
            go_ret2
            exact ⟨_, 0, _, [], false, rfl, hF, OwnS.nil, by simp [numsIn], hG.bel⟩
          · have hS2 := Lib.hid (hR2.next (by omega))
            replace hgl := Lib.hid hgl
            clear hR2
            go_wp2_with fail
            go_roundw
            case measure => simp [intOf]; omega
            case rel => exact ⟨i + 1, G, A7, n7, c7, vs, rfl, by go_num, by omega, by omega, hS2, hG⟩
    · have hi' : i = n6 := by omega
      have hgl := hG.gl
      have hvl := hG.vl
      have hdone := hS.out
      rw [hi', ← hgl] at hdone
      have hall := hdone.all
      have hpos := hdone.pos
      replace hdone := hdone.done
      have hps1 : (vs.zip F).map (·.1) = vs := List.map_fst_zip (by omega)
      have hps2 : (vs.zip F).map (·.2) = F := List.map_snd_zip (by omega)
      have hgood : ∀ p ∈ vs.zip F, GoodR wr w.heap.size 2 p := fun p hp => by
        obtain ⟨j, hj⟩ := List.mem_iff_getElem?.1 hp
        rw [List.getElem?_zip_eq_some] at hj
        obtain ⟨A2, n2, c2, e2, o2⟩ := hG.row hj.1 hj.2
        exact ⟨A2, n2, c2, e2, o2.1⟩
      have hSrt := sortG_any A6 n6 c6 (vs.zip F) wr (by rw [hps1]; exact hG.hdr.1) (by omega) (by omega) yq hgood
      have hEs : rowsE 2 vs F = (vs.zip F).map fun p => ⟨2, p.1, p.2.length, p.2.map (Value.int .i64)⟩ := by
        unfold rowsE
        rw [List.zip, List.map_zipWith]
      replace hdone := Lib.hid hdone
      replace hall := Lib.hid hall
      replace hgl := Lib.hid hgl
      replace hvl := Lib.hid hvl
      replace hpos := Lib.hid hpos
      replace hps1 := Lib.hid hps1
      replace hps2 := Lib.hid hps2
      replace hEs := Lib.hid hEs
      clear hgood hi'
      go_wp2_with fail
      ((with_reducible refine hSrt.mono ?_); rintro e w5 ⟨rfl, ps', hper, hsrt, ho5, hg5⟩)
      clear hSrt
      have y5 := hg5.size
      have b5 := hG.bag.set (j := 0) (e := ⟨24, .slice A6 n6 c6, n6, vs⟩) (e' := ⟨24, .slice A6 n6 c6, n6, ps'.map (·.1)⟩) rfl (Nat.le_refl _) ho5 hg5 (fun z hz => .inl hz)
      have hB5 : Below w.heap.size w w5 := hG.bel.grown hg5 yq (fun z hz => (hG.hdr.1.lt z hz).1)
      have hz : ps'.map (·.2) = srtG F := by
        refine srtG_of ?_ hsrt
        have := hper.map (·.2)
        rwa [hps2.out] at this
      have hO : OwnS w5 w.heap.size w5.heap.size 24 2 A6 n6 c6 (ps'.map (·.2)) := by
        have e5 : rowsE 2 (ps'.map (·.1)) (ps'.map (·.2)) = ps'.map fun p => ⟨2, p.1, p.2.length, p.2.map (Value.int .i64)⟩ := by
          unfold rowsE
          rw [List.zipWith_map, List.zipWith_self]
        have b6 : Bag w5 w.heap.size w5.heap.size (⟨24, .slice A6 n6 c6, n6, ps'.map (·.1)⟩ :: rowsE 2 (ps'.map (·.1)) (ps'.map (·.2))) := by
          rw [e5]
          refine b5.perm ?_
          rw [List.set_cons_zero, hEs.out]
          exact List.Perm.cons _ (hper.symm.map _)
        exact ⟨ps'.map (·.1), b6.getO (j := 0) rfl, b6.tail.rowsOwn (by simp)⟩
      have hF : GrpO n xss (ps'.map (·.2)) true := by unfold GrpO; rw [if_pos rfl]; exact ⟨F, hdone.out, hz⟩
      have hnum : n6 + numsIn (ps'.map (·.2)) ≤ 1048576 := by
        have h1 := numsIn_le (xss := ps'.map (·.2)) (n := 400) (fun p hp => by
          rw [hz] at hp
          have := (hall.out p ((srtG_perm F).mem_iff.1 hp)).2
          omega)
        have h2 := hO.len
        have := Nat.mul_le_mul_right 400 (show (ps'.map (·.2)).length ≤ 1000 by omega)
        omega
      replace hF := Lib.hid hF
      clear hper hsrt hz b5 ho5 hg5
      go_wp2_with fail
      go_ret2
      exact ⟨A6, n6, c6, _, true, rfl, hF, hO, hnum, hB5⟩
end Go.Proofs.YtcjnhiglfkcmiaaDoor
