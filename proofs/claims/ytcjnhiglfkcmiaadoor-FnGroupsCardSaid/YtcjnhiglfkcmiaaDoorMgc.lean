/- Draws: a new source (l01From). (Merged: Key, GrpI, GrpU, GrpX, CjP, PorP, GrpQ, LcgP, Drw, DrwF.) -/
import Derived.Test.YtcjnhiglfkcmiaaDoorGrpP
import Derived.Test.YtcjnhiglfkcmiaaDoorTxt
import Derived.Test.YtcjnhiglfkcmiaaDoorSha
import Derived.Test.YtcjnhiglfkcmiaaDoorSrtG
import Derived.Test.YtcjnhiglfkcmiaaDoorBgM
import Derived.Test.YtcjnhiglfkcmiaaDoorPow
import Derived.Test.YtcjnhiglfkcmiaaDoorOrbL
import Derived.Test.YtcjnhiglfkcmiaaDoorFormP
import Derived.Test.YtcjnhiglfkcmiaaDoorGrpT
import Derived.Test.YtcjnhiglfkcmiaaDoorWord
import Derived.Test.YtcjnhiglfkcmiaaDoorOrbO
import Derived.Test.YtcjnhiglfkcmiaaDoorOrdP
import Derived.WalkKit
import Derived.Test.YtcjnhiglfkcmiaaDoorProg
import Derived.Outline
import Derived.Test.YtcjnhiglfkcmiaaDoorVoc
import Derived.Lib.EndianBits
import Derived.Test.YtcjnhiglfkcmiaaDoorApp
/- Key -/
namespace Go.Proofs.YtcjnhiglfkcmiaaDoor
open Go.RowKit
set_option linter.unusedVariables false
set_option maxRecDepth 100000
theorem infoU : (Tryd.prog.info? 5).map (fun i => (i.zero, i.size, i.bytes)) = some (some (.int .u8 0), 1, 1) := by kernel_rfl
theorem conv_list (W : World) (A : Option Addr) (n c : Nat) (L : List UInt8) {lo hi : Nat} (h : Rd W lo hi A n (Lib.byteCells L)) :
    (convert 22 9 (.slice A n c)).run Tryd.prog W = .ok (.string (strB L)) W := by
  have hn : L.length = n := by have := h.1; simpa [Lib.byteCells] using this
  subst hn
  cases A with
  | none =>
    have hL : L = [] := by
      cases L with
      | nil => rfl
      | cons a r =>
        obtain ⟨b, o, v, e, _⟩ := h.at_ (k := 0) (by simp)
        cases e
    subst hL
    exact run_convert_bytes_nil W 22 5 Tryd.underlying22 Tryd.underlying5 _ _ 9 Tryd.underlying9
  | some a =>
    refine run_convert_bytes_back W 22 9 5 a c L Tryd.underlying22 Tryd.underlying5 Tryd.underlying9 fun j hj => ?_
    obtain ⟨b, o, v, e, _, _, hv, hc⟩ := h.at_ hj
    injection e with e
    subst e
    rw [Addr.add_lit, hc]
    have : (Lib.byteCells L)[j]? = some (.int .u8 (L[j].toNat : Int)) := by simp [Lib.byteCells, List.getElem?_eq_getElem hj]
    rw [this] at hv
    exact hv.symm
theorem T10.up {B B' : Nat} {w : World} (h : T10 B w) (hB : B ≤ B') : T10 B' w := fun w' hb => h w' (hb.mono hB)
set_option maxHeartbeats 4000000 in
theorem keyOf_any (A : Option Addr) (n c : Nat) (xs : List Int) (w : World) {lo hi : Nat} (h : RI w lo hi A n xs) (hhi : hi ≤ w.heap.size) (hs : ∀ x ∈ xs, SmallM x) (hn : n ≤ 1048576) {B : Nat} (hT : T10 B w) (hB : B ≤ w.heap.size) :
    Calls Tryd.prog 90 #[.slice A n c] w fun e w' => e = .returned (.string (strB (keyB xs))) ∧ Below w.heap.size w w' := by
  obtain ⟨j0, hj0, hy0, hy1, hy2⟩ := info_parts infoU
  have hl := h.len
  have hlen : ∀ k, (keyB (xs.take k)).length ≤ 24117248 := fun k => by
    have h1 := keyB_len (xs := xs.take k) fun x hx => hs x (List.mem_of_mem_take hx)
    rw [List.length_take] at h1
    omega
  have hT2 := hT.up hB
  replace hs := Lib.hid hs
  replace hT2 := Lib.hid hT2
  replace hl := Lib.hid hl
  replace hlen := Lib.hid hlen
  go_enter Tryd.func90, Tryd.ntmps90
  go_wp2_with fail
  go_loopw [8, 3] (fun kv sv wq => ∃ (k m : Nat) (A1 : Option Addr) (c1 : Nat) (L : List UInt8), k ≤ n ∧ kv = .int .i64 k ∧ sv = .slice A1 m c1 ∧ m ≤ 24117248 ∧ Hid (L = keyB (xs.take k) ∧ L.length = m) ∧ Hid (wq.ownsRow w.heap.size 5 1 (.slice A1 m c1) m (Lib.byteCells L)) ∧ Below w.heap.size w wq) (fun kv _ _ => n - (intOf kv).toNat)
  case atStart => exact ⟨0, 0, none, 0, [], by omega, rfl, rfl, by omega, Lib.hid ⟨rfl, rfl⟩, Lib.hid (by simpa [Lib.byteCells] using World.ownsRow_nil w w.heap.size 5 1), Below.refl _ _⟩
  case round =>
    obtain ⟨k, m, A1, c1, L, hk, rfl, rfl, hm, hL, hO, hBr⟩ := hrel
    have yr := hBr.size
    by_cases hlt : k < n
    · obtain ⟨b, o, x, rfl, _, hb, hx, hcx⟩ := (h.below hBr hhi).at_ hlt
      have hxs := hs.out x (mem_of_get? hx)
      have hx0 : -9223372036854775808 ≤ x ∧ x ≤ 9223372036854775807 := by
        rcases hxs with rfl | hxs
        · omega
        · have := hxs.1; have := hxs.2; omega
      have hD := strconv_AppendInt_10 w.heap.size m x hx0.1 hx0.2 (.slice A1 m c1) (Lib.byteCells L) wr hO.out (by omega) (by omega) (hT2.out.on hBr)
      have htk := keyB_take hx
      replace htk := Lib.hid htk
      have hlk := hlen.out (k + 1)
      rw [htk.out, ← hL.out.1] at hlk
      simp only [List.length_append, List.length_singleton] at hlk
      have hLm := hL.out.2
      obtain ⟨d, hd⟩ : ∃ d, (Lib.itoa x).length = d := ⟨_, rfl⟩
      rw [hd] at hD hlk
      replace hd := Lib.hid hd
      replace hLm := Lib.hid hLm
      clear hx hxs
      go_wp2_with fail
      ((with_reducible refine hD.mono ?_); rintro e w1 ⟨v1, rfl, hO1, f1, -⟩)
      clear hD
      obtain ⟨A2, c2, rfl⟩ := slice_of_own' hO1
      have y1 := f1.size
      have hB1 := hBr.trans f1
      have hlm2 : m + d ≤ 24117248 := by have := hLm.out; omega
      go_wp2_with (at_builtin; refine wpList_append1 w1 rfl (.tmp 15) (.tmp 16) 22 rfl w.heap.size 5 j0 (.int .u8 0) 1 Tryd.underlying22 hj0 hy0 hy1 hy2 rfl (by omega) A2 (m + d) c2 _ (.int .u8 32) rfl hO1 _ rfl rfl rfl (by omega) (by omega) ?_)
      intro g c4 w2 ho2 hg2 hlo2 hlt2 hor2
      have hB2 := hB1.grown hg2 (by omega) (fun q hq => by have := (hO1.lt q hq).1; omega)
      have ho3 : Hid (w2.ownsRow w.heap.size 5 1 (.slice (some ⟨g, 0, none⟩) (m + d + 1) c4) (m + d + 1) (Lib.byteCells (L ++ (Lib.itoa x ++ [32])))) := Lib.hid (by
        have e : Lib.byteCells (L ++ (Lib.itoa x ++ [32])) = Lib.byteCells L ++ Lib.byteCells (Lib.itoa x) ++ [.int .u8 32] := by simp [Lib.byteCells]
        rw [e, List.append_assoc]; simpa using ho2)
      have hL3 : Hid (L ++ (Lib.itoa x ++ [32]) = keyB (xs.take (k + 1)) ∧ (L ++ (Lib.itoa x ++ [32])).length = m + d + 1) := Lib.hid ⟨by rw [htk.out, hL.out.1], by
        have := hLm.out; have := hd.out
        simp only [List.length_append, List.length_singleton]; omega⟩
      have hlm3 : m + d + 1 ≤ 24117248 := by have := hLm.out; omega
      clear ho2 hg2 hor2 hO1 hO hL
      go_wp2_with fail
      go_roundw
      case measure => simp [intOf]; omega
      case rel => exact ⟨k + 1, m + d + 1, _, c4, _, by omega, by go_num, rfl, hlm3, hL3, ho3, hB2⟩
    · obtain rfl : k = n := by omega
      have hcv := conv_list wr A1 m c1 L (Own.of_row hO.out).rd
      have hF : L = keyB xs := by
        have := hL.out.1
        rwa [List.take_of_length_le (by rw [hl.out]; exact Nat.le_refl _)] at this
      replace hF := Lib.hid hF
      go_wp2_with fail
      go_ret
      exact ⟨by rw [hF.out]; rfl, hBr⟩
end Go.Proofs.YtcjnhiglfkcmiaaDoor
/- GrpI -/
namespace Go.Proofs.YtcjnhiglfkcmiaaDoor
open Go.RowKit
open Go.Maps (Keyed string_keyed)
set_option linter.unusedVariables false
set_option maxRecDepth 100000
theorem keyS : Keyed Tryd.prog 9 := string_keyed Tryd.underlying9
theorem zeroB (w : World) : (zeroValue 4).run Tryd.prog w = .ok (.bool false) w := by kernel_rfl
theorem keyS_of (L : List UInt8) (h : L.length ≤ 1099511627776) : keyOf Tryd.prog 9 (.string (strB L)) = some (.string L) := by
  have := Go.WideMaps.keyOf_string_mk (P := Tryd.prog) (k := 9) Tryd.underlying9 (s := strB L) (by rw [strB_size]; unfold maxLen; omega)
  rwa [strB_data] at this
theorem own_litV (w : World) (T : TypeId) (v : Value) : (w.alloc (.cells #[v] T)).ownsRow w.heap.size T 1 (.slice (some ⟨w.heap.size, 0, none⟩) 1 1) 1 [v] :=
  World.ownsRow_lit (e := T) (base := w.heap.size) (size := 1) w #[v] 1 (Nat.le_refl _) (by simp only [maxLen]; omega) rfl
/-- what groupElements returns -/
def GrpO (n : Nat) (xss zss : List (List Int)) (ok : Bool) : Prop := if ok = true then ∃ F, grpL n xss = some F ∧ zss = srtG F else grpL n xss = none
/-- the memory of the search: the row of the elements, their rows, the map of the keys -/
structure GI (w : World) (MB : Nat) (wq : World) (A : Option Addr) (n c : Nat) (vs : List Value) (G : List (List Int)) : Prop where
  bag : Bag wq w.heap.size wq.heap.size (⟨24, .slice A n c, n, vs⟩ :: rowsE 2 vs G)
  map : SetM Tryd.prog 9 4 wq MB G.length (G.map keyB)
  vl : vs.length = G.length
  gl : G.length = n
  bel : Below w.heap.size w wq
  mb : w.heap.size ≤ MB
section
variable {w wq w2 : World} {MB : Nat} {A : Option Addr} {n c : Nat} {vs : List Value} {G : List (List Int)}
theorem GI.hdr (g : GI w MB wq A n c vs G) : Own wq w.heap.size wq.heap.size 24 A n c vs := g.bag.getO (j := 0) rfl
theorem GI.row (g : GI w MB wq A n c vs G) {k : Nat} {v : Value} {xs : List Int} (h1 : vs[k]? = some v) (h2 : G[k]? = some xs) : ∃ A1 n1 c1, v = .slice A1 n1 c1 ∧ Own wq w.heap.size wq.heap.size 2 A1 n1 c1 (xs.map (Value.int .i64)) :=
  g.bag.row (fun e he => List.mem_cons_of_mem _ he) h1 h2
theorem GI.below (g : GI w MB wq A n c vs G) (f : Below wq.heap.size wq w2) : GI w MB w2 A n c vs G :=
  ⟨(g.bag.below f (Nat.le_refl _)).more f.size, g.map.below f g.map.lt, g.vl, g.gl, g.bel.trans (f.mono g.bel.size), g.mb⟩
/-- a new element: its key is put into the map, its row behind the others -/
theorem GI.add (g : GI w MB wq A n c vs G) {w3 w4 : World} {A5 : Option Addr} {n5 c5 lo5 : Nat} {q : List Int} (o5 : Own wq lo5 wq.heap.size 2 A5 n5 c5 (q.map (Value.int .i64))) (hlo : w2.heap.size ≤ lo5)
    (g2 : GI w MB w2 A n c vs G) (f : Below w2.heap.size w2 wq)
    (hm : SetM Tryd.prog 9 4 w3 MB (G.length + 1) (G.map keyB ++ [keyB q])) (hg : wq.grownBy w3 (some MB))
    {g4 c4 : Nat} (ho : w4.ownsRow w.heap.size 24 1 (.slice (some ⟨g4, 0, none⟩) (n + 1) c4) (n + 1) (vs ++ [.slice A5 n5 c5])) (hg4 : w3.grownBy w4 (Value.slice A n c).ownBlock) (hor : A = some ⟨g4, 0, none⟩ ∨ w3.heap.size ≤ g4) :
    GI w MB w4 (some ⟨g4, 0, none⟩) (n + 1) c4 (vs ++ [.slice A5 n5 c5]) (G ++ [q]) := by
  have hq : q.length = n5 := by have := o5.len; simpa using this
  subst hq
  obtain ⟨es, cl, hb⟩ := g.map.blk
  have z := f.size
  have z3 := hg.size
  have z4 := hg4.size
  have b1 := (g2.bag.below f (Nat.le_refl _))
  have b2 : Bag wq w.heap.size wq.heap.size ((⟨24, .slice A n c, n, vs⟩ :: rowsE 2 vs G) ++ ⟨2, .slice A5 q.length c5, q.length, q.map (Value.int .i64)⟩ :: []) := by
    refine Bag.ins (hi := w2.heap.size) (by simpa using b1) g2.bel.size z (row_lower o5.1 hlo) (fun y hy => ?_)
    exact (o5.1.lt y hy).2
  have b3 := (b2.grown_map hb hg).more z3
  have b4 := b3.set (j := 0) (e := ⟨24, .slice A n c, n, vs⟩) (e' := ⟨24, .slice (some ⟨g4, 0, none⟩) (n + 1) c4, n + 1, vs ++ [.slice A5 q.length c5]⟩) rfl (Nat.le_refl _) ho hg4 (fun y hy => by
    have hy' : g4 = y := by simpa [Value.ownBlock] using hy
    subst hy'
    rcases hor with h | h
    · left; rw [h]; rfl
    · exact .inr h)
  have hh : w3.ownsRow w.heap.size 24 1 (.slice A n c) n vs := (b3.get (j := 0) rfl)
  have hB : Below w.heap.size w w4 := (g.bel.grown hg g.bel.size (fun y hy => by cases hy; exact g.mb)).grown hg4 (by have := g.bel.size; omega) (fun y hy => (hh.lt y hy).1)
  refine ⟨?_, ?_, by simp [g.vl], by simp [g.gl], hB, g.mb⟩
  · rw [rowsE_snoc g.vl]
    simpa using b4
  · have := hm.grown_row hh hg4
    simpa using this
end
set_option maxHeartbeats 8000000 in
theorem groupElements_any (n : Nat) (A : Option Addr) (m c : Nat) (xss : List (List Int)) (w : World) {lo hi : Nat} (h : RS w lo hi A m xss) (hhi : hi ≤ w.heap.size) (hsys : isSysP n xss) {B : Nat} (hT : T10 B w) (hB : B ≤ w.heap.size) :
    Calls Tryd.prog 64 #[.int .i64 n, .slice A m c] w fun e w' => ∃ (A1 : Option Addr) (n1 c1 : Nat) (zss : List (List Int)) (ok : Bool), e = .returned (.tuple #[.slice A1 n1 c1, .bool ok]) ∧ Hid (GrpO n xss zss ok) ∧ OwnS w' w.heap.size w'.heap.size 24 2 A1 n1 c1 zss ∧ n1 + numsIn zss ≤ 1048576 ∧ Below w.heap.size w w' := by
  obtain ⟨s0, hs0, hu0, hu1, hu2⟩ := info_parts infoS
  have hn4 : n ≤ 400 := by have := hsys.2.1; omega
  have hml := h.len
  have hm16 : m ≤ 16 := by have := hsys.2.2.1; omega
  have hmx := h.max
  have hI := identity_any n w (by omega)
  have hmm := @run_makeMap Tryd.prog
  have hgs := GrpS.zero hsys
  have hpl : ∀ p ∈ xss, p.length = n := fun p hp => by have := (hsys.2.2.2 p hp).2; omega
  replace hsys := Lib.hid hsys
  replace hpl := Lib.hid hpl
  replace hml := Lib.hid hml
  replace hgs := Lib.hid hgs
  go_enter Tryd.func64, Tryd.ntmps64
  go_wp2_with fail
  ((with_reducible refine hI.mono ?_); rintro e w1 ⟨A1, rfl, o1, f1⟩)
  clear hI
  have y1 := f1.size
  have C0 : ((w1.alloc (.cells #[.slice A1 n n] 24)).alloc (.map #[] 0)).cell? ⟨w1.heap.size, 0, none⟩ = some (.slice A1 n n) := by
    have h0 : (w1.alloc (.cells #[.slice A1 n n] 24)).cell? ⟨w1.heap.size, 0, none⟩ = some (.slice A1 n n) := by rw [cell_of_row _ _ _ _ _ _ (heap_new w1 _ _ rfl)]; rfl
    exact (((Below.refl _ _).alloc (Nat.le_refl _) _).cell (p := ⟨w1.heap.size, 0, none⟩) (by simp)).trans h0
  have m0 := SetM.made (w1.alloc (.cells #[.slice A1 n n] 24)) Tryd.prog 9 4
  have f2 : Below w1.heap.size w1 ((w1.alloc (.cells #[.slice A1 n n] 24)).alloc (.map #[] 0)) := ((Below.refl _ _).alloc (Nat.le_refl _) _).alloc (by simp) _
  have hb0 : Bag ((w1.alloc (.cells #[.slice A1 n n] 24)).alloc (.map #[] 0)) w.heap.size ((w1.alloc (.cells #[.slice A1 n n] 24)).alloc (.map #[] 0)).heap.size (⟨24, .slice (some ⟨w1.heap.size, 0, none⟩) 1 1, 1, [.slice A1 n n]⟩ :: rowsE 2 [.slice A1 n n] [idL n]) := by
    have r1 : RowsOwn w1 w.heap.size w1.heap.size 2 [.slice A1 n n] [idL n] := (RowsOwn.nil (hi := w.heap.size)).snoc o1 (Nat.le_refl _) y1
    have r2 := r1.bag.below ((Below.refl w1.heap.size w1).alloc (Nat.le_refl _) (.cells #[.slice A1 n n] 24)) (Nat.le_refl _)
    have r3 := Bag.ins (P := []) (e := ⟨24, .slice (some ⟨w1.heap.size, 0, none⟩) 1 1, 1, [.slice A1 n n]⟩) (hi' := (w1.alloc (.cells #[.slice A1 n n] 24)).heap.size) r2 y1 (by simp) (own_litV w1 24 (.slice A1 n n)) (fun z hz => by simp [Value.ownBlock] at hz; subst hz; simp)
    exact (r3.below ((Below.refl _ _).alloc (Nat.le_refl _) _) (Nat.le_refl _)).more (by simp)
  have hz0 : ((w1.alloc (.cells #[.slice A1 n n] 24)).alloc (.map #[] 0)).heap.size = w1.heap.size + 2 := by simp
  have hzm : (w1.alloc (.cells #[.slice A1 n n] 24)).heap.size = w1.heap.size + 1 := by simp
  rw [hzm] at m0
  go_wp2_with fail
  obtain ⟨w2, hW⟩ : ∃ w2 : World, (w1.alloc (.cells #[.slice A1 n n] 24)).alloc (.map #[] 0) = w2 := ⟨_, rfl⟩
  rw [hW] at C0 m0 f2 hb0 hz0 ⊢
  clear hW hzm
  have y2 : w1.heap.size + 2 ≤ w2.heap.size := by omega
  clear hz0
  have B2 := f1.trans (f2.mono y1)
  have o2 := o1.below f2 (Nat.le_refl _)
  have hsi : ∀ x ∈ idL n, SmallM x := fun x hx => by
    have := (idL_perm hn4).rng x hx
    rw [idL_length] at this
    exact .inr ⟨by omega, by omega⟩
  have hK := keyOf_any A1 n n (idL n) w2 o2.ri (by omega) hsi (by omega) (hT.on (B2.mono hB)) (by omega)
  have hkl : (keyB (idL n)).length ≤ 1099511627776 := by have := keyB_len hsi; rw [idL_length] at this; omega
  have hke := keyS_of _ hkl
  go_wp2_with fail
  ((with_reducible refine hK.mono ?_); rintro e w3 ⟨rfl, f3⟩)
  clear hK C0 hsi hkl o2
  have y3 := f3.size
  have m3 := m0.below f3 (by omega)
  have b3 := (hb0.below f3 (Nat.le_refl _)).more y3
  have B3 := B2.trans (f3.mono (by omega))
  clear m0 hb0 o1
  obtain ⟨D, hown, hIs, hD⟩ := m3
  go_wp2_with (refine wpList_insert_own w3 rfl _ _ _ 110 rfl 9 4 keyS Tryd.underlying110 _ (w1.heap.size + 1) 0 D rfl hown (by unfold maxLen; omega) _ _ _ rfl rfl hke _ [] (plainElem_bool Tryd.underlying4 true) ?_)
  intro w4 hown4 hg4
  have y4 := hg4.size
  have m4 : SetM Tryd.prog 9 4 w4 (w1.heap.size + 1) 1 [keyB (idL n)] := SetM.put hIs hD _ hown4
  have b4 : Bag w4 w.heap.size w4.heap.size (⟨24, .slice (some ⟨w1.heap.size, 0, none⟩) 1 1, 1, [.slice A1 n n]⟩ :: rowsE 2 [.slice A1 n n] [idL n]) := by
    obtain ⟨es, cl, hb, _⟩ := hown
    exact (b3.grown_map hb hg4).more y4
  have B4 : Below w.heap.size w w4 := B3.grown hg4 (by omega) (fun y hy => by cases hy; omega)
  have g0 : GI w (w1.heap.size + 1) w4 (some ⟨w1.heap.size, 0, none⟩) 1 1 [.slice A1 n n] [idL n] := ⟨b4, m4, rfl, rfl, B4, by omega⟩
  clear b3 hown hIs hD hown4 m4 b4 f2 f3 hke
  obtain ⟨MB, hMB⟩ : ∃ MB, w1.heap.size + 1 = MB := ⟨_, rfl⟩
  rw [hMB] at g0 hg4 ⊢
  have hMB1 : w.heap.size ≤ MB := by omega
  clear hg4 B2 B3
  go_wp2_with fail
  go_loopw [6, 8] (fun ev iv wq => ∃ (i : Nat) (F : List (List Int)) (A6 : Option Addr) (n6 c6 : Nat) (vs : List Value), ev = .slice A6 n6 c6 ∧ iv = .int .i64 i ∧ i ≤ n6 ∧ n6 ≤ 1000 ∧ Hid (GrpS n xss i F) ∧ GI w MB wq A6 n6 c6 vs F) (fun _ iv _ => 1001 - (intOf iv).toNat)
  case atStart => exact ⟨0, [idL n], _, 1, 1, _, rfl, rfl, by omega, by omega, hgs, g0⟩
  case round =>
    clear g0 hgs B4
    obtain ⟨i, F, A6, n6, c6, vs, rfl, rfl, hi6, hn6, hS, hG⟩ := hrel
    have yq := hG.bel.size
    by_cases hlt : i < n6
    · have hgl := hG.gl
      obtain ⟨e0, he⟩ : ∃ e, F[i]? = some e := ⟨F[i]'(by omega), List.getElem?_eq_getElem (by omega)⟩
      have hR0 := Lib.hid (hS.out.start he)
      replace he := Lib.hid he
      clear hgl
      obtain ⟨wo, hwo⟩ : ∃ wo : World, wo = wr := ⟨_, rfl⟩
      have hGo := hG
      go_wp2_with fail
      go_loopw [6, 30] (fun ev kv wq => ∃ (k : Nat) (G : List (List Int)) (A7 : Option Addr) (n7 c7 : Nat) (vs : List Value), ev = .slice A7 n7 c7 ∧ kv = .int .i64 k ∧ k ≤ m ∧ n7 ≤ 1016 ∧ n6 ≤ n7 ∧ Hid (GrpR n xss i F e0 k G) ∧ GI w MB wq A7 n7 c7 vs G) (fun _ kv _ => m - (intOf kv).toNat)
      case atStart => exact ⟨0, F, A6, n6, c6, vs, rfl, rfl, by omega, by omega, by omega, hR0, hG⟩
      case round =>
        clear hG hGo hR0 hwo
        obtain ⟨k, G, A7, n7, c7, vs, rfl, rfl, hk, hn7, hn67, hR, hG⟩ := hrel
        have yk := hG.bel.size
        by_cases hkm : k < m
        · obtain ⟨b, o, Ap, np, cp, p, rfl, _, hb, hp, hpc, hpr⟩ := (h.below hG.bel hhi).at_ hkm
          have hprl := hpr.len
          have hpn := hpl.out p (mem_of_get? hp)
          have hst := hR.out.step hp
          obtain ⟨hq1, hq2⟩ := hR.out.prod hp
          obtain ⟨hep, hel⟩ := hR.out.e_perm
          have hGi := hR.out.at_G
          obtain ⟨bh, v, rfl, -, -, -, hvi, -, hvc, -⟩ := hG.hdr.at_ (k := i) (by omega)
          obtain ⟨Ae, ne, ce, rfl, oe⟩ := hG.row hvi hGi
          have hne := oe.lenI
          have hTh := then_any Ae ne ce e0 Ap np cp p wr oe.ri (Nat.le_refl _) hpr (by omega) (by omega) (fun x hx => by have := hep.rng x hx; omega)
          obtain ⟨q, hq⟩ : ∃ q, thenL e0 p = q := ⟨_, rfl⟩
          rw [hq] at hTh hst hq1 hq2
          have hqs : ∀ x ∈ q, SmallM x := fun x hx => .inr ⟨(hq1.rng x hx).1, by have := (hq1.rng x hx).2; omega⟩
          have hGs : ∀ xs ∈ G, ∀ x ∈ xs, SmallM x := fun xs hxs x hx => by
            obtain ⟨r1, r2⟩ := hR.out.all xs hxs
            exact .inr ⟨(r1.rng x hx).1, by have := (r1.rng x hx).2; omega⟩
          have hkm2 := key_mem hGs hqs
          have hkl : (keyB q).length ≤ 1099511627776 := by have := keyB_len hqs; omega
          have hke := keyS_of _ hkl
          have hnq : ne = n := by omega
          subst hnq
          have hlen7 := hst.len
          replace hGs := Lib.hid hGs
          replace hst := Lib.hid hst
          replace hGi := Lib.hid hGi
          replace hp := Lib.hid hp
          replace hq := Lib.hid hq
          replace hvi := Lib.hid hvi
          replace hel := Lib.hid hel
          replace hne := Lib.hid hne
          replace hpn := Lib.hid hpn
          replace hprl := Lib.hid hprl
          clear hkl hpr
          go_wp2_with fail
          ((with_reducible refine hTh.mono ?_); rintro e w5 ⟨A5, rfl, o5, f5⟩)
          clear hTh
          have y5 := f5.size
          have hG5 := hG.below f5
          have hK5 := keyOf_any A5 ne ne q w5 o5.ri (Nat.le_refl _) hqs (by omega) (hT.on (hG5.bel.mono hB)) (by omega)
          replace hqs := Lib.hid hqs
          go_wp2_with fail
          ((with_reducible refine hK5.mono ?_); rintro e w6 ⟨rfl, f6⟩)
          clear hK5
          have y6 := f6.size
          have hG6 := hG5.below f6
          have o6 := o5.below f6 (Nat.le_refl _)
          have f56 : Below wr.heap.size wr w6 := f5.trans (f6.mono y5)
          clear hG5 o5 f5 f6
          obtain ⟨D, hown, hIs, hD⟩ := hG6.map
          by_cases hin : q ∈ G
          · have hc : D.atKey (.string (keyB q)) (.lit (.bool false)) = .lit (.bool true) := by rw [hD, decide_eq_true (hkm2.2 hin)]
            have hadd : addG G q = G := if_pos hin
            rw [hadd] at hst hlen7
            replace hin := Lib.hid hin
            clear hD hkm2
            go_wp2_with (at_lookup; refine wpList_lookup_own_bool w6 rfl _ _ 110 rfl 9 4 keyS Tryd.underlying110 Tryd.underlying4 (zeroB _) MB _ D rfl hown _ _ rfl hke true hc ?_)
            clear hown hc
            go_roundw
            case measure => simp [intOf]; omega
            case rel => exact ⟨k + 1, G, _, n7, c7, vs, rfl, by go_num, by omega, hn7, hn67, hst, hG6⟩
          · have hc : D.atKey (.string (keyB q)) (.lit (.bool false)) = .lit (.bool false) := by rw [hD, decide_eq_false (fun hh => hin (hkm2.1 hh))]
            have hadd : addG G q = G ++ [q] := if_neg hin
            rw [hadd] at hst hlen7
            have hgl := hG.gl
            rw [List.length_append, List.length_singleton, hgl] at hlen7
            replace hin := Lib.hid hin
            replace hgl := Lib.hid hgl
            clear hkm2
            go_wp2_with (first | (at_lookup; refine wpList_lookup_own_bool w6 rfl _ _ 110 rfl 9 4 keyS Tryd.underlying110 Tryd.underlying4 (zeroB _) MB _ D rfl hown _ _ rfl hke false hc ?_) | (at_mapUpdate; refine wpList_mapUpdate_own w6 rfl _ _ _ 110 rfl 9 4 keyS Tryd.underlying110 _ MB G.length D rfl hown (by rw [hgl.out]; unfold maxLen; omega) _ _ _ rfl rfl hke _ [] (plainElem_bool Tryd.underlying4 true) ?_))
            intro w7 hown7 hg7
            have m7 : SetM Tryd.prog 9 4 w7 MB (G.length + 1) (G.map keyB ++ [keyB q]) := SetM.put hIs hD _ hown7
            have y7 := hg7.size
            have hh7 : w7.ownsRow w.heap.size 24 1 (.slice (some ⟨bh, 0, none⟩) n7 c7) n7 vs := by
              obtain ⟨es, cl, hbm, _⟩ := hown
              exact (hG6.bag.grown_map hbm hg7).get (j := 0) rfl
            clear hown hIs hD hown7 hke
            go_wp2_with (at_builtin; refine wpList_append1 w7 rfl (.tmp 48) (.tmp 50) 33 rfl w.heap.size 24 s0 (.slice none 0 0) 24 Tryd.underlying33 hs0 hu0 hu1 hu2 rfl (by omega) (some ⟨bh, 0, none⟩) n7 c7 _ (.slice A5 ne ne) rfl hh7 _ rfl rfl rfl (by omega) (by omega) ?_)
            intro g8 c8 w8 ho8 hg8 hlo8 hlt8 hor8
            have hG8 := hG6.add (o6.more (Nat.le_refl _) y6) (Nat.le_refl _) hG f56 m7 hg7 ho8 hg8 (hor8.imp (fun e => by rw [e]) id)
            clear hG hG6 o6 f56 m7 hg7 ho8 hg8 hor8 hh7
            go_wp2_with fail
            go_roundw
            case measure => simp [intOf]; omega
            case rel => exact ⟨k + 1, G ++ [q], _, n7 + 1, c8, _, rfl, by go_num, by omega, by omega, by omega, hst, hG8⟩
        · have hkm' : k = m := by omega
          subst hkm'
          have hgl := hG.gl
          have hR2 := hR.out
          rw [← hml.out] at hR2
          by_cases hbig : 1000 < n7
          · have hF : GrpO n xss [] false := hR2.many (by omega)
            replace hF := Lib.hid hF
            replace hgl := Lib.hid hgl
            clear hR2
            go_wp2_with fail
            go_ret2
            exact ⟨_, 0, _, [], false, rfl, hF, OwnS.nil, by simp [numsIn], hG.bel⟩
          · have hS2 := Lib.hid (hR2.next (by omega))
            replace hgl := Lib.hid hgl
            clear hR2
            go_wp2_with fail
            go_roundw
            case measure => simp [intOf]; omega
            case rel => exact ⟨i + 1, G, A7, n7, c7, vs, rfl, by go_num, by omega, by omega, hS2, hG⟩
    · have hi' : i = n6 := by omega
      have hgl := hG.gl
      have hvl := hG.vl
      have hdone := hS.out
      rw [hi', ← hgl] at hdone
      have hall := hdone.all
      have hpos := hdone.pos
      replace hdone := hdone.done
      have hps1 : (vs.zip F).map (·.1) = vs := List.map_fst_zip (by omega)
      have hps2 : (vs.zip F).map (·.2) = F := List.map_snd_zip (by omega)
      have hgood : ∀ p ∈ vs.zip F, GoodR wr w.heap.size 2 p := fun p hp => by
        obtain ⟨j, hj⟩ := List.mem_iff_getElem?.1 hp
        rw [List.getElem?_zip_eq_some] at hj
        obtain ⟨A2, n2, c2, e2, o2⟩ := hG.row hj.1 hj.2
        exact ⟨A2, n2, c2, e2, o2.1⟩
      have hSrt := sortG_any A6 n6 c6 (vs.zip F) wr (by rw [hps1]; exact hG.hdr.1) (by omega) (by omega) yq hgood
      have hEs : rowsE 2 vs F = (vs.zip F).map fun p => ⟨2, p.1, p.2.length, p.2.map (Value.int .i64)⟩ := by
        unfold rowsE
        rw [List.zip, List.map_zipWith]
      replace hdone := Lib.hid hdone
      replace hall := Lib.hid hall
      replace hgl := Lib.hid hgl
      replace hvl := Lib.hid hvl
      replace hpos := Lib.hid hpos
      replace hps1 := Lib.hid hps1
      replace hps2 := Lib.hid hps2
      replace hEs := Lib.hid hEs
      clear hgood hi'
      go_wp2_with fail
      ((with_reducible refine hSrt.mono ?_); rintro e w5 ⟨rfl, ps', hper, hsrt, ho5, hg5⟩)
      clear hSrt
      have y5 := hg5.size
      have b5 := hG.bag.set (j := 0) (e := ⟨24, .slice A6 n6 c6, n6, vs⟩) (e' := ⟨24, .slice A6 n6 c6, n6, ps'.map (·.1)⟩) rfl (Nat.le_refl _) ho5 hg5 (fun z hz => .inl hz)
      have hB5 : Below w.heap.size w w5 := hG.bel.grown hg5 yq (fun z hz => (hG.hdr.1.lt z hz).1)
      have hz : ps'.map (·.2) = srtG F := by
        refine srtG_of ?_ hsrt
        have := hper.map (·.2)
        rwa [hps2.out] at this
      have hO : OwnS w5 w.heap.size w5.heap.size 24 2 A6 n6 c6 (ps'.map (·.2)) := by
        have e5 : rowsE 2 (ps'.map (·.1)) (ps'.map (·.2)) = ps'.map fun p => ⟨2, p.1, p.2.length, p.2.map (Value.int .i64)⟩ := by
          unfold rowsE
          rw [List.zipWith_map, List.zipWith_self]
        have b6 : Bag w5 w.heap.size w5.heap.size (⟨24, .slice A6 n6 c6, n6, ps'.map (·.1)⟩ :: rowsE 2 (ps'.map (·.1)) (ps'.map (·.2))) := by
          rw [e5]
          refine b5.perm ?_
          rw [List.set_cons_zero, hEs.out]
          exact List.Perm.cons _ (hper.symm.map _)
        exact ⟨ps'.map (·.1), b6.getO (j := 0) rfl, b6.tail.rowsOwn (by simp)⟩
      have hF : GrpO n xss (ps'.map (·.2)) true := by unfold GrpO; rw [if_pos rfl]; exact ⟨F, hdone.out, hz⟩
      have hnum : n6 + numsIn (ps'.map (·.2)) ≤ 1048576 := by
        have h1 := numsIn_le (xss := ps'.map (·.2)) (n := 400) (fun p hp => by
          rw [hz] at hp
          have := (hall.out p ((srtG_perm F).mem_iff.1 hp)).2
          omega)
        have h2 := hO.len
        have := Nat.mul_le_mul_right 400 (show (ps'.map (·.2)).length ≤ 1000 by omega)
        omega
      replace hF := Lib.hid hF
      clear hper hsrt hz b5 ho5 hg5
      go_wp2_with fail
      go_ret2
      exact ⟨A6, n6, c6, _, true, rfl, hF, hO, hnum, hB5⟩
end Go.Proofs.YtcjnhiglfkcmiaaDoor
/- GrpU -/
namespace Go.Proofs.YtcjnhiglfkcmiaaDoor
open Go.RowKit
set_option linter.unusedVariables false
set_option maxRecDepth 100000
/-- how a search for the group ends -/
def GrpE (e : Ending) (w w' : World) (T2 T1 : TypeId) (n : Nat) (xss : List (List Int)) : Prop :=
  ∃ (A1 : Option Addr) (n1 c1 : Nat) (zss : List (List Int)) (ok : Bool), e = .returned (.tuple #[.slice A1 n1 c1, .bool ok]) ∧ Hid (GrpO n xss zss ok) ∧ OwnS w' w.heap.size w'.heap.size T2 T1 A1 n1 c1 zss ∧ n1 + numsIn zss ≤ 1048576 ∧ Below w.heap.size w w'
theorem lexB_of_lt {a b : List Int} (h : cmpL a b < 0) : lexB a b = true := decide_eq_true (by omega)
theorem own_litW (w : World) (T : TypeId) (v : Value) : (w.alloc (.cells #[v] T)).ownsRow w.heap.size T 1 (.slice (some ⟨w.heap.size, 0, none⟩) 1 1) 1 [v] :=
  World.ownsRow_lit (e := T) (base := w.heap.size) (size := 1) w #[v] 1 (Nat.le_refl _) (by simp only [maxLen]; omega) rfl
theorem GS.start {w w1 w3 : World} {A1 A3 : Option Addr} {n c1 c3 : Nat} (o1 : Own w1 w.heap.size w1.heap.size 2 A1 n c1 ((idL n).map (Value.int .i64))) (f1 : Below w.heap.size w w1)
    (o3 : Own w3 (w1.heap.size + 1) w3.heap.size 2 A3 n c3 ((idL n).map (Value.int .i64))) (f3 : Below (w1.heap.size + 1) (w1.alloc (.cells #[.slice A1 n c1] 24)) w3) :
    GS w (w3.alloc (.cells #[.slice A3 n c3] 24)) (some ⟨w1.heap.size, 0, none⟩) 1 1 [.slice A1 n c1] (some ⟨w3.heap.size, 0, none⟩) 1 1 [.slice A3 n c3] (.slice A3 n c3) n [idL n] [idL n] := by
  have y1 := f1.size
  have z3 := f3.size
  have hsz : (w1.alloc (.cells #[.slice A1 n c1] 24)).heap.size = w1.heap.size + 1 := by simp
  rw [hsz] at z3
  have r1 : RowsOwn w1 w.heap.size w1.heap.size 2 [.slice A1 n c1] [idL n] := (RowsOwn.nil (hi := w.heap.size)).snoc o1 (Nat.le_refl _) y1
  have r2 := r1.bag.below ((Below.refl w1.heap.size w1).alloc (Nat.le_refl _) (.cells #[.slice A1 n c1] 24)) (Nat.le_refl _)
  have r3 := Bag.ins (P := []) (e := ⟨24, .slice (some ⟨w1.heap.size, 0, none⟩) 1 1, 1, [.slice A1 n c1]⟩) (hi' := w1.heap.size + 1) r2 y1 (by omega) (own_litW w1 24 (.slice A1 n c1)) (fun z hz => by simp [Value.ownBlock] at hz; subst hz; omega)
  have r4 := r3.below f3 (Nat.le_refl _)
  have hid : (idL n).length = n := idL_length n
  have r5 := Bag.ins (P := [⟨24, .slice (some ⟨w1.heap.size, 0, none⟩) 1 1, 1, [.slice A1 n c1]⟩]) (Q := rowsE 2 [.slice A1 n c1] [idL n]) (e := ⟨2, .slice A3 n c3, n, (idL n).map (Value.int .i64)⟩) (hi' := w3.heap.size) r4 (by omega) z3 o3.1 (fun z hz => (o3.1.lt z hz).2)
  have r6 := r5.below ((Below.refl w3.heap.size w3).alloc (Nat.le_refl _) (.cells #[.slice A3 n c3] 24)) (Nat.le_refl _)
  have r7 := Bag.ins (P := [⟨24, .slice (some ⟨w1.heap.size, 0, none⟩) 1 1, 1, [.slice A1 n c1]⟩]) (Q := ⟨2, .slice A3 n c3, n, (idL n).map (Value.int .i64)⟩ :: rowsE 2 [.slice A1 n c1] [idL n]) (e := ⟨24, .slice (some ⟨w3.heap.size, 0, none⟩) 1 1, 1, [.slice A3 n c3]⟩) (hi' := (w3.alloc (.cells #[.slice A3 n c3] 24)).heap.size) r6 (by omega) (by simp) (own_litW w3 24 (.slice A3 n c3)) (fun z hz => by simp [Value.ownBlock] at hz; subst hz; simp)
  have e : rowsE 2 ((.slice A3 n c3) :: [.slice A1 n c1]) (idL n :: [idL n]) = ⟨2, .slice A3 n c3, n, (idL n).map (Value.int .i64)⟩ :: rowsE 2 [.slice A1 n c1] [idL n] := by
    simp [rowsE, hid]
  have B3 : Below w.heap.size w w3 := (f1.trans (((Below.refl _ _).alloc (Nat.le_refl _) _).mono y1)).trans (f3.mono (by omega))
  refine ⟨by rw [e]; simpa using r7, rfl, rfl, rfl, rfl, List.Perm.refl _, by simp [SrtL], fun j v xs h1 h2 => ?_, B3.alloc (by omega) _⟩
  have : j = 0 := by have := (List.getElem?_eq_some_iff.1 h1).1; simpa using this
  subst this
  exact ⟨0, h1, h2⟩
set_option maxHeartbeats 8000000 in
theorem l01Group_any (n : Nat) (A : Option Addr) (m c : Nat) (xss : List (List Int)) (w : World) {lo hi : Nat} (h : RS w lo hi A m xss) (hhi : hi ≤ w.heap.size) (hsys : isSysP n xss) :
    Calls Tryd.prog 62 #[.int .i64 n, .slice A m c] w fun e w' => GrpE e w w' 24 2 n xss := by
  obtain ⟨s0, hs0, hu0, hu1, hu2⟩ := info_parts infoS
  have hn4 : n ≤ 400 := by have := hsys.2.1; omega
  have hml := h.len
  have hm16 : m ≤ 16 := by have := hsys.2.2.1; omega
  have hmx := h.max
  have hI := unit_any n w (by omega)
  have hI2 := fun V => unit_any n V (by omega)
  have hgs := GrpS.zero hsys
  have hpl : ∀ p ∈ xss, p.length = n := fun p hp => by have := (hsys.2.2.2 p hp).2; omega
  replace hsys := Lib.hid hsys
  replace hpl := Lib.hid hpl
  replace hml := Lib.hid hml
  replace hgs := Lib.hid hgs
  go_enter Tryd.func62, Tryd.ntmps62
  go_wp2_with fail
  ((with_reducible refine hI.mono ?_); rintro e w1 ⟨A1, c1, rfl, o1, f1⟩)
  clear hI
  have y1 := f1.size
  have hI3 := hI2 (w1.alloc (.cells #[.slice A1 n c1] 24))
  clear hI2
  go_wp2_with fail
  ((with_reducible refine hI3.mono ?_); rintro e w3 ⟨A3, c3, rfl, o3, f3⟩)
  clear hI3
  have hsz : (w1.alloc (.cells #[.slice A1 n c1] 24)).heap.size = w1.heap.size + 1 := by simp
  rw [hsz] at o3 f3
  have g0 := GS.start o1 f1 o3 f3
  have y3 := f3.size
  rw [hsz] at y3
  clear hsz o1 f1 o3 f3
  go_wp2_with fail
  obtain ⟨b1, hb1⟩ : ∃ b1, w1.heap.size = b1 := ⟨_, rfl⟩
  obtain ⟨b3, hb3⟩ : ∃ b3, w3.heap.size = b3 := ⟨_, rfl⟩
  obtain ⟨w4, hw4⟩ : ∃ w4 : World, w3.alloc (.cells #[.slice A3 n c3] 24) = w4 := ⟨_, rfl⟩
  rw [hb1, hb3, hw4] at g0
  rw [hb1, hb3, hw4]
  clear hb1 hb3 hw4 y1 y3
  go_loopw [6, 7, 8] (fun ev sv iv wq => ∃ (i : Nat) (F S : List (List Int)) (A6 : Option Addr) (n6 c6 : Nat) (vsF : List Value) (A7 : Option Addr) (c7 : Nat) (vsS : List Value), ev = .slice A6 n6 c6 ∧ sv = .slice A7 n6 c7 ∧ iv = .int .i64 i ∧ i ≤ n6 ∧ n6 ≤ 1000 ∧ Hid (GrpS n xss i F) ∧ GS w wq A6 n6 c6 vsF A7 n6 c7 vsS (.slice A3 n c3) n F S) (fun _ _ iv _ => 1001 - (intOf iv).toNat)
  case atStart => exact ⟨0, [idL n], [idL n], _, 1, 1, _, _, 1, _, rfl, rfl, rfl, by omega, by omega, hgs, g0⟩
  case round =>
    clear g0 hgs
    obtain ⟨i, F, S, A6, n6, c6, vsF, A7, c7, vsS, rfl, rfl, rfl, hi6, hn6, hS, hG⟩ := hrel
    by_cases hlt : i < n6
    · have hgl := hG.fn
      obtain ⟨e0, he⟩ : ∃ e, F[i]? = some e := ⟨F[i]'(by omega), List.getElem?_eq_getElem (by omega)⟩
      have hR0 := Lib.hid (hS.out.start he)
      replace he := Lib.hid he
      clear hgl
      go_wp2_with fail
      go_loopw [6, 7, 9] (fun ev sv kv wq => ∃ (k : Nat) (G S : List (List Int)) (A6 : Option Addr) (n7 c6 : Nat) (vsF : List Value) (A7 : Option Addr) (c7 : Nat) (vsS : List Value), ev = .slice A6 n7 c6 ∧ sv = .slice A7 n7 c7 ∧ kv = .int .i64 k ∧ k ≤ m ∧ n7 ≤ 1000 ∧ n6 ≤ n7 ∧ Hid (GrpR n xss i F e0 k G) ∧ GS w wq A6 n7 c6 vsF A7 n7 c7 vsS (.slice A3 n c3) n G S) (fun _ _ kv _ => m - (intOf kv).toNat)
      case atStart => exact ⟨0, F, S, A6, n6, c6, vsF, A7, c7, vsS, rfl, rfl, rfl, by omega, by omega, by omega, hR0, hG⟩
      case round =>
        clear hG hR0
        obtain ⟨k, G, S, A6, n7, c6, vsF, A7, c7, vsS, rfl, rfl, rfl, hk, hn7, hn67, hR, hG⟩ := hrel
        have yk := hG.bel.size
        by_cases hkm : k < m
        · obtain ⟨b, o, Ap, np, cp, p, rfl, _, hb, hp, hpc, hpr⟩ := (h.below hG.bel hhi).at_ hkm
          have hprl := hpr.len
          have hpn := hpl.out p (mem_of_get? hp)
          have hst := hR.out.step hp
          obtain ⟨hq1, hq2⟩ := hR.out.prod hp
          obtain ⟨hep, hel⟩ := hR.out.e_perm
          have hGi := hR.out.at_G
          obtain ⟨bh, v, rfl, -, -, -, hvi, -, hvc, -⟩ := hG.hdr.at_ (k := i) (by omega)
          obtain ⟨Ae, ne, ce, rfl, oe⟩ := hG.row (k := i + 1) (by rw [List.getElem?_cons_succ]; exact hvi) (by rw [List.getElem?_cons_succ]; exact hGi)
          have hne := oe.lenI
          have hTh := l01Then_any Ae ne ce e0 Ap np cp p wr.drew (oe.ri.keep same_drw) (Nat.le_refl _) (hpr.keep same_drw) (by show _ ≤ wr.heap.size; omega) (by omega) (fun x hx => by have := hep.rng x hx; omega)
          obtain ⟨q, hq⟩ : ∃ q, thenL e0 p = q := ⟨_, rfl⟩
          rw [hq] at hTh hst hq1 hq2
          have hnq : ne = n := by omega
          subst hnq
          have hmem : q ∈ S ↔ q ∈ G := hG.per.mem_iff
          have i0 : (0 : Int) ≤ (i : Int) := by omega
          have i1 : (i : Int) < (n7 : Int) := by omega
          have k0 : (0 : Int) ≤ (k : Int) := by omega
          have k1 : (k : Int) < (m : Int) := by omega
          replace hst := Lib.hid hst
          replace hGi := Lib.hid hGi
          replace hp := Lib.hid hp
          replace hq := Lib.hid hq
          replace hvi := Lib.hid hvi
          replace hel := Lib.hid hel
          replace hne := Lib.hid hne
          replace hpn := Lib.hid hpn
          replace hprl := Lib.hid hprl
          clear hpr oe
          go_wp2_with fail
          go_region_with (go_at_call 92; (with_reducible refine hTh.mono ?_); rintro e w5 ⟨A5, c5, rfl, o5, f5'⟩; have f5 : Below wr.heap.size wr w5 := ⟨f5'.os, f5'.tape, f5'.output, f5'.size, f5'.block⟩; have o5 : Own w5 wr.heap.size w5.heap.size 2 A5 ne c5 (q.map (Value.int .i64)) := o5)
          all_goals
            clear hTh f5' hvc hpc
            have y5 := f5.size
            have hG5 := hG.below f5
            have hPut := l01Put_any A7 n7 c7 vsS S A5 ne c5 q w5 (lo := w.heap.size) hG5.hdr2.1 hG5.bel.size hG5.rowS hG5.sl hG5.srt (o5.ri.more yk (Nat.le_refl _)) (by omega)
            go_wp2_with fail
            ((with_reducible refine hPut.mono ?_); rintro e w6 ⟨A8, n8, c8, fr, rfl, hg6, hcase⟩)
            clear hPut
            rcases hcase with ⟨rfl, hin, rfl, rfl, rfl, ho6⟩ | ⟨rfl, hnin, rfl, g8, low, rfl, hor8, hlow, hPl, ho6⟩
            · have hadd : addG G q = G := if_pos (hmem.1 hin)
              have hG6 := hG5.same hg6 ho6
              have hst2 := hst.out
              rw [hadd] at hst2
              replace hst2 := Lib.hid hst2
              replace hin := Lib.hid hin
              clear hmem hst hG hG5 hg6 ho6 o5 f5
              go_wp2_with fail
              go_roundw
              case measure => simp [intOf] <;> omega
              case rel => exact ⟨k + 1, G, S, _, n8, c6, vsF, _, c8, vsS, rfl, rfl, by go_num, by omega, hn7, hn67, hst2, hG6⟩
            · have hadd : addG G q = G ++ [q] := if_neg (fun hh => hnin (hmem.2 hh))
              have hst2 := hst.out
              rw [hadd] at hst2
              have hgn := hG.fn
              have hh6 : w6.ownsRow w.heap.size 24 1 (.slice (some ⟨bh, 0, none⟩) n7 c6) n7 vsF := (hG5.bag.set (j := 1) (e' := ⟨24, .slice (some ⟨g8, 0, none⟩) (n7 + 1) c8, n7 + 1, vsS.take low ++ .slice A5 ne c5 :: vsS.drop low⟩) rfl (Nat.le_refl _) ho6 hg6 (fun y hy => by
                have hy' : g8 = y := by simpa [Value.ownBlock] using hy
                subst hy'
                rcases hor8 with hh | hh
                · left; rw [hh]; rfl
                · exact .inr hh)).get (j := 0) rfl
              have y6 := hg6.size
              replace hst2 := Lib.hid hst2
              replace hgn := Lib.hid hgn
              replace hnin := Lib.hid hnin
              clear hmem hst
              go_wp2_with (at_builtin; refine wpList_append1 w6 rfl (.tmp 48) (.tmp 50) 33 rfl w.heap.size 24 s0 (.slice none 0 0) 24 Tryd.underlying33 hs0 hu0 hu1 hu2 rfl (by omega) (some ⟨bh, 0, none⟩) n7 c6 _ (.slice A5 ne c5) rfl hh6 _ rfl rfl rfl (by omega) (by omega) ?_)
              intro g9 c9 w9 ho9 hg9 hlo9 hlt9 hor9
              have hG9 := hG.add f5 o5 hg6 hor8 hlow hPl hnin.out ho6 ho9 hg9 (hor9.imp (fun e => by rw [e]) id)
              clear hG hG5 hg6 ho6 ho9 hg9 hor9 hh6 hor8 hPl o5 f5
              by_cases hbig : 1000 < n7 + 1
              · have hF : GrpO ne xss [] false := hst2.out.many (by rw [List.length_append, List.length_singleton, hgn.out]; exact hbig)
                have d9 : (1000 : Int) < (n7 : Int) + 1 := by omega
                replace hF := Lib.hid hF
                go_wp2_with fail
                go_ret2
                exact ⟨_, 0, _, [], false, rfl, hF, OwnS.nil, by simp [numsIn], hG9.bel⟩
              · have d9 : ¬ (1000 : Int) < (n7 : Int) + 1 := by omega
                go_wp2_with fail
                go_roundw
                case measure => simp [intOf] <;> omega
                case rel => exact ⟨k + 1, G ++ [q], _, _, n7 + 1, c9, _, _, c8, _, rfl, rfl, by go_num, by omega, by omega, by omega, hst2, hG9⟩
        · have hkm' : k = m := by omega
          subst hkm'
          have hgl := hG.fn
          have hR2 := hR.out
          rw [← hml.out] at hR2
          have hS2 := Lib.hid (hR2.next (by omega))
          replace hgl := Lib.hid hgl
          clear hR2
          go_wp2_with fail
          go_roundw
          case measure => simp [intOf] <;> omega
          case rel => exact ⟨i + 1, G, S, A6, n7, c6, vsF, A7, c7, vsS, rfl, rfl, by go_num, by omega, by omega, hS2, hG⟩
    · have hi' : i = n6 := by omega
      have hgl := hG.fn
      have hdone := hS.out
      rw [hi', ← hgl] at hdone
      have hall := hdone.all
      replace hdone := hdone.done
      have hz : S = srtG F := srtG_of hG.per (hG.srt.imp fun hab => lexB_of_lt hab)
      have hlenS : ∀ xs ∈ S, xs.length ≤ 400 := fun xs hx => by
        have := (hall xs (hG.per.mem_iff.1 hx)).2
        omega
      have hsn := hG.sn
      have hrs : RS wr w.heap.size wr.heap.size A7 n6 S := ⟨vsS, hG.hdr2.rd, hG.sl, hG.rowS⟩
      have hO := l01Own2_any A7 n6 c7 S wr hrs (Nat.le_refl _) (by omega) (fun xs hx => by have := hlenS xs hx; omega)
      have hnum : n6 + numsIn S ≤ 1048576 := by
        have h1 := numsIn_le (xss := S) (n := 400) hlenS
        have := Nat.mul_le_mul_right 400 (show S.length ≤ 1000 by omega)
        omega
      have hF : GrpO n xss S true := by unfold GrpO; rw [if_pos rfl]; exact ⟨F, hdone, hz⟩
      have hB := hG.bel
      have yB := hB.size
      replace hF := Lib.hid hF
      replace hgl := Lib.hid hgl
      replace hsn := Lib.hid hsn
      clear hall hdone hz hlenS hrs hi'
      go_wp2_with fail
      ((with_reducible refine hO.mono ?_); rintro e w5 ⟨A8, c8, rfl, o8, f8⟩)
      clear hO
      have hB8 := hB.trans (f8.mono yB)
      go_wp2_with fail
      go_ret2
      exact ⟨A8, n6, c8, S, true, rfl, hF, o8.more yB (Nat.le_refl _), hnum, hB8⟩
end Go.Proofs.YtcjnhiglfkcmiaaDoor
/- GrpX -/
namespace Go.Proofs.YtcjnhiglfkcmiaaDoor
open Go.RowKit
set_option linter.unusedVariables false
set_option maxRecDepth 100000
theorem grpF_ok {n : Nat} {xss zss : List (List Int)} {ok : Bool} (hs : isSysB (n : Int) xss = true) (h : GrpO n xss zss ok) : grpF (n : Int) xss = if ok = true then (zss, 0) else ([], 3) := by
  unfold grpF
  rw [if_pos hs, Int.toNat_natCast]
  unfold GrpO at h
  cases ok with
  | true =>
    rw [if_pos rfl] at h
    obtain ⟨F, e1, e2⟩ := h
    rw [e1, e2]; rfl
  | false =>
    rw [if_neg (by decide)] at h
    rw [h]; rfl
theorem grpF_no {n : Int} {xss : List (List Int)} (hs : isSysB n xss = false) : grpF n xss = ([], 1) := by
  unfold grpF
  rw [hs]; rfl
set_option maxHeartbeats 1000000 in
theorem i_GroupElements_any (w : World) (n : Int) (hn : -9223372036854775808 ≤ n ∧ n ≤ 9223372036854775807) (A : Option Addr) (m c : Nat) (xss : List (List Int)) {lo hi : Nat} (h : RS w lo hi A m xss) (hhi : hi ≤ w.heap.size) {B : Nat} (hT : T10 B w) (hB : B ≤ w.heap.size) :
    Calls Tryd.prog 27 #[.int .i64 n, .slice A m c] w fun e w' => ∃ (A1 : Option Addr) (n1 c1 : Nat) (zss : List (List Int)) (code : Int), e = .returned (.tuple #[.slice A1 n1 c1, .int .i64 code]) ∧ Hid ((zss, code) = grpF n xss) ∧ OwnS w' w.heap.size w'.heap.size 24 2 A1 n1 c1 zss ∧ n1 + numsIn zss ≤ 1048576 ∧ Below w.heap.size w w' := by
  cases hs : isSysB n xss with
  | false =>
    have hF := grpF_no hs
    replace hF := Lib.hid hF
    replace hs := Lib.hid hs
    go_enter Tryd.func27, Tryd.ntmps27
    go_wp2_with fail
    ((with_reducible refine (isSys_any _ _ _ _ xss _ h hhi).mono ?_); rintro e w1 ⟨rfl, hb1⟩)
    rw [hs.out]
    go_wp2_with fail
    go_ret2
    exact ⟨_, 0, _, [], _, rfl, Lib.hid hF.out.symm, OwnS.nil, by simp [numsIn], hb1⟩
  | true =>
    have hsP := isSysB_iff.1 hs
    have h0 := hsP.1
    obtain ⟨n, rfl⟩ : ∃ q : Nat, n = (q : Int) := ⟨n.toNat, by omega⟩
    have hK := fun V (hV : Below w.heap.size w V) => groupElements_any n A m c xss V (h.below hV hhi) (by have := hV.size; omega) hsP (hT.on (hV.mono hB)) (by have := hV.size; omega)
    replace hsP := Lib.hid hsP
    replace hs := Lib.hid hs
    go_enter Tryd.func27, Tryd.ntmps27
    go_wp2_with fail
    ((with_reducible refine (isSys_any _ _ _ _ xss _ h hhi).mono ?_); rintro e w1 ⟨rfl, hb1⟩)
    have hs1 := hb1.size
    have hK1 := hK w1 hb1
    clear hK
    rw [hs.out]
    go_wp2_with fail
    ((with_reducible refine hK1.mono ?_); rintro e w2 ⟨A1, n1, c1, zss, ok, rfl, hO, oS, hnum, f2⟩)
    clear hK1
    have hB2 := hb1.trans (f2.mono hs1)
    have hF := grpF_ok hs.out hO.out
    cases ok with
    | true =>
      rw [if_pos rfl] at hF
      replace hF := Lib.hid hF.symm
      go_wp2_with fail
      go_ret2
      exact ⟨A1, n1, c1, zss, _, rfl, hF, oS.more hs1 (Nat.le_refl _), hnum, hB2⟩
    | false =>
      rw [if_neg (by decide)] at hF
      replace hF := Lib.hid hF.symm
      go_wp2_with fail
      go_ret2
      exact ⟨_, 0, _, [], _, rfl, hF, OwnS.nil, by simp [numsIn], hB2⟩
set_option maxHeartbeats 1000000 in
theorem s_GroupElements_any (w : World) (n : Int) (hn : -9223372036854775808 ≤ n ∧ n ≤ 9223372036854775807) (A : Option Addr) (m c : Nat) (xss : List (List Int)) {lo hi : Nat} (h : RS w lo hi A m xss) (hhi : hi ≤ w.heap.size) :
    Calls Tryd.prog 25 #[.int .i64 n, .slice A m c] w fun e w' => ∃ (A1 : Option Addr) (n1 c1 : Nat) (zss : List (List Int)) (code : Int), e = .returned (.tuple #[.slice A1 n1 c1, .int .i64 code]) ∧ Hid ((zss, code) = grpF n xss) ∧ OwnS w' w.heap.size w'.heap.size 24 2 A1 n1 c1 zss ∧ n1 + numsIn zss ≤ 1048576 ∧ Below w.heap.size w w' := by
  cases hs : isSysB n xss with
  | false =>
    have hF := grpF_no hs
    replace hF := Lib.hid hF
    replace hs := Lib.hid hs
    go_enter Tryd.func25, Tryd.ntmps25
    go_wp2_with fail
    ((with_reducible refine (l01System_any _ _ _ _ xss _ h hhi).mono ?_); rintro e w1 ⟨rfl, hb1⟩)
    rw [hs.out, show code01 false = 1 from rfl]
    go_wp2_with fail
    go_ret2
    exact ⟨_, 0, _, [], _, rfl, Lib.hid hF.out.symm, OwnS.nil, by simp [numsIn], hb1⟩
  | true =>
    have hsP := isSysB_iff.1 hs
    have h0 := hsP.1
    obtain ⟨n, rfl⟩ : ∃ q : Nat, n = (q : Int) := ⟨n.toNat, by omega⟩
    have hK := fun V (hV : Below w.heap.size w V) => l01Group_any n A m c xss V (h.below hV hhi) (by have := hV.size; omega) hsP
    replace hsP := Lib.hid hsP
    replace hs := Lib.hid hs
    go_enter Tryd.func25, Tryd.ntmps25
    go_wp2_with fail
    ((with_reducible refine (l01System_any _ _ _ _ xss _ h hhi).mono ?_); rintro e w1 ⟨rfl, hb1⟩)
    have hs1 := hb1.size
    have hK1 := hK w1 hb1
    clear hK
    rw [hs.out, show code01 true = 0 from rfl]
    go_wp2_with fail
    ((with_reducible refine hK1.mono ?_); rintro e w2 ⟨A1, n1, c1, zss, ok, rfl, hO, oS, hnum, f2⟩)
    clear hK1
    have hB2 := hb1.trans (f2.mono hs1)
    have hF := grpF_ok hs.out hO.out
    cases ok with
    | true =>
      rw [if_pos rfl] at hF
      replace hF := Lib.hid hF.symm
      go_wp2_with fail
      go_ret2
      exact ⟨A1, n1, c1, zss, _, rfl, hF, oS.more hs1 (Nat.le_refl _), hnum, hB2⟩
    | false =>
      rw [if_neg (by decide)] at hF
      replace hF := Lib.hid hF.symm
      go_wp2_with fail
      go_ret2
      exact ⟨_, 0, _, [], _, rfl, hF, OwnS.nil, by simp [numsIn], hB2⟩
end Go.Proofs.YtcjnhiglfkcmiaaDoor
/- CjP -/
namespace Go.Proofs.YtcjnhiglfkcmiaaDoor
set_option linter.unusedVariables false
set_option maxRecDepth 100000
open Classical
theorem one_sys {p : List Int} (h : isPermP p) : SysOf [p] p.length := by
  intro q hq
  simp at hq
  subst hq
  exact ⟨h.rng, h.nd, rfl⟩
theorem at_mem {p : List Int} {n : Nat} {x : Int} (hl : p.length = n) (h0 : 0 ≤ x) (h1 : x < n) : p[x.toNat]? = some (at' p x) := get?_getD 0 (by omega)
/-- one cycle is one orbit -/
theorem cycGo_cls {p : List Int} {n : Nat} (hs : SysOf [p] n) {i : Nat} (hi : i < n) {O : Int → Prop} (hO : ∀ y, Rch [p] i y → ¬ O y) : ∀ (f : Nat) (bs : List Bool) (x : Int) (c : List Int),
    c.Nodup → (∀ y : Nat, y < n → bs[y]? = some (decide (O y ∨ (y : Int) ∈ c))) → bs.length = n → (∀ y ∈ c, Rch [p] i y) → Rch [p] i x → ((i : Int) ∈ c ∨ (c = [] ∧ x = i)) → (∀ y ∈ c, at' p y ∈ c ∨ at' p y = x) → n < f + c.length →
    ∃ bs' c', cycGo p f bs x c = (bs', c') ∧ c'.Nodup ∧ (∀ y : Nat, y < n → bs'[y]? = some (decide (O y ∨ (y : Int) ∈ c'))) ∧ bs'.length = n ∧ ∀ y, y ∈ c' ↔ Rch [p] i y := by
  obtain ⟨hrng, hnd, hl⟩ := hs p (by simp)
  intro f
  induction f with
  | zero =>
    intro bs x c hc hb hbl hr hx hi0 hcl hn
    exfalso
    have h1 := nodup_sub_len c ((List.range n).map Int.ofNat) hc (fun a ha => by
      obtain ⟨h0, h1⟩ := (hr a ha).rng hs (by omega) (by omega)
      exact mem_ints.2 ⟨h0, h1⟩)
    simp at h1
    omega
  | succ f ih =>
    intro bs x c hc hb hbl hr hx hi0 hcl hn
    obtain ⟨hx0, hx1⟩ := hx.rng hs (by omega) (by omega)
    have hbx := hb x.toNat (by omega)
    rw [Int.toNat_of_nonneg hx0] at hbx
    by_cases hm : x ∈ c
    · rw [decide_eq_true (.inr hm)] at hbx
      refine ⟨bs, c, cycGo_stop hbx, hc, hb, hbl, fun y => ⟨hr y, fun h => ?_⟩⟩
      have hic : (i : Int) ∈ c := by
        rcases hi0 with h | ⟨h, _⟩
        · exact h
        · rw [h] at hm; simp at hm
      induction h with
      | refl => exact hic
      | step hh hp ih2 =>
        simp at hp
        subst hp
        rcases hcl _ ih2 with h | h
        · exact h
        · rw [h]; exact hm
    · have hno : ¬ (O x ∨ x ∈ c) := by
        rintro (h | h)
        · exact hO x hx h
        · exact hm h
      rw [decide_eq_false hno] at hbx
      rw [cycGo_step hbx (at_mem hl hx0 hx1)]
      refine ih (bs.set x.toNat true) (at' p x) (c ++ [x]) ?_ ?_ (by simpa using hbl) ?_ (hx.step (by simp)) ?_ ?_ (by simp; omega)
      · rw [List.nodup_append]
        refine ⟨hc, by simp, fun a ha b hb e => ?_⟩
        simp at hb
        subst hb
        subst e
        exact hm ha
      · intro y hy
        rw [List.getElem?_set]
        by_cases e : x.toNat = y
        · rw [if_pos e, if_pos (by omega)]
          congr 1
          symm
          exact decide_eq_true (.inr (by rw [List.mem_append]; right; simp; omega))
        · rw [if_neg e, hb y hy]
          congr 1
          refine decide_eq_decide.2 ⟨fun h => h.imp id (fun h => by simp [h]), fun h => h.imp id (fun h => ?_)⟩
          rcases List.mem_append.1 h with h | h
          · exact h
          · simp at h; omega
      · intro y hy
        rcases List.mem_append.1 hy with h | h
        · exact hr y h
        · simp at h; subst h; exact hx
      · left
        rcases hi0 with h | ⟨h, h2⟩
        · simp [h]
        · simp [h2]
      · intro y hy
        rcases List.mem_append.1 hy with h | h
        · rcases hcl y h with h | h
          · left; simp [h]
          · left; simp [h]
        · simp at h; subst h; right; rfl
/-- the number of points of an orbit -/
noncomputable def os (p : List Int) (x : Int) : Nat := (bfs [p] p.length x).length
theorem os_of {p : List Int} (hp : isPermP p) {x : Int} (h0 : 0 ≤ x) (h1 : x < (p.length : Nat)) {c : List Int} (hc : c.Nodup) (hm : ∀ y, y ∈ c ↔ Rch [p] x y) : c.length = os p x := by
  have hs := one_sys hp
  have hb := bfs_met hs h0 h1
  exact (perm_of_mem hc hb.nd (fun a => (hm a).trans (bfs_mem hs h0 h1).symm)).length_eq
/-- the least points of orbits -/
noncomputable def roots (p : List Int) (k : Nat) : List Int := ((List.range k).filter (rootB [p])).map Int.ofNat
theorem roots_succ (p : List Int) (k : Nat) : roots p (k + 1) = roots p k ++ (if rootB [p] k = true then [(k : Int)] else []) := by
  unfold roots
  rw [List.range_succ, List.filter_append, List.map_append]
  congr 1
  split <;> simp_all
theorem cycLoop_cls {p : List Int} (hp : isPermP p) : ∀ i, i ≤ p.length → ∃ bs cs, cycLoop p p.length i = (bs, cs) ∧ (∀ y : Nat, y < p.length → bs[y]? = some (decide (Old [p] i y))) ∧ bs.length = p.length ∧ cs.map List.length = (roots p i).map (os p) := by
  have hs := one_sys hp
  intro i
  induction i with
  | zero =>
    intro _
    refine ⟨_, _, rfl, fun y hy => ?_, by simp, by simp [roots]⟩
    have : ¬ Old [p] 0 y := by rintro ⟨j, hj, _⟩; omega
    rw [decide_eq_false this]
    simp [hy]
  | succ i ih =>
    intro hi
    obtain ⟨bs, cs, e, hb, hbl, hc⟩ := ih (by omega)
    by_cases ho : Old [p] i i
    · have hbi := hb i (by omega)
      rw [decide_eq_true ho] at hbi
      have h2 : cycGo p (p.length + 1) bs (i : Int) [] = (bs, []) := cycGo_stop (by simpa using hbi)
      refine ⟨bs, cs, ?_, fun y hy => ?_, hbl, ?_⟩
      · rw [cycLoop_succ e h2, if_pos rfl]
      · rw [hb y hy]
        congr 1
        exact decide_eq_decide.2 (Old.step hs (by omega) ho).symm
      · rw [roots_succ, if_neg (by rw [root_iff]; exact fun h => h ho), List.append_nil]
        exact hc
    · obtain ⟨bq, ys, h2, hnd, hbq, hbql, hmem⟩ := cycGo_cls hs (i := i) (by omega) (O := Old [p] i) (fun y hy => not_old hs (by omega) ho hy) (p.length + 1) bs (i : Int) [] (by simp) (fun y hy => by rw [hb y hy]; simp) hbl (by simp) .refl (.inr ⟨rfl, rfl⟩) (by simp) (by simp)
      have hne : ys ≠ [] := by
        intro h
        have := (hmem i).2 .refl
        rw [h] at this
        simp at this
      refine ⟨bq, cs ++ [ys], ?_, fun y hy => ?_, hbql, ?_⟩
      · rw [cycLoop_succ e h2, if_neg hne]
      · rw [hbq y hy]
        congr 1
        refine decide_eq_decide.2 (Iff.trans ?_ Old.new.symm)
        rw [hmem]
      · rw [roots_succ, if_pos (by rw [root_iff]; exact ho), List.map_append, List.map_append, hc]
        congr 1
        have := os_of hp (by omega) (by omega) hnd hmem
        simp [this]
theorem cycLens_eq {p : List Int} (hp : isPermP p) : cycLens p = (roots p p.length).map (os p) := by
  obtain ⟨bs, cs, e, _, _, hc⟩ := cycLoop_cls hp p.length (Nat.le_refl _)
  unfold cycLens cycAll
  rw [e]
  exact hc
/-- p conjugated by q -/
def conjL (p q : List Int) : List Int := thenL (thenL (invL q) p) q
section
variable {p q : List Int} {n : Nat}
theorem conjL_length (p q : List Int) : (conjL p q).length = q.length := by unfold conjL; rw [thenL_length, thenL_length, invL_length]
theorem conjL_perm (hp : isPermP p) (hq : isPermP q) (hl : p.length = q.length) : isPermP (conjL p q) :=
  thenL_perm (thenL_perm (invL_perm hq) hp (by rw [invL_length]; omega)) hq (by rw [thenL_length, invL_length])
theorem at_rng (hp : isPermP p) {x : Int} (h0 : 0 ≤ x) (h1 : x < (p.length : Nat)) : 0 ≤ at' p x ∧ at' p x < (p.length : Nat) := hp.rng _ (mem_of_get? (at_mem rfl h0 h1))
theorem at_inj (hp : isPermP p) {x y : Int} (h0 : 0 ≤ x) (h1 : x < (p.length : Nat)) (g0 : 0 ≤ y) (g1 : y < (p.length : Nat)) (h : at' p x = at' p y) : x = y := by
  have e1 := idxOf_of_get? hp.nd (at_mem rfl h0 h1)
  have e2 := idxOf_of_get? hp.nd (at_mem rfl g0 g1)
  rw [h, e2] at e1
  omega
theorem at_sur (hp : isPermP p) {z : Int} (h0 : 0 ≤ z) (h1 : z < (p.length : Nat)) : ∃ x : Int, 0 ≤ x ∧ x < (p.length : Nat) ∧ at' p x = z := by
  obtain ⟨k, hk⟩ := List.mem_iff_getElem?.1 (perm_mem rfl hp.rng hp.nd h0 h1)
  have hkl := (List.getElem?_eq_some_iff.1 hk).1
  exact ⟨(k : Int), by omega, by omega, by unfold at'; rw [Int.toNat_natCast]; exact getD_some hk⟩
theorem then_at (hl : p.length = n) {x : Int} (h0 : 0 ≤ x) (h1 : x < n) : at' (thenL p q) x = at' q (at' p x) := by
  have := thenL_get (q := q) (at_mem hl h0 h1)
  unfold at' at *
  exact getD_some this
theorem inv_at (hq : isPermP q) {x : Int} (h0 : 0 ≤ x) (h1 : x < (q.length : Nat)) : at' (invL q) (at' q x) = x := by
  obtain ⟨g0, g1⟩ := at_rng hq h0 h1
  have e := invL_get (p := q) (j := (at' q x).toNat) (by omega)
  rw [Int.toNat_of_nonneg g0, idxOf_of_get? hq.nd (at_mem rfl h0 h1), Int.toNat_of_nonneg h0] at e
  exact getD_some e
theorem conj_at (hp : isPermP p) (hq : isPermP q) (hl : p.length = q.length) {x : Int} (h0 : 0 ≤ x) (h1 : x < (q.length : Nat)) : at' (conjL p q) (at' q x) = at' q (at' p x) := by
  obtain ⟨g0, g1⟩ := at_rng hq h0 h1
  unfold conjL
  rw [then_at (n := q.length) (by rw [thenL_length, invL_length]) g0 g1, then_at (n := q.length) (by rw [invL_length]) g0 g1, inv_at hq h0 h1]
theorem rch_conj (hp : isPermP p) (hq : isPermP q) (hl : p.length = q.length) {x y : Int} (h0 : 0 ≤ x) (h1 : x < (q.length : Nat)) (h : Rch [p] x y) : Rch [conjL p q] (at' q x) (at' q y) := by
  induction h with
  | refl => exact .refl
  | step hh hm ih =>
    simp at hm
    subst hm
    obtain ⟨g0, g1⟩ := hh.rng (one_sys hp) (by omega) (by omega)
    rw [← conj_at hp hq hl g0 (by omega)]
    exact ih.step (by simp)
theorem rch_conj' (hp : isPermP p) (hq : isPermP q) (hl : p.length = q.length) {x z : Int} (h0 : 0 ≤ x) (h1 : x < (q.length : Nat)) (h : Rch [conjL p q] (at' q x) z) : ∃ y, z = at' q y ∧ Rch [p] x y := by
  induction h with
  | refl => exact ⟨x, rfl, .refl⟩
  | step hh hm ih =>
    simp at hm
    subst hm
    obtain ⟨y, rfl, hy⟩ := ih
    obtain ⟨g0, g1⟩ := hy.rng (one_sys hp) (by omega) (by omega)
    exact ⟨at' p y, conj_at hp hq hl g0 (by omega), hy.step (by simp)⟩
theorem os_conj (hp : isPermP p) (hq : isPermP q) (hl : p.length = q.length) {x : Int} (h0 : 0 ≤ x) (h1 : x < (q.length : Nat)) : os (conjL p q) (at' q x) = os p x := by
  have hs := one_sys hp
  have hb := bfs_met hs h0 (show x < (p.length : Nat) by omega)
  obtain ⟨g0, g1⟩ := at_rng hq h0 h1
  have hrng : ∀ y ∈ bfs [p] p.length x, 0 ≤ y ∧ y < (q.length : Nat) := fun y hy => by have := hb.rng y hy; omega
  have h := os_of (conjL_perm hp hq hl) g0 (by rw [conjL_length]; exact g1) (c := (bfs [p] p.length x).map (at' q)) (by
    unfold List.Nodup
    rw [List.pairwise_map]
    refine List.Pairwise.imp_of_mem ?_ hb.nd
    intro a b ha hb2 hne e
    exact hne (at_inj hq (hrng a ha).1 (hrng a ha).2 (hrng b hb2).1 (hrng b hb2).2 e)) (fun z => by
    rw [List.mem_map]
    constructor
    · rintro ⟨y, hy, rfl⟩
      exact rch_conj hp hq hl h0 h1 ((bfs_mem hs h0 (by omega)).1 hy)
    · intro hz
      obtain ⟨y, rfl, hy⟩ := rch_conj' hp hq hl h0 h1 hz
      exact ⟨y, (bfs_mem hs h0 (by omega)).2 hy, rfl⟩)
  rw [List.length_map] at h
  exact h.symm
theorem os_class {c : List Int} (hc : isPermP c) {x y : Int} (h0 : 0 ≤ x) (h1 : x < (c.length : Nat)) (h : Rch [c] x y) : os c x = os c y := by
  have hs := one_sys hc
  obtain ⟨g0, g1⟩ := h.rng hs h0 h1
  have hb := bfs_met hs h0 h1
  exact os_of hc g0 g1 hb.nd (fun z => by
    rw [bfs_mem hs h0 h1]
    exact ⟨fun hz => (h.symm hs h0 h1).trans hz, fun hz => h.trans hz⟩)
theorem roots_mem {c : List Int} {k : Nat} {x : Int} : x ∈ roots c k ↔ 0 ≤ x ∧ x < k ∧ rootB [c] x.toNat = true := by
  unfold roots
  simp only [List.mem_map, List.mem_filter, List.mem_range]
  constructor
  · rintro ⟨a, ⟨h1, h2⟩, rfl⟩
    exact ⟨by simp, by simpa using h1, by simpa using h2⟩
  · rintro ⟨h0, h1, h2⟩
    exact ⟨x.toNat, ⟨by omega, h2⟩, by simp; omega⟩
theorem roots_nodup (c : List Int) (k : Nat) : (roots c k).Nodup := by
  unfold roots List.Nodup
  rw [List.pairwise_map]
  refine List.Pairwise.imp ?_ (List.Pairwise.filter _ List.nodup_range)
  intro a b h e
  exact h (Int.ofNat.inj e)
theorem root_min {c : List Int} {n : Nat} (hs : SysOf [c] n) {x y : Nat} (hx : rootB [c] x = true) (hxn : x < n) (hy : rootB [c] y = true) (hyn : y < n) (h : Rch [c] x y) : x = y := by
  rcases Nat.lt_trichotomy x y with h1 | h1 | h1
  · exact absurd ⟨x, h1, h⟩ (root_iff.1 hy)
  · exact h1
  · exact absurd ⟨y, h1, h.symm hs (by omega) (by omega)⟩ (root_iff.1 hx)
theorem cycLens_conj (hp : isPermP p) (hq : isPermP q) (hl : p.length = q.length) : (cycLens (conjL p q)).Perm (cycLens p) := by
  have hc := conjL_perm hp hq hl
  have hsp := one_sys hp
  have hsc := one_sys hc
  have hcl := conjL_length p q
  rw [hcl] at hsc
  rw [cycLens_eq hc, cycLens_eq hp, hcl]
  have hroot : ∀ y : Nat, y < q.length → rootB [conjL p q] (rootOf [conjL p q] y) = true ∧ rootOf [conjL p q] y < q.length ∧ Rch [conjL p q] (rootOf [conjL p q] y) y := fun y hy =>
    ⟨rootB_rootOf hsc hy, by have := rootOf_le [conjL p q] y; omega, (rootOf_spec [conjL p q] y).1⟩
  have hmap : ((roots p p.length).map fun r => (rootOf [conjL p q] (at' q r).toNat : Int)).Perm (roots (conjL p q) q.length) := by
    refine perm_of_mem ?_ (roots_nodup _ _) (fun z => ?_)
    · unfold List.Nodup
      rw [List.pairwise_map]
      refine List.Pairwise.imp_of_mem ?_ (roots_nodup p p.length)
      intro a b ha hb hne e
      obtain ⟨a0, a1, a2⟩ := roots_mem.1 ha
      obtain ⟨b0, b1, b2⟩ := roots_mem.1 hb
      obtain ⟨qa0, qa1⟩ := at_rng hq a0 (show a < (q.length : Nat) by omega)
      obtain ⟨qb0, qb1⟩ := at_rng hq b0 (show b < (q.length : Nat) by omega)
      obtain ⟨_, ra2, ra3⟩ := hroot (at' q a).toNat (by omega)
      obtain ⟨_, rb2, rb3⟩ := hroot (at' q b).toNat (by omega)
      rw [Int.toNat_of_nonneg qa0] at ra3
      rw [Int.toNat_of_nonneg qb0] at rb3
      have e2 : rootOf [conjL p q] (at' q a).toNat = rootOf [conjL p q] (at' q b).toNat := Int.ofNat.inj e
      rw [e2] at ra3
      have hab : Rch [conjL p q] (at' q a) (at' q b) := (ra3.symm hsc (by omega) (by omega)).trans rb3
      obtain ⟨y, hy, hr⟩ := rch_conj' hp hq hl a0 (by omega) hab
      obtain ⟨y0, y1⟩ := hr.rng hsp a0 (by omega)
      have : b = y := at_inj hq b0 (by omega) y0 (by omega) hy
      subst this
      apply hne
      have := root_min hsp a2 (by omega) b2 (by omega) (by rw [Int.toNat_of_nonneg a0, Int.toNat_of_nonneg b0]; exact hr)
      omega
    · rw [List.mem_map]
      constructor
      · rintro ⟨r, hr, rfl⟩
        obtain ⟨a0, a1, a2⟩ := roots_mem.1 hr
        obtain ⟨qa0, qa1⟩ := at_rng hq a0 (show r < (q.length : Nat) by omega)
        obtain ⟨r1, r2, r3⟩ := hroot (at' q r).toNat (by omega)
        exact roots_mem.2 ⟨by omega, by omega, by rw [Int.toNat_natCast]; exact r1⟩
      · intro hz
        obtain ⟨z0, z1, z2⟩ := roots_mem.1 hz
        obtain ⟨x, x0, x1, rfl⟩ := at_sur hq z0 z1
        have hpr : rootB [p] (rootOf [p] x.toNat) = true := rootB_rootOf hsp (by omega)
        have hpl := rootOf_le [p] x.toNat
        have hpx := (rootOf_spec [p] x.toNat).1
        rw [Int.toNat_of_nonneg x0] at hpx
        refine ⟨(rootOf [p] x.toNat : Int), roots_mem.2 ⟨by omega, by omega, by rw [Int.toNat_natCast]; exact hpr⟩, ?_⟩
        obtain ⟨qr0, qr1⟩ := at_rng hq (show (0 : Int) ≤ (rootOf [p] x.toNat : Int) by omega) (show (rootOf [p] x.toNat : Int) < (q.length : Nat) by omega)
        obtain ⟨r1, r2, r3⟩ := hroot (at' q (rootOf [p] x.toNat : Int)).toNat (by omega)
        rw [Int.toNat_of_nonneg qr0] at r3
        have h2 := rch_conj hp hq hl (by omega) (by omega) hpx
        have := root_min hsc r1 r2 z2 (by omega) (by rw [Int.toNat_of_nonneg z0]; exact r3.trans h2)
        omega
  refine ((hmap.map (os (conjL p q))).symm).trans ?_
  rw [List.map_map]
  have : (roots p p.length).map (os (conjL p q) ∘ fun r => (rootOf [conjL p q] (at' q r).toNat : Int)) = (roots p p.length).map (os p) := by
    refine List.map_congr_left fun r hr => ?_
    obtain ⟨a0, a1, a2⟩ := roots_mem.1 hr
    obtain ⟨qa0, qa1⟩ := at_rng hq a0 (show r < (q.length : Nat) by omega)
    obtain ⟨r1, r2, r3⟩ := hroot (at' q r).toNat (by omega)
    rw [Int.toNat_of_nonneg qa0] at r3
    show os (conjL p q) _ = os p r
    rw [os_class hc (by omega) (by rw [hcl]; omega) r3, os_conj hp hq hl a0 (by omega)]
  rw [this]
theorem lensL_conj (hp : isPermP p) (hq : isPermP q) (hl : p.length = q.length) : lensL (conjL p q) = lensL p := by
  unfold lensL
  exact sorted_unique (((sortL_perm _).trans ((cycLens_conj hp hq hl).map _)).trans (sortL_perm _).symm) (sortL_sorted _) (sortL_sorted _)
theorem conj_conj {r : List Int} (hp : isPermP p) (hq : isPermP q) (hr : isPermP r) (hl : p.length = q.length) (hl2 : q.length = r.length) : conjL (conjL p q) r = conjL p (thenL q r) := by
  have hc := conjL_perm hp hq hl
  have hs := thenL_perm hq hr hl2
  have hsl := thenL_length q r
  have hcl := conjL_length p q
  have h1 := conjL_length (conjL p q) r
  have h2 := conjL_length p (thenL q r)
  apply list_ext_upto r.length (by omega) (by omega)
  intro j hj
  obtain ⟨x, x0, x1, hx⟩ := at_sur hs (z := (j : Int)) (by omega) (by omega)
  have e1 := at_mem (p := conjL (conjL p q) r) h1 (x := (j : Int)) (by omega) (by omega)
  have e2 := at_mem (p := conjL p (thenL q r)) (n := r.length) (by omega) (x := (j : Int)) (by omega) (by omega)
  rw [Int.toNat_natCast] at e1 e2
  rw [e1, e2]
  congr 1
  obtain ⟨q0, q1⟩ := at_rng hq (x := x) x0 (by omega)
  have hp1 := at_rng hp (x := x) x0 (by omega)
  have e3 := conj_at hp hs (by omega) (x := x) x0 (by omega)
  rw [hx] at e3
  rw [e3, then_at (n := q.length) rfl hp1.1 (by omega)]
  rw [← hx, then_at (n := q.length) rfl x0 (by omega), conj_at hc hr (by omega) q0 (by omega), conj_at hp hq hl x0 (by omega)]
end
end Go.Proofs.YtcjnhiglfkcmiaaDoor
/- PorP -/
namespace Go.Proofs.YtcjnhiglfkcmiaaDoor
set_option linter.unusedVariables false
theorem leastOf {P : Nat → Prop} (h : ∃ k, P k) : ∃ k, P k ∧ ∀ j, j < k → ¬ P j := by
  obtain ⟨k, hk⟩ := h
  induction k using Nat.strongRecOn with
  | ind k ih =>
    by_cases hex : ∃ j, j < k ∧ P j
    · obtain ⟨j, hj, hp⟩ := hex
      exact ih j hj hp
    · exact ⟨k, hk, fun j hj hp => hex ⟨j, hj, hp⟩⟩
theorem rch_itr {p : List Int} {x y : Int} (h : Rch [p] x y) : ∃ k, y = itr p k x := by
  induction h with
  | refl => exact ⟨0, rfl⟩
  | step hh hm ih =>
    obtain ⟨k, rfl⟩ := ih
    rw [List.mem_singleton.1 hm]
    exact ⟨k + 1, rfl⟩
theorem itr_mul {p : List Int} {K : Nat} {x : Int} (h : itr p K x = x) (a : Nat) : itr p (K * a) x = x := by
  induction a with
  | zero => rfl
  | succ a ih => rw [Nat.mul_succ, itr_add, h, ih]
theorem itr_mod {p : List Int} {K : Nat} {x : Int} (h : itr p K x = x) (m : Nat) : itr p m x = itr p (m % K) x := by
  have e := Nat.mod_add_div m K
  calc itr p m x = itr p (m % K + K * (m / K)) x := by rw [e]
    _ = itr p (m % K) x := by rw [itr_add, itr_mul h]
theorem os_period {p : List Int} (hp : isPermP p) {x : Int} (h0 : 0 ≤ x) (h1 : x < (p.length : Nat)) : 1 ≤ os p x ∧ itr p (os p x) x = x ∧ ∀ j, 1 ≤ j → j < os p x → itr p j x ≠ x := by
  obtain ⟨k0, a1, _, a3⟩ := itr_back (n := p.length) hp.rng hp.nd rfl h0 h1
  obtain ⟨K, ⟨b1, b2⟩, b3⟩ := leastOf (P := fun k => 1 ≤ k ∧ itr p k x = x) ⟨k0, a1, a3⟩
  have hK : ((List.range K).map fun k => itr p k x).length = os p x := by
    apply os_of hp h0 h1
    · rw [List.nodup_iff_pairwise_ne, List.pairwise_map]
      refine List.Pairwise.imp_of_mem ?_ List.pairwise_lt_range
      intro a b ha hb hab e
      have hb := List.mem_range.1 hb
      have e2 : itr p a x = itr p a (itr p (b - a) x) := by rw [← itr_add, show a + (b - a) = b by omega]; exact e
      have g := itr_rng (n := p.length) hp.rng rfl h0 h1 (b - a)
      exact b3 (b - a) (by omega) ⟨by omega, (itr_inj (n := p.length) hp.rng hp.nd rfl a h0 h1 g.1 g.2 e2).symm⟩
    · intro y
      constructor
      · intro h
        obtain ⟨k, _, rfl⟩ := List.mem_map.1 h
        exact Rch.itr_ (by simp) x k
      · intro h
        obtain ⟨k, rfl⟩ := rch_itr h
        exact List.mem_map.2 ⟨k % K, List.mem_range.2 (Nat.mod_lt _ (by omega)), (itr_mod b2 k).symm⟩
  rw [List.length_map, List.length_range] at hK
  subst hK
  exact ⟨b1, b2, fun j h1 h2 e => b3 j h2 ⟨h1, e⟩⟩
theorem itr_iff {p : List Int} (hp : isPermP p) {x : Int} (h0 : 0 ≤ x) (h1 : x < (p.length : Nat)) {m : Nat} : itr p m x = x ↔ os p x ∣ m := by
  obtain ⟨a, b, c⟩ := os_period hp h0 h1
  constructor
  · intro h
    rw [itr_mod b m] at h
    rcases Nat.eq_zero_or_pos (m % os p x) with e | e
    · exact Nat.dvd_of_mod_eq_zero e
    · exact absurd h (c _ e (Nat.mod_lt _ (by omega)))
  · rintro ⟨k, rfl⟩
    exact itr_mul b k
/-- the order divides m exactly where m steps bring each point back -/
theorem ord_iff {p : List Int} (hp : isPermP p) {m : Nat} : lcmL (cycLens p) ∣ m ↔ ∀ x : Int, 0 ≤ x → x < (p.length : Nat) → itr p m x = x := by
  have hs := one_sys hp
  rw [lcmL_dvd, cycLens_eq hp]
  constructor
  · intro h x h0 h1
    rw [itr_iff hp h0 h1]
    obtain ⟨X, rfl⟩ := Int.eq_ofNat_of_zero_le h0
    have hX : X < p.length := by omega
    have hr := rootB_rootOf hs hX
    have hle := rootOf_le [p] X
    have hR := (rootOf_spec [p] X).1
    have e := os_class hp (x := (rootOf [p] X : Int)) (y := (X : Int)) (by omega) (by omega) hR
    rw [← e]
    exact h _ (List.mem_map.2 ⟨_, roots_mem.2 ⟨by omega, by omega, by simpa using hr⟩, rfl⟩)
  · intro h l hl
    obtain ⟨r, hr, rfl⟩ := List.mem_map.1 hl
    obtain ⟨g0, g1, _⟩ := roots_mem.1 hr
    exact (itr_iff hp g0 g1).1 (h r g0 g1)
theorem ord_pos {p : List Int} : 0 < lcmL (cycLens p) := by
  apply lcmL_pos
  intro x hx
  unfold cycLens at hx
  obtain ⟨c, hc, rfl⟩ := List.mem_map.1 hx
  have := ((cycAll_len p).2 c hc).1
  omega
theorem itr_then {q : List Int} {n : Nat} (hr : ∀ x ∈ q, 0 ≤ x ∧ x < n) (hl : q.length = n) {y : Int} (h0 : 0 ≤ y) (h1 : y < n) : ∀ j, itr (thenL q q) j y = itr q (2 * j) y := by
  intro j
  induction j with
  | zero => rfl
  | succ j ih =>
    have g := itr_rng hr hl h0 h1 (2 * j)
    show at' (thenL q q) (itr (thenL q q) j y) = _
    rw [ih, then_at hl g.1 g.2]
    rfl
theorem powGo_at {n : Nat} : ∀ (f k : Nat) (q out : List Int), k < 2 ^ f → isPermP q → q.length = n → isPermP out → out.length = n →
    (isPermP (powGo f q out k) ∧ (powGo f q out k).length = n) ∧ ∀ x : Int, 0 ≤ x → x < n → at' (powGo f q out k) x = itr q k (at' out x) := by
  intro f
  induction f with
  | zero =>
    intro k q out hk hq hql ho hol
    have : k = 0 := by simpa using hk
    subst this
    rw [powGo_stop]
    exact ⟨⟨ho, hol⟩, fun x _ _ => rfl⟩
  | succ f ih =>
    intro k q out hk hq hql ho hol
    rcases Nat.eq_zero_or_pos k with rfl | hk0
    · rw [powGo_stop]
      exact ⟨⟨ho, hol⟩, fun x _ _ => rfl⟩
    · have hk2 : k / 2 < 2 ^ f := by rw [Nat.pow_succ] at hk; omega
      have hqq := thenL_perm hq hq rfl
      have hqr : ∀ x ∈ q, 0 ≤ x ∧ x < n := by rw [← hql]; exact hq.rng
      rcases Nat.mod_two_eq_zero_or_one k with e | e
      · rw [powGo_even hk0 e]
        obtain ⟨h1, h2⟩ := ih (k / 2) (thenL q q) out hk2 hqq (by rw [thenL_length, hql]) ho hol
        refine ⟨h1, fun x g0 g1 => ?_⟩
        have g := at_rng ho g0 (by rw [hol]; exact g1)
        rw [hol] at g
        rw [h2 x g0 g1, itr_then hqr hql g.1 g.2, show 2 * (k / 2) = k by omega]
      · rw [powGo_odd hk0 e]
        have hoq := thenL_perm ho hq (by omega)
        obtain ⟨h1, h2⟩ := ih (k / 2) (thenL q q) (thenL out q) hk2 hqq (by rw [thenL_length, hql]) hoq (by rw [thenL_length, hol])
        refine ⟨h1, fun x g0 g1 => ?_⟩
        have g := at_rng ho g0 (by rw [hol]; exact g1)
        rw [hol] at g
        have g2 := at_rng hq g.1 (by rw [hql]; exact g.2)
        rw [hql] at g2
        rw [h2 x g0 g1, then_at hol g0 g1, itr_then hqr hql g2.1 g2.2, ← itr_succ', show 2 * (k / 2) + 1 = k by omega]
theorem idL_at {n : Nat} {x : Int} (h0 : 0 ≤ x) (h1 : x < n) : at' (idL n) x = x := by
  have := idL_get (n := n) (j := x.toNat) (by omega)
  unfold at'
  rw [getD_some this, Int.toNat_of_nonneg h0]
theorem itr_inv {p : List Int} (hp : isPermP p) {y : Int} (h0 : 0 ≤ y) (h1 : y < (p.length : Nat)) : ∀ j, itr (invL p) j (itr p j y) = y := by
  intro j
  induction j with
  | zero => rfl
  | succ j ih =>
    have g := itr_rng (n := p.length) hp.rng rfl h0 h1 j
    rw [itr_succ']
    show itr (invL p) j (at' (invL p) (at' p (itr p j y))) = y
    rw [inv_at hp g.1 g.2, ih]
theorem itr_ord {p : List Int} (hp : isPermP p) {x : Int} (h0 : 0 ≤ x) (h1 : x < (p.length : Nat)) {a b : Nat} (h : a % lcmL (cycLens p) = b % lcmL (cycLens p)) : itr p a x = itr p b x := by
  have e := (ord_iff hp).1 (Nat.dvd_refl _) x h0 h1
  rw [itr_mod e a, itr_mod e b, h]
theorem powL_ok {p : List Int} (hp : isPermP p) {k : Int} (hk : -1000000000 ≤ k ∧ k ≤ 1000000000) : isPermP (powL p k) ∧ (powL p k).length = p.length := by
  unfold powL
  have hid := idL_perm hp.le
  have hk2 : k.natAbs < 2 ^ 40 := by have : (2 : Nat) ^ 40 = 1099511627776 := by decide
                                     omega
  by_cases hk0 : k < 0
  · rw [if_pos hk0]
    exact (powGo_at (n := p.length) 40 _ _ _ hk2 (invL_perm hp) (invL_length p) hid (idL_length _)).1
  · rw [if_neg hk0]
    exact (powGo_at (n := p.length) 40 _ _ _ hk2 hp rfl hid (idL_length _)).1
theorem pow_at {p : List Int} (hp : isPermP p) {k : Int} (hk : -1000000000 ≤ k ∧ k ≤ 1000000000) {x : Int} (h0 : 0 ≤ x) (h1 : x < (p.length : Nat)) : at' (powL p k) x = itr p (k % (lcmL (cycLens p) : Int)).toNat x := by
  have hid := idL_perm hp.le
  have hk2 : k.natAbs < 2 ^ 40 := by have : (2 : Nat) ^ 40 = 1099511627776 := by decide
                                     omega
  have hD := ord_pos (p := p)
  generalize hDe : lcmL (cycLens p) = D at hD
  unfold powL
  by_cases hk0 : k < 0
  · rw [if_pos hk0, (powGo_at (n := p.length) 40 _ _ _ hk2 (invL_perm hp) (invL_length p) hid (idL_length _)).2 x h0 h1, idL_at h0 h1]
    have hr0 := Int.emod_nonneg k (show (D : Int) ≠ 0 by omega)
    have hdm := Int.mul_ediv_add_emod k D
    generalize hre : (k % (D : Int)).toNat = r
    have hr : k % (D : Int) = (r : Int) := by omega
    rw [hr] at hdm
    have hdv : D ∣ k.natAbs + r := by
      have : ((k.natAbs + r : Nat) : Int) = (D : Int) * (-(k / (D : Int))) := by
        rw [Int.mul_neg]; omega
      exact Int.natCast_dvd_natCast.1 ⟨_, this⟩
    have g := itr_rng (n := p.length) hp.rng rfl h0 h1 r
    have e : itr p k.natAbs (itr p r x) = x := by
      rw [← itr_add]
      exact (ord_iff hp).1 (by rw [hDe]; exact hdv) x h0 h1
    calc itr (invL p) k.natAbs x = itr (invL p) k.natAbs (itr p k.natAbs (itr p r x)) := by rw [e]
      _ = itr p r x := itr_inv hp g.1 g.2 _
  · rw [if_neg hk0, (powGo_at (n := p.length) 40 _ _ _ hk2 hp rfl hid (idL_length _)).2 x h0 h1, idL_at h0 h1]
    apply itr_ord hp h0 h1
    rw [hDe]
    obtain ⟨K, rfl⟩ := Int.eq_ofNat_of_zero_le (show 0 ≤ k by omega)
    rw [show ((K : Int) % (D : Int)).toNat = K % D by rw [← Int.natCast_emod]; exact Int.toNat_natCast _]
    rw [show (K : Int).natAbs = K from Int.natAbs_natCast K, Nat.mod_mod]
theorem at_ext {p q : List Int} (hl : p.length = q.length) (h : ∀ x : Int, 0 ≤ x → x < (p.length : Nat) → at' p x = at' q x) : p = q := by
  apply List.ext_getElem hl
  intro i h1 h2
  have := h (i : Int) (by omega) (by omega)
  unfold at' at this
  simpa [List.getD_eq_getElem?_getD, List.getElem?_eq_getElem h1, List.getElem?_eq_getElem h2] using this
theorem pow_add {p : List Int} (hp : isPermP p) {a b : Int} (ha : -1000000 ≤ a ∧ a ≤ 1000000) (hb : -1000000 ≤ b ∧ b ≤ 1000000) : thenL (powL p a) (powL p b) = powL p (a + b) := by
  have pa := powL_ok hp (k := a) (by omega)
  have pb := powL_ok hp (k := b) (by omega)
  have pab := powL_ok hp (k := a + b) (by omega)
  apply at_ext
  · rw [thenL_length, pa.2, pab.2]
  · intro x h0 h1
    rw [thenL_length, pa.2] at h1
    rw [then_at pa.2 h0 h1, pow_at hp (by omega) h0 h1, pow_at hp (by omega) h0 h1]
    have g := itr_rng (n := p.length) hp.rng rfl h0 h1 (a % (lcmL (cycLens p) : Int)).toNat
    rw [pow_at hp (by omega) g.1 g.2, ← itr_add]
    apply itr_ord hp h0 h1
    have hD := ord_pos (p := p)
    generalize lcmL (cycLens p) = D at hD
    have h1 := Int.emod_nonneg a (show (D : Int) ≠ 0 by omega)
    have h2 := Int.emod_nonneg b (show (D : Int) ≠ 0 by omega)
    have h3 := Int.emod_nonneg (a + b) (show (D : Int) ≠ 0 by omega)
    have e : (((b % (D : Int)).toNat + (a % (D : Int)).toNat : Nat) : Int) % D = (((a + b) % (D : Int)).toNat : Int) % D := by
      rw [Int.natCast_add, Int.toNat_of_nonneg h2, Int.toNat_of_nonneg h1, Int.toNat_of_nonneg h3, Int.emod_emod, Int.add_comm, ← Int.add_emod]
    rw [← Int.natCast_emod, ← Int.natCast_emod] at e
    exact Int.ofNat.inj e
theorem then_inv {p : List Int} (hp : isPermP p) : thenL p (invL p) = idL p.length := by
  apply at_ext
  · rw [thenL_length, idL_length]
  · intro x h0 h1
    rw [thenL_length] at h1
    rw [then_at rfl h0 h1, inv_at hp h0 h1, idL_at h0 h1]
theorem pow_ord {p : List Int} (hp : isPermP p) (h : lcmL (cycLens p) ≤ 1000000000) : powL p (lcmL (cycLens p) : Int) = idL p.length := by
  have pk := powL_ok hp (k := (lcmL (cycLens p) : Int)) (by omega)
  apply at_ext
  · rw [pk.2, idL_length]
  · intro x h0 h1
    rw [pk.2] at h1
    rw [pow_at hp (by omega) h0 h1, idL_at h0 h1, Int.emod_self]
    rfl
theorem pow_less {p : List Int} (hp : isPermP p) (h : lcmL (cycLens p) ≤ 1000000000) {m : Nat} (h0 : 0 < m) (h1 : m < lcmL (cycLens p)) : powL p (m : Int) ≠ idL p.length := by
  intro e
  have hd : lcmL (cycLens p) ∣ m := by
    rw [ord_iff hp]
    intro x g0 g1
    have := pow_at hp (k := (m : Int)) (by omega) g0 g1
    rw [e, idL_at g0 g1, Int.emod_eq_of_lt (by omega) (by omega), Int.toNat_natCast] at this
    exact this.symm
  have := Nat.le_of_dvd h0 hd
  omega
theorem lens_sum {p : List Int} (hp : isPermP p) : (cycLens p).sum = p.length := by
  have hs := one_sys hp
  rw [cycLens_eq hp]
  have hfl : ((roots p p.length).flatMap (bfs [p] p.length)).length = ((roots p p.length).map (os p)).sum := by
    rw [List.length_flatMap]; rfl
  rw [← hfl, ← idL_length p.length]
  apply List.Perm.length_eq
  rw [idL_length]
  apply perm_of_mem
  · rw [List.nodup_iff_pairwise_ne, List.pairwise_flatMap]
    constructor
    · intro a ha
      obtain ⟨g0, g1, _⟩ := roots_mem.1 ha
      rw [← List.nodup_iff_pairwise_ne]
      exact (bfs_met hs g0 g1).nd
    · refine List.Pairwise.imp_of_mem ?_ (List.nodup_iff_pairwise_ne.1 (roots_nodup p p.length))
      intro a b ha hb hab x hx y hy e
      subst e
      obtain ⟨a0, a1, a2⟩ := roots_mem.1 ha
      obtain ⟨b0, b1, b2⟩ := roots_mem.1 hb
      have hxa := (bfs_mem hs a0 a1).1 hx
      have hxb := (bfs_mem hs b0 b1).1 hy
      have hab' := hxa.trans (hxb.symm hs b0 b1)
      obtain ⟨A, rfl⟩ := Int.eq_ofNat_of_zero_le a0
      obtain ⟨B, rfl⟩ := Int.eq_ofNat_of_zero_le b0
      have := root_min hs (x := A) (y := B) (by simpa using a2) (by omega) (by simpa using b2) (by omega) hab'
      exact hab (by rw [this])
  · exact (idL_perm hp.le).nd
  · intro x
    rw [List.mem_flatMap]
    constructor
    · rintro ⟨r, hr, hx⟩
      obtain ⟨g0, g1, _⟩ := roots_mem.1 hr
      exact mem_ints.2 (((bfs_mem hs g0 g1).1 hx).rng hs g0 g1)
    · intro hx
      obtain ⟨h0, h1⟩ := mem_ints.1 hx
      obtain ⟨X, rfl⟩ := Int.eq_ofNat_of_zero_le h0
      have hX : X < p.length := by omega
      have hle := rootOf_le [p] X
      exact ⟨_, roots_mem.2 ⟨by omega, by omega, by simpa using rootB_rootOf hs hX⟩, (bfs_mem hs (by omega) (by omega)).2 (rootOf_spec [p] X).1⟩
end Go.Proofs.YtcjnhiglfkcmiaaDoor
/- GrpQ -/
namespace Go.Proofs.YtcjnhiglfkcmiaaDoor
set_option linter.unusedVariables false
set_option maxRecDepth 100000
/-- what the list of the elements has -/
structure GrpA (n : Nat) (xss F : List (List Int)) : Prop where
  nd : F.Nodup
  all : ∀ x ∈ F, isPermP x ∧ x.length = n
  one : idL n ∈ F
  mul : ∀ p ∈ F, ∀ g ∈ xss, thenL p g ∈ F
  ind : ∀ P : List Int → Prop, P (idL n) → (∀ p g, P p → isPermP p → p.length = n → g ∈ xss → P (thenL p g)) → ∀ p ∈ F, P p
structure GrpB (n : Nat) (xss : List (List Int)) (i : Nat) (F : List (List Int)) : Prop where
  nd : F.Nodup
  all : ∀ x ∈ F, isPermP x ∧ x.length = n
  one : idL n ∈ F
  mul : ∀ j p, j < i → F[j]? = some p → ∀ g ∈ xss, thenL p g ∈ F
  ind : ∀ P : List Int → Prop, P (idL n) → (∀ p g, P p → isPermP p → p.length = n → g ∈ xss → P (thenL p g)) → ∀ p ∈ F, P p
theorem GrpB.step {n : Nat} {xss : List (List Int)} (hs : isSysP n xss) {i : Nat} {F : List (List Int)} (b : GrpB n xss i F) (hi : i < F.length) : GrpB n xss (i + 1) (rowG (F.getD i []) xss F) := by
  have he : F[i]? = some (F.getD i []) := by rw [List.getD_eq_getElem?_getD, List.getElem?_eq_getElem hi]; rfl
  generalize F.getD i [] = e at he
  obtain ⟨h1, h2⟩ := b.all e (List.mem_of_getElem? he)
  have hsub := (rowG_pre e xss F)
  refine ⟨rowG_nd e b.nd, rowG_all b.all fun p hp => ?_, hsub.subset b.one, fun j p hj hp g hg => ?_, fun P h0 hst => rowG_all (b.ind P h0 hst) fun g hg => hst e g (b.ind P h0 hst e (List.mem_of_getElem? he)) h1 h2 hg⟩
  · obtain ⟨h3, h4⟩ := hs.2.2.2 p hp
    exact ⟨thenL_perm h1 h3 (by omega), by rw [thenL_length]; exact h2⟩
  · have hsub2 := hsub
    obtain ⟨t, ht⟩ := hsub2
    by_cases hji : j < i
    · rw [← ht, List.getElem?_append_left (by omega)] at hp
      exact hsub.subset (b.mul j p hji hp g hg)
    · obtain rfl : j = i := by omega
      rw [← ht, List.getElem?_append_left hi, he] at hp
      obtain rfl : e = p := Option.some.inj hp
      exact rowG_has e xss F g hg
theorem grpGo_fin {n : Nat} {xss : List (List Int)} (hs : isSysP n xss) : ∀ (f i : Nat) (F F' : List (List Int)), GrpB n xss i F → grpGo xss f i F = some F' → GrpA n xss F'
  | 0, i, F, F', _, h => by cases h
  | f + 1, i, F, F', b, h => by
    unfold grpGo at h
    by_cases hi : i < F.length
    · rw [if_pos hi] at h
      by_cases hm : 1000 < (rowG (F.getD i []) xss F).length
      · rw [if_pos hm] at h; cases h
      · rw [if_neg hm] at h
        exact grpGo_fin hs f (i + 1) _ F' (b.step hs hi) h
    · rw [if_neg hi] at h
      obtain rfl : F = F' := Option.some.inj h
      exact ⟨b.nd, b.all, b.one, fun p hp g hg => by
        obtain ⟨j, hj, e⟩ := List.getElem_of_mem hp
        exact b.mul j p (by omega) (by rw [List.getElem?_eq_getElem hj, e]) g hg, b.ind⟩
theorem grp_all {n : Nat} {xss F : List (List Int)} (hs : isSysP n xss) (h : grpL n xss = some F) : GrpA n xss F :=
  grpGo_fin hs 1001 0 [idL n] F ⟨by simp, fun x hx => by
    simp at hx
    subst hx
    exact ⟨idL_perm (by have := hs.2.1; omega), idL_length n⟩, by simp, fun j p hj => by omega, fun P h0 _ p hp => by
    simp at hp
    subst hp
    exact h0⟩ h
theorem then_id {p : List Int} (hp : isPermP p) : thenL p (idL p.length) = p := by
  apply at_ext
  · rw [thenL_length]
  · intro x h0 h1
    rw [thenL_length] at h1
    obtain ⟨g0, g1⟩ := at_rng hp h0 h1
    rw [then_at rfl h0 h1, idL_at g0 g1]
theorem then_assoc {p q r : List Int} {n : Nat} (hp : isPermP p) (hpl : p.length = n) (hq : isPermP q) (hql : q.length = n) : thenL p (thenL q r) = thenL (thenL p q) r := by
  apply at_ext
  · simp [thenL_length]
  · intro x h0 h1
    rw [thenL_length] at h1
    obtain ⟨g0, g1⟩ := at_rng hp h0 h1
    rw [then_at rfl h0 h1, then_at (p := q) (n := n) hql g0 (by omega), then_at (p := thenL p q) (n := n) (by rw [thenL_length]; exact hpl) h0 (by omega), then_at rfl h0 h1]
/-- products of elements -/
theorem GrpA.prod {n : Nat} {xss F : List (List Int)} (a : GrpA n xss F) : ∀ q ∈ F, ∀ p ∈ F, thenL p q ∈ F := by
  refine a.ind (fun q => ∀ p ∈ F, thenL p q ∈ F) (fun p hp => ?_) (fun q g hq hqp hql hg p hp => ?_)
  · obtain ⟨h1, h2⟩ := a.all p hp
    rw [← h2, then_id h1]
    exact hp
  · obtain ⟨h1, h2⟩ := a.all p hp
    rw [then_assoc h1 h2 hqp hql]
    exact a.mul _ (hq p hp) g hg
theorem then_inj {p x y : List Int} (hp : isPermP p) (hx : x.length = p.length) (hy : y.length = p.length) (h : thenL p x = thenL p y) : x = y := by
  apply at_ext
  · omega
  · intro z h0 h1
    obtain ⟨u, u0, u1, rfl⟩ := at_sur hp h0 (by omega)
    rw [← then_at rfl u0 u1, ← then_at rfl u0 u1, h]
theorem nodup_sur {α : Type} [DecidableEq α] : ∀ {A B : List α}, A.Nodup → (∀ x ∈ A, x ∈ B) → B.length ≤ A.length → ∀ y ∈ B, y ∈ A
  | [], B, _, _, hl, y, hy => by have : B = [] := List.length_eq_zero_iff.1 (by simpa using hl); subst this; exact hy
  | a :: A, B, hn, hs, hl, y, hy => by
    obtain ⟨h1, h2⟩ := List.nodup_cons.1 hn
    have haB := hs a (by simp)
    by_cases e : y = a
    · rw [e]; simp
    · have hE : (B.erase a).length = B.length - 1 := List.length_erase_of_mem haB
      have := nodup_sur (A := A) (B := B.erase a) h2 (fun x hx => (List.mem_erase_of_ne (show x ≠ a from fun e => by rw [e] at hx; exact h1 hx)).2 (hs x (by simp [hx]))) (by rw [hE]; simp at hl; omega) y ((List.mem_erase_of_ne e).2 hy)
      simp [this]
/-- inverses of elements -/
theorem GrpA.inv {n : Nat} {xss F : List (List Int)} (a : GrpA n xss F) {p : List Int} (hp : p ∈ F) : invL p ∈ F := by
  obtain ⟨h1, h2⟩ := a.all p hp
  have hnd : (F.map (thenL p)).Nodup := by
    rw [List.nodup_iff_pairwise_ne, List.pairwise_map]
    refine List.Pairwise.imp_of_mem ?_ a.nd
    intro x y hx hy hxy e
    exact hxy (then_inj h1 (by rw [(a.all x hx).2, h2]) (by rw [(a.all y hy).2, h2]) e)
  have hsub : ∀ x ∈ F.map (thenL p), x ∈ F := fun x hx => by
    obtain ⟨q, hq, rfl⟩ := List.mem_map.1 hx
    exact a.prod q hq p hp
  have := nodup_sur hnd hsub (by rw [List.length_map]; exact Nat.le_refl _) (idL n) a.one
  obtain ⟨x, hx, e⟩ := List.mem_map.1 this
  have e2 := then_inv h1
  rw [h2, ← e] at e2
  rw [then_inj h1 (by rw [invL_length]) (by rw [(a.all x hx).2, h2]) e2]
  exact hx
theorem sys_of {n : Nat} {xss : List (List Int)} (hs : isSysP n xss) : SysOf xss n := (sysOf (isSysB_iff.2 hs)).1
/-- the images of a point are its orbit -/
theorem GrpA.orb {n : Nat} {xss F : List (List Int)} (hs : isSysP n xss) (a : GrpA n xss F) {i : Nat} (hi : i < n) (y : Int) : (∃ p ∈ F, at' p i = y) ↔ Rch xss i y := by
  have hS := sys_of hs
  constructor
  · rintro ⟨p, hp, rfl⟩
    refine a.ind (fun p => Rch xss i (at' p i)) ?_ (fun p g h hpp hpl hg => ?_) p hp
    · rw [idL_at (by omega) (by omega)]; exact .refl
    · rw [then_at hpl (by omega) (by omega)]
      exact h.step hg
  · intro h
    induction h with
    | refl => exact ⟨idL n, a.one, idL_at (by omega) (by omega)⟩
    | step hy hg ih =>
      obtain ⟨p, hp, e⟩ := ih
      refine ⟨thenL p _, a.mul p hp _ hg, ?_⟩
      rw [then_at (a.all p hp).2 (by omega) (by omega), e]
theorem GrpA.lab {n : Nat} {xss F : List (List Int)} (hs : isSysP n xss) (a : GrpA n xss F) {i j : Nat} (hi : i < n) (hj : j < n) : (∃ p ∈ F, at' p i = (j : Int)) ↔ labOf xss j = labOf xss i := by
  have hS := sys_of hs
  rw [a.orb hs hi (j : Int), ← labOf_eq_iff hS hi hj]
  exact ⟨fun e => e.symm, fun e => e.symm⟩
theorem id_least_go {n : Nat} {p : List Int} (hp : isPermP p) (hl : p.length = n) : ∀ (d k : Nat), n - k = d → (∀ j, j < k → p[j]? = some (j : Int)) → cmpL ((idL n).drop k) (p.drop k) ≤ 0
  | 0, k, hk, _ => by rw [cmpL_end (by rw [idL_length]; omega) (by omega)]; omega
  | d + 1, k, hk, h => by
    have hkn : k < n := by omega
    obtain ⟨y, hy⟩ : ∃ y, p[k]? = some y := ⟨p[k]'(by omega), List.getElem?_eq_getElem (by omega)⟩
    have hx : (idL n)[k]? = some (k : Int) := by simp [idL, hkn]
    rw [cmpL_step hx hy]
    obtain ⟨y0, y1⟩ := hp.rng y (List.mem_of_getElem? hy)
    have hyk : (k : Int) ≤ y := by
      apply Int.le_of_not_gt
      intro hlt
      obtain ⟨z, rfl⟩ := Int.eq_ofNat_of_zero_le y0
      have hz := h z (by omega)
      obtain ⟨q1, e1⟩ := List.getElem?_eq_some_iff.1 hz
      obtain ⟨q2, e2⟩ := List.getElem?_eq_some_iff.1 hy
      have := (List.nodup_iff_pairwise_ne.1 hp.nd)
      have := List.pairwise_iff_getElem.1 this z k q1 q2 (by omega)
      exact this (by rw [e1, e2])
    by_cases e : (k : Int) < y
    · rw [if_pos e]; omega
    · rw [if_neg e, if_neg (by omega)]
      refine id_least_go hp hl d (k + 1) (by omega) fun j hj => ?_
      by_cases ej : j = k
      · subst ej; rw [hy]; congr 1; omega
      · exact h j (by omega)
theorem id_least {n : Nat} {p : List Int} (hp : isPermP p) (hl : p.length = n) : lexB (idL n) p = true := decide_eq_true (by
  have := id_least_go hp hl n 0 (by omega) (fun j hj => by omega)
  simpa using this)
/-- the first one is the identity -/
theorem GrpA.head {n : Nat} {xss F : List (List Int)} (a : GrpA n xss F) : (srtG F)[0]? = some (idL n) := by
  have hper := srtG_perm F
  have hs : (srtG F).Pairwise (fun a b => lexB a b = true) := List.pairwise_mergeSort lexB_trans lexB_total F
  have hone := hper.mem_iff.2 a.one
  cases hc : srtG F with
  | nil => rw [hc] at hone; simp at hone
  | cons x r =>
    rw [hc] at hs hone hper
    obtain ⟨h1, _⟩ := List.pairwise_cons.1 hs
    have hx := a.all x (hper.mem_iff.1 (by simp))
    rcases List.mem_cons.1 hone with e | e
    · rw [e]; rfl
    · rw [lexB_anti (h1 _ e) (id_least hx.1 hx.2)]; rfl
theorem grpF_zero {n : Nat} {xss zss : List (List Int)} (h : (zss, (0 : Int)) = grpF (n : Int) xss) : isSysP n xss ∧ ∃ F, grpL n xss = some F ∧ zss = srtG F := by
  unfold grpF at h
  by_cases hs : isSysB (n : Int) xss = true
  · rw [if_pos hs, Int.toNat_natCast] at h
    refine ⟨isSysB_iff.1 hs, ?_⟩
    cases hg : grpL n xss with
    | none => rw [hg] at h; have := (Prod.mk.inj h).2; omega
    | some F => rw [hg] at h; exact ⟨F, rfl, (Prod.mk.inj h).1⟩
  · rw [if_neg hs] at h
    have := (Prod.mk.inj h).2
    omega
theorem grpF_pos {n : Int} {xss zss : List (List Int)} (h : (zss, (0 : Int)) = grpF n xss) : 0 ≤ n := by
  unfold grpF at h
  by_cases hs : isSysB n xss = true
  · exact (isSysB_iff.1 hs).1
  · rw [if_neg hs] at h
    have := (Prod.mk.inj h).2
    omega
end Go.Proofs.YtcjnhiglfkcmiaaDoor
/- LcgP -/
namespace Go.Proofs.YtcjnhiglfkcmiaaDoor
set_option linter.unusedVariables false
set_option maxRecDepth 100000
def lcgA : Nat := 6364136223846793005
def lcgC : Nat := 1442695040888963407
def lcg (h : Nat) : Nat := (h * lcgA + lcgC) % 18446744073709551616
def lcgN : Nat → Nat → Nat
  | 0, h => h
  | d + 1, h => lcg (lcgN d h)
/-- 1 + a + .. + a^(d-1) -/
def geo : Nat → Nat
  | 0 => 0
  | d + 1 => lcgA * geo d + 1
theorem geo_pow (d : Nat) : (lcgA - 1) * geo d + 1 = lcgA ^ d := by
  induction d with
  | zero => rfl
  | succ d ih =>
    rw [Nat.pow_succ, ← ih]
    have : lcgA = (lcgA - 1) + 1 := rfl
    generalize lcgA - 1 = b at *
    rw [show geo (d + 1) = lcgA * geo d + 1 from rfl, this]
    generalize geo d = g
    rw [Nat.mul_add, Nat.add_mul, Nat.add_mul, Nat.mul_add, Nat.mul_add]
    simp only [Nat.one_mul, Nat.mul_one]
    rw [Nat.mul_comm (b * g) b, ]
    omega
theorem geo_add (d e : Nat) : geo (d + e) = lcgA ^ e * geo d + geo e := by
  induction e with
  | zero => simp [geo]
  | succ e ih =>
    rw [show d + (e + 1) = (d + e) + 1 by omega, show geo (d + e + 1) = lcgA * geo (d + e) + 1 from rfl, ih, show geo (e + 1) = lcgA * geo e + 1 from rfl, Nat.pow_succ, Nat.mul_add]
    rw [← Nat.mul_assoc, Nat.mul_comm lcgA (lcgA ^ e)]
    omega
theorem geo_double (e : Nat) : geo (2 * e) = geo e * (lcgA ^ e + 1) := by
  rw [show 2 * e = e + e by omega, geo_add, Nat.mul_add, Nat.mul_one, Nat.mul_comm]
theorem pow_mod4 (e : Nat) : lcgA ^ e % 4 = 1 := by
  induction e with
  | zero => rfl
  | succ e ih => rw [Nat.pow_succ, Nat.mul_mod, ih]; rfl
theorem geo_mod2 (d : Nat) : geo d % 2 = d % 2 := by
  induction d with
  | zero => rfl
  | succ d ih =>
    rw [show geo (d + 1) = lcgA * geo d + 1 from rfl]
    have : lcgA % 2 = 1 := rfl
    have h2 : (lcgA * geo d) % 2 = geo d % 2 := by rw [Nat.mul_mod, this, Nat.one_mul, Nat.mod_mod]
    omega
theorem dvd_odd (k x y : Nat) (hy : y % 2 = 1) (h : 2 ^ k ∣ x * y) : 2 ^ k ∣ x := by
  have hc : Nat.Coprime (2 ^ k) y := by
    apply Nat.Coprime.pow_left
    unfold Nat.Coprime
    have h1 : Nat.gcd 2 y ∣ 2 := Nat.gcd_dvd_left 2 y
    have h2 : Nat.gcd 2 y ∣ y := Nat.gcd_dvd_right 2 y
    have h3 : Nat.gcd 2 y ≤ 2 := Nat.le_of_dvd (by omega) h1
    have h4 : Nat.gcd 2 y ≠ 0 := fun e => by rw [e] at h1; simp at h1
    have h5 : Nat.gcd 2 y ≠ 2 := fun e => by rw [e] at h2; omega
    omega
  exact hc.dvd_of_dvd_mul_right h
theorem geo_dvd : ∀ (k d : Nat), 2 ^ k ∣ geo d → 2 ^ k ∣ d := by
  intro k
  induction k with
  | zero => intro d _; exact ⟨d, by simp⟩
  | succ k ih =>
    intro d h
    have h2 : 2 ∣ geo d := Nat.dvd_trans ⟨2 ^ k, by rw [Nat.pow_succ, Nat.mul_comm]⟩ h
    have hd : d % 2 = 0 := by rw [← geo_mod2]; omega
    obtain ⟨e, rfl⟩ : ∃ e, d = 2 * e := ⟨d / 2, by omega⟩
    rw [geo_double] at h
    have hm := pow_mod4 e
    obtain ⟨q, hq⟩ : ∃ q, lcgA ^ e + 1 = 2 * q ∧ q % 2 = 1 := ⟨(lcgA ^ e + 1) / 2, by omega, by omega⟩
    rw [hq.1] at h
    obtain ⟨t, ht⟩ := h
    have h3 : 2 ^ k ∣ geo e * q := ⟨t, by
      have : 2 * (geo e * q) = 2 * (2 ^ k * t) := by
        rw [show 2 * (geo e * q) = geo e * (2 * q) by rw [Nat.mul_left_comm], ht, Nat.pow_succ, Nat.mul_comm (2 ^ k) 2, Nat.mul_assoc]
      omega⟩
    obtain ⟨s, hs⟩ := ih e (dvd_odd k _ _ hq.2 h3)
    exact ⟨s, by rw [hs, Nat.pow_succ, Nat.mul_comm (2 ^ k) 2, Nat.mul_assoc]⟩
theorem lcg_lt (h : Nat) : lcg h < 18446744073709551616 := Nat.mod_lt _ (by omega)
theorem lcgN_lt {h : Nat} (hh : h < 18446744073709551616) (d : Nat) : lcgN d h < 18446744073709551616 := by
  cases d with
  | zero => exact hh
  | succ d => exact lcg_lt _
theorem lcgN_succ (d h : Nat) : lcgN (d + 1) h = lcg (lcgN d h) := rfl
theorem geo_succ (d : Nat) : geo (d + 1) = lcgA * geo d + 1 := rfl
theorem lin_mod (a c x y M : Nat) (hx : x = y % M) : (x * a + c) % M = (y * a + c) % M := by
  subst hx
  rw [Nat.add_mod, Nat.mul_mod, Nat.mod_mod, ← Nat.mul_mod, ← Nat.add_mod]
theorem lcgN_eq (d h : Nat) (hh : h < 18446744073709551616) : lcgN d h = (lcgA ^ d * h + lcgC * geo d) % 18446744073709551616 := by
  induction d with
  | zero => simp [lcgN, geo, Nat.mod_eq_of_lt hh]
  | succ d ih =>
    rw [lcgN_succ, geo_succ, Nat.pow_succ]
    unfold lcg
    generalize 18446744073709551616 = M at *
    generalize lcgA ^ d = p at *
    generalize geo d = g at *
    generalize lcgA = a at *
    generalize lcgC = c at *
    rw [lin_mod a c _ _ M ih]
    congr 1
    rw [Nat.mul_add, Nat.mul_one, Nat.add_mul, Nat.mul_right_comm, Nat.mul_assoc c, Nat.mul_comm g a]
    omega
theorem lcgN_add (d e h : Nat) : lcgN (d + e) h = lcgN d (lcgN e h) := by
  induction d with
  | zero => simp [lcgN]
  | succ d ih => rw [show d + 1 + e = (d + e) + 1 by omega]; show lcg (lcgN (d + e) h) = lcg (lcgN d (lcgN e h)); rw [ih]
theorem lcgN_back {d h : Nat} (hh : h < 18446744073709551616) (e : lcgN d h = h) : 18446744073709551616 ∣ d := by
  rw [lcgN_eq d h hh, ← geo_pow d] at e
  have h1 : ((lcgA - 1) * geo d + 1) * h + lcgC * geo d = geo d * ((lcgA - 1) * h + lcgC) + h := by
    rw [Nat.add_mul, Nat.one_mul, Nat.mul_add, Nat.mul_comm lcgC, Nat.mul_comm (lcgA - 1) (geo d), Nat.mul_assoc]
    omega
  rw [h1] at e
  have hd : 18446744073709551616 ∣ geo d * ((lcgA - 1) * h + lcgC) := by
    generalize geo d * ((lcgA - 1) * h + lcgC) = t at *
    have := Nat.div_add_mod (t + h) 18446744073709551616
    rw [e] at this
    exact ⟨(t + h) / 18446744073709551616, by omega⟩
  have ho : ((lcgA - 1) * h + lcgC) % 2 = 1 := by
    rw [Nat.add_mod, Nat.mul_mod, show (lcgA - 1) % 2 = 0 from rfl, show lcgC % 2 = 1 from rfl]
    simp
  have := geo_dvd 64 d (by exact dvd_odd 64 _ _ ho (by exact hd))
  exact this
/-- of two times less than 2^64 steps apart -/
theorem lcgN_inj {h a b : Nat} (hh : h < 18446744073709551616) (hab : a < b) (hb : b - a < 18446744073709551616) : lcgN a h ≠ lcgN b h := by
  intro e
  have e2 : lcgN (b - a) (lcgN a h) = lcgN a h := by rw [← lcgN_add, Nat.sub_add_cancel (by omega)]; exact e.symm
  obtain ⟨t, ht⟩ := lcgN_back (lcgN_lt hh a) e2
  rcases t with _ | t
  · omega
  · have : 18446744073709551616 ≤ 18446744073709551616 * (t + 1) := Nat.le_mul_of_pos_right _ (by omega)
    omega
theorem lcg_mod2 (h : Nat) : lcg h % 2 = (h + 1) % 2 := by
  unfold lcg
  have h1 : (h * lcgA + lcgC) % 18446744073709551616 % 2 = (h * lcgA + lcgC) % 2 := Nat.mod_mod_of_dvd _ (by decide)
  rw [h1, Nat.add_mod, Nat.mul_mod, show lcgA % 2 = 1 from rfl, show lcgC % 2 = 1 from rfl]
  omega
theorem lcgN_mod2 (d h : Nat) : lcgN d h % 2 = (h + d) % 2 := by
  induction d with
  | zero => rfl
  | succ d ih => show lcg (lcgN d h) % 2 = _; rw [lcg_mod2]; omega
/-- what a state hands out -/
def lcgX (h : Nat) : Nat := h / 8589934592 % 16777216
/-- a number of its own for each state with a parity that hands out a multiple of three -/
def lcgCode (h : Nat) : Nat := lcgX h / 3 * 549755813888 + (h / 8589934592 / 16777216 * 4294967296 + h % 8589934592 / 2)
theorem lcgCode_lt {h : Nat} (hh : h < 18446744073709551616) : lcgCode h < 5592406 * 549755813888 := by unfold lcgCode lcgX; omega
theorem lcgCode_inj {h g : Nat} (hh : h < 18446744073709551616) (hg : g < 18446744073709551616) (hp : h % 2 = g % 2) (h3 : lcgX h % 3 = 0) (g3 : lcgX g % 3 = 0) (e : lcgCode h = lcgCode g) : h = g := by
  unfold lcgCode lcgX at *
  omega
theorem nodup_lt : ∀ (N : Nat) {l : List Nat}, l.Nodup → (∀ x ∈ l, x < N) → l.length ≤ N := by
  intro N
  induction N with
  | zero =>
    intro l _ h
    cases l with
    | nil => simp
    | cons a l => have := h a (by simp); omega
  | succ N ih =>
    intro l hn h
    by_cases hm : N ∈ l
    · have h1 := ih (hn.erase N) (fun x hx => by
        have h2 := (hn.mem_erase_iff).1 hx
        have := h x h2.2
        have := h2.1
        omega)
      rw [List.length_erase_of_mem hm] at h1
      omega
    · have := ih hn (fun x hx => by
        have h1 := h x hx
        have h2 : x ≠ N := fun e => hm (e ▸ hx)
        omega)
      omega
end Go.Proofs.YtcjnhiglfkcmiaaDoor
/- Drw -/
namespace Go.Proofs.YtcjnhiglfkcmiaaDoor
open Go.RowKit
set_option linter.unusedVariables false
set_option maxRecDepth 100000

/-- The source at block g: the code (a slice of bytes below lo), how many of its bytes are used, the state. -/
structure Src (w : World) (lo g : Nat) (T : TypeId) (A : Option Addr) (n c : Nat) (bs : List Int) (i h : Nat) : Prop where
  blk : w.heap[g]? = some (.cells #[.slice A n c, .int .i64 i, .int .u64 h] T (0, 0))
  above : lo ≤ g
  code : Rd w 0 lo A n (bs.map (Value.int .u8))
  byte : ∀ x ∈ bs, 0 ≤ x ∧ x < 256
  le : i ≤ n
  st : h < 18446744073709551616

section
variable {w w' : World} {lo g : Nat} {T : TypeId} {A : Option Addr} {n c : Nat} {bs : List Int} {i h : Nat}
theorem Src.cell0 (s : Src w lo g T A n c bs i h) : w.cell? ⟨g, 0, none⟩ = some (.slice A n c) := by simp [World.cell?, s.blk]
theorem Src.cell1 (s : Src w lo g T A n c bs i h) : w.cell? ⟨g, 1, none⟩ = some (.int .i64 i) := by simp [World.cell?, s.blk]
theorem Src.cell2 (s : Src w lo g T A n c bs i h) : w.cell? ⟨g, 2, none⟩ = some (.int .u64 h) := by simp [World.cell?, s.blk]
theorem Src.frozen (s : Src w lo g T A n c bs i h) (k : Nat) : w.frozen? ⟨g, k, none⟩ = false := by simp [World.frozen?, s.blk]
theorem Src.lt (s : Src w lo g T A n c bs i h) : g < w.heap.size := (Array.getElem?_eq_some_iff.1 s.blk).1
theorem Src.below {B : Nat} (s : Src w lo g T A n c bs i h) (hb : Below B w w') (hB : g < B) : Src w' lo g T A n c bs i h :=
  ⟨(hb.block g hB).trans s.blk, s.above, s.code.below hb (by have := s.above; omega), s.byte, s.le, s.st⟩
theorem Src.setH (s : Src w lo g T A n c bs i h) {H : Nat} (hH : H < 18446744073709551616) : Src (w.setCell ⟨g, 2, none⟩ (.int .u64 H)) lo g T A n c bs i H := by
  refine ⟨?_, s.above, s.code.keep fun k _ hk => Below.heap_setCell _ _ _ _ (by have := s.above; simp; omega), s.byte, s.le, hH⟩
  exact heap_setCell_same _ _ _ _ _ _ s.blk
theorem Src.setI (s : Src w lo g T A n c bs i h) {I : Nat} (hI : I ≤ n) : Src (w.setCell ⟨g, 1, none⟩ (.int .i64 I)) lo g T A n c bs I h := by
  refine ⟨?_, s.above, s.code.keep fun k _ hk => Below.heap_setCell _ _ _ _ (by have := s.above; simp; omega), s.byte, hI, s.st⟩
  exact heap_setCell_same _ _ _ _ _ _ s.blk
theorem Src.byteAt (s : Src w lo g T A n c bs i h) (hi : i < n) : ∃ b o y, A = some ⟨b, o, none⟩ ∧ b < lo ∧ w.cell? ⟨b, o + i, none⟩ = some (.int .u8 y) ∧ 0 ≤ y ∧ y < 256 := by
  obtain ⟨b, o, v, e, _, h2, hv, hc⟩ := s.code.at_ hi
  simp only [List.getElem?_map, Option.map_eq_some_iff] at hv
  obtain ⟨y, hy, rfl⟩ := hv
  have := s.byte y (List.mem_of_getElem? hy)
  exact ⟨b, o, y, e, h2, hc, this.1, this.2⟩
theorem lcg_wrap (h : Nat) (u : Nat) (hu : (h * 6364136223846793005) % 18446744073709551616 = u) :
    IntKind.u64.wrap ((h : Int) * 6364136223846793005) = (u : Int) ∧ IntKind.u64.wrap ((u : Int) + 1442695040888963407) = ((lcg h : Nat) : Int) := by
  rw [IntKind.wrap_u64, IntKind.wrap_u64]
  unfold lcg lcgA lcgC
  exact ⟨by omega, by omega⟩
theorem lcg_bits (H : Nat) (hH : H < 18446744073709551616) : bits BinOp.and IntKind.u64 ((H : Int) / 8589934592) 16777215 = ((H / 8589934592 % 16777216 : Nat) : Int) := by
  have e := bits_and_u64_nat (H / 8589934592) 16777215 (by omega) (by omega)
  rw [show ((H : Int) / 8589934592) = ((H / 8589934592 : Nat) : Int) by simp]
  refine e.trans ?_
  rw [show (16777215 : Nat) = 2 ^ 24 - 1 by rfl, Nat.and_two_pow_sub_one_eq_mod]
theorem Src.drewN (s : Src w lo g T A n c bs i h) (k : Nat) : Src (w.drewN k) lo g T A n c bs i h := ⟨s.blk, s.above, s.code, s.byte, s.le, s.st⟩
theorem Chg.drewN {lo hi : Nat} {a w : World} (h : Chg lo hi a w) (k : Nat) : Chg lo hi a (w.drewN k) := ⟨h.os, h.tape, h.output, h.size, h.block⟩
/-- what l01Next leaves: a number below x, the source with its next state -/
structure NextP (w w' : World) (lo g : Nat) (T : TypeId) (A : Option Addr) (n c : Nat) (bs : List Int) (i H q : Nat) (x v : Int) (i' : Nat) : Prop where
  ge : 0 ≤ v
  lt : v < x
  src : Src w' lo g T A n c bs i' H
  chg : Chg g (g + 1) w w'
  size : w'.heap.size = w.heap.size
  step : i < n → i' = i + 1
  done : ¬ i < n → i' = i ∧ v = (q : Int) % x
end
theorem next_core (w : World) (lo g : Nat) (A : Option Addr) (n c : Nat) (bs : List Int) (i h H u q : Nat) (s : Src w lo g 97 A n c bs i h) (x : Int) (h1 : 1 ≤ x) (hx : x ≤ 1099511627776)
    (e1 : IntKind.u64.wrap ((h : Int) * 6364136223846793005) = (u : Int)) (e2 : IntKind.u64.wrap ((u : Int) + 1442695040888963407) = (H : Int)) (e3 : bits BinOp.and IntKind.u64 ((H : Int) / 8589934592) 16777215 = (q : Int)) (hH : H < 18446744073709551616) (hq2 : q < 16777216) :
    Calls Tryd.prog 47 #[.pointer (some ⟨g, 0, none⟩), .int .i64 x] w fun e w' => ∃ (v : Int) (i' : Nat), e = .returned (.int .i64 v) ∧ NextP w w' lo g 97 A n c bs i H q x v i' := by
  have hst := s.st
  have c2 := s.cell2
  have f2 := s.frozen 2
  have s1 := s.setH hH
  have d0 := s1.cell0
  have d1 := s1.cell1
  have d2 := s1.cell2
  have g1 := s1.frozen 1
  have hn := s.code.2.1
  have hin := s.le
  have hB1 : Chg g (g + 1) w (w.setCell ⟨g, 2, none⟩ (.int .u64 H)) := (Chg.refl _ _ _).setCell (by simp) (by simp) _
  by_cases hlt : i < n
  · obtain ⟨b, o, y, rfl, hb, hy, y0, y1⟩ := s1.byteAt hlt
    have hd : decide ((i : Int) < (n : Int)) = true := by simp; omega
    have k1 : (0 : Int) ≤ (i : Int) := by omega
    have k2 : (i : Int) < (n : Int) := by omega
    go_enter Tryd.func47, Tryd.ntmps47
    go_wp2_with fail
    go_quiet (fail)
    go_wp2_with fail
    go_quiet (fail)
    go_wp2_with fail
    go_ret
    refine ⟨((q : Int) + y) % x, i + 1, rfl, ?_⟩
    constructor
    · exact Int.emod_nonneg _ (by omega)
    · exact Int.emod_lt_of_pos _ (by omega)
    · exact (s1.drewN _).setI (I := i + 1) hlt
    · exact (hB1.drewN _).setCell (by simp) (by simp) _
    · simp
    · exact fun _ => rfl
    · exact fun hh => absurd hlt hh
  · have hd : decide ((i : Int) < (n : Int)) = false := by simp; omega
    go_enter Tryd.func47, Tryd.ntmps47
    go_wp2_with fail
    go_quiet (fail)
    go_wp2_with fail
    go_ret
    refine ⟨(q : Int) % x, i, rfl, ?_⟩
    constructor
    · exact Int.emod_nonneg _ (by omega)
    · exact Int.emod_lt_of_pos _ (by omega)
    · exact s1.drewN _
    · exact hB1.drewN _
    · simp
    · exact fun hh => absurd hh hlt
    · exact fun _ => ⟨rfl, rfl⟩
theorem next_any (w : World) (lo g : Nat) (A : Option Addr) (n c : Nat) (bs : List Int) (i h : Nat) (s : Src w lo g 97 A n c bs i h) (x : Int) (h1 : 1 ≤ x) (hx : x ≤ 1099511627776) :
    Calls Tryd.prog 47 #[.pointer (some ⟨g, 0, none⟩), .int .i64 x] w fun e w' => ∃ (v : Int) (i' : Nat), e = .returned (.int .i64 v) ∧ NextP w w' lo g 97 A n c bs i (lcg h) (lcg h / 8589934592 % 16777216) x v i' := by
  obtain ⟨u, hu⟩ : ∃ u, (h * 6364136223846793005) % 18446744073709551616 = u := ⟨_, rfl⟩
  obtain ⟨e1, e2⟩ := lcg_wrap h u hu
  have hH : lcg h < 18446744073709551616 := by unfold lcg; omega
  exact next_core w lo g A n c bs i h (lcg h) u _ s x h1 hx e1 e2 (lcg_bits (lcg h) hH) hH (by omega)
/-- below 1: it returns 0 and the source stays -/
theorem next_zero (w : World) (g : Nat) (x : Int) (hx : x < 1) :
    Calls Tryd.prog 47 #[.pointer (some ⟨g, 0, none⟩), .int .i64 x] w fun e w' => e = .returned (.int .i64 0) ∧ w = w' := by
  go_enter Tryd.func47, Tryd.ntmps47
  go_wp2_with fail
  go_ret
  exact ⟨rfl, rfl⟩
end Go.Proofs.YtcjnhiglfkcmiaaDoor
/- DrwF -/
namespace Go.Proofs.YtcjnhiglfkcmiaaDoor
open Go.RowKit
set_option linter.unusedVariables false
set_option maxRecDepth 100000
theorem u64_nat (z : Int) : ∃ H : Nat, H < 18446744073709551616 ∧ IntKind.u64.wrap z = (H : Int) := by
  rw [IntKind.wrap_u64]
  exact ⟨(z % 18446744073709551616).toNat, by omega, by omega⟩
theorem heap_newest (w : World) (o : Obj) : (w.alloc o).heap[w.heap.size]? = some o := by unfold World.alloc; exact Array.getElem?_push_size
theorem Src.drew {w : World} {lo g : Nat} {T : TypeId} {A : Option Addr} {n c : Nat} {bs : List Int} {i h : Nat} (s : Src w lo g T A n c bs i h) : Src w.drew lo g T A n c bs i h := ⟨s.blk, s.above, s.code, s.byte, s.le, s.st⟩
theorem from_any (w : World) (A : Option Addr) (n c : Nat) (bs : List Int) (h : Rd w 0 w.heap.size A n (bs.map (Value.int .u8))) (hb : ∀ x ∈ bs, 0 ≤ x ∧ x < 256) (hn : n ≤ 1048576) :
    Calls Tryd.prog 46 #[.slice A n c] w fun e w' => ∃ H : Nat, e = .returned (.pointer (some ⟨w.heap.size, 0, none⟩)) ∧ Src w' w.heap.size w.heap.size 97 A n c bs 0 H ∧ Below w.heap.size w w' := by
  have hsrc : Src (w.alloc (.cells #[.slice A n c, .int .i64 0, .int .u64 ((8191 + n : Nat) : Int)] 97)) w.heap.size w.heap.size 97 A n c bs 0 (8191 + n) :=
    ⟨heap_newest w _, Nat.le_refl _, h.below ((Below.refl _ _).alloc (Nat.le_refl _) _) (Nat.le_refl _), hb, Nat.zero_le _, by omega⟩
  have e0 : IntKind.u64.wrap (8191 + (n : Int)) = ((8191 + n : Nat) : Int) := by rw [IntKind.wrap_u64]; omega
  replace hsrc := Lib.hid hsrc
  replace hb := Lib.hid hb
  go_enter Tryd.func46, Tryd.ntmps46
  go_wp2_with fail
  go_loopw [4] (fun iv wr => ∃ (k H : Nat), iv = .int .i64 k ∧ k ≤ n ∧ Hid (Src wr w.heap.size w.heap.size 97 A n c bs 0 H) ∧ Below w.heap.size w wr) (fun iv _ => n - (intOf iv).toNat)
  case atStart => exact ⟨0, 8191 + n, rfl, Nat.zero_le _, hsrc, (Below.refl _ _).alloc (Nat.le_refl _) _⟩
  case round =>
    obtain ⟨k, H, rfl, hk, hS, hB⟩ := hrel
    by_cases hlt : k < n
    · by_cases h4 : k < 4096
      · have S := hS.out
        have c2 := S.cell2
        have f2 := S.frozen 2
        obtain ⟨b, o, v, rfl, _, hb2, hv, hc⟩ := S.code.at_ hlt
        simp only [List.getElem?_map, Option.map_eq_some_iff] at hv
        obtain ⟨y, hy, rfl⟩ := hv
        obtain ⟨y0, y1⟩ := S.byte y (List.mem_of_getElem? hy)
        obtain ⟨H1, g1, e1⟩ := u64_nat ((H : Int) * 1099511628211)
        obtain ⟨H2, g2, e2⟩ := u64_nat ((H1 : Int) + y)
        obtain ⟨H3, g3, e3⟩ := u64_nat ((H2 : Int) + 11)
        have S3 := Lib.hid (S.setH g3)
        have k1 : (0 : Int) ≤ (k : Int) := by omega
        have k2 : (k : Int) < (n : Int) := by omega
        clear hy S
        go_wp2_with fail
        go_region
        go_wp2_with fail
        go_roundw
        case rel =>
          have hB2 := hB.setCell (p := ⟨w.heap.size, 2, none⟩) (Nat.le_refl _) (.int .u64 H3)
          exact ⟨k + 1, H3, by go_num, by omega, Lib.hid S3.out.drew, ⟨hB2.os, hB2.tape, hB2.output, hB2.size, hB2.block⟩⟩
        case measure => simp [intOf]; omega
      · go_wp2_with fail
        go_ret
        exact ⟨H, rfl, hS.out, hB⟩
    · go_wp2_with fail
      go_ret
      exact ⟨H, rfl, hS.out, hB⟩
end Go.Proofs.YtcjnhiglfkcmiaaDoor
