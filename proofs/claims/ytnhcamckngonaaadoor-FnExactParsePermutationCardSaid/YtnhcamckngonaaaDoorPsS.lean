/- ParsePermutation, the reference's walk and the program's exported one. No condition but the sizes of memory, strconv's table and errors, a cell of bytealg that holds a number. -/
import Derived.Test.YtnhcamckngonaaaDoorPsx
import Derived.Test.YtnhcamckngonaaaDoorPmS
namespace Go.Proofs.YtnhcamckngonaaaDoor
open Go.RowKit
set_option linter.unusedVariables false
set_option maxRecDepth 100000
/-- the reference's parts -/
def RsOk (n : Nat) (L : List UInt8) (Rs : List (List UInt8)) : Prop := ∀ q, PT n L q → (cyc2 q = [] ∧ L = [40, 41]) ∨ (cyc2 q ≠ [] ∧ L ≠ [40, 41] ∧ Rs = ((cyc2 q).map fun c => 40 :: numsB 32 c) ++ [[]])
theorem rs_ok (n : Nat) (L : List UInt8) : RsOk n L (spl 41 L) := fun q hq => hq.outer
theorem RsOk.at_ {n : Nat} {L : List UInt8} {Rs : List (List UInt8)} (h : RsOk n L Rs) {k : Nat} {P : List UInt8} (hP : Rs[k]? = some P) (hk : k + 1 < Rs.length) (hL : L ≠ [40, 41]) : ∀ q, PT n L q → ∃ c, (cyc2 q)[k]? = some c ∧ P = 40 :: numsB 32 c := by
  intro q hq
  rcases h q hq with ⟨_, h2⟩ | ⟨_, _, h2⟩
  · exact absurd h2 hL
  · have hl : k < (cyc2 q).length := by rw [h2] at hk; simp at hk; exact hk
    rw [h2, List.getElem?_append_left (by simpa using hl), List.getElem?_map, List.getElem?_eq_getElem hl] at hP
    simp at hP
    exact ⟨_, List.getElem?_eq_getElem hl, hP.symm⟩
theorem RsOk.fin {n : Nat} {L : List UInt8} {Rs : List (List UInt8)} (h : RsOk n L Rs) {k : Nat} {g : List Int} (hg : GotI n L k g) (hk : Rs.length ≤ k + 1 ∨ L = [40, 41]) : GotF n L g := hg.fin fun q hq => by
  rcases h q hq with ⟨h1, _⟩ | ⟨_, h1, h2⟩
  · rw [h1]; simp
  · rcases hk with hk | hk
    · rw [h2] at hk; simp at hk; exact hk
    · exact absurd hk h1
theorem RowI.snocV {n : Nat} {L : List UInt8} {k j : Nat} {Qs : List (List UInt8)} {ys : List Int} (h : RowI n L k Qs j ys) {u : List UInt8} (hu : Qs[j]? = some u) (h0 : 0 ≤ valB u) (h1 : valB u < (n : Int)) : RowI n L k Qs (j + 1) (ys ++ [valB u]) :=
  h.snoc hu h0 h1 (fun y y0 y1 e => by rw [← e]; exact valB_back y0 y1)
theorem RowI.badV {n : Nat} {L : List UInt8} {k j : Nat} {Qs : List (List UInt8)} {ys : List Int} (h : RowI n L k Qs j ys) {u : List UInt8} (hu : Qs[j]? = some u) (hx : ¬ (0 ≤ valB u ∧ valB u < (n : Int))) : ¬ ∃ q, PT n L q :=
  h.bad hu (fun y y0 y1 y2 e => hx (by rw [← e, valB_back y0 y2]; exact ⟨y0, y1⟩))
theorem psf_in {n : Nat} (hn : n ≤ 400) (L : List UInt8) : psF (n : Int) L = psG n L := by
  unfold psF
  rw [if_pos (by unfold inR; simp; omega), Int.toNat_natCast]
theorem psf_out {x : Int} (h : (decide (0 ≤ x) && decide (x ≤ 400)) = false) (L : List UInt8) : psF x L = ([], 2) := by
  unfold psF inR
  rw [h]; rfl
theorem dec400 {x : Int} (h : (decide (0 ≤ x) && decide (x ≤ 400)) = true) : ∃ n : Nat, x = n ∧ n ≤ 400 := by
  simp at h
  exact ⟨x.toNat, by omega, by omega⟩
set_option maxHeartbeats 4000000 in
theorem l01Unit_any (n : Nat) (hn : n ≤ 1048576) (w : World) :
    Calls Tryd.prog 35 #[.int .i64 n] w fun e w' => ∃ (A1 : Option Addr) (c1 : Nat), e = .returned (.slice A1 n c1) ∧ Own w' w.heap.size w'.heap.size 2 A1 n c1 ((idL n).map (Value.int .i64)) ∧ Below w.heap.size w w' := by
  obtain ⟨j0, hj0, hy0, hy1, hy2⟩ := info_parts infoI
  have o0 := own_lit0s w 2
  have B0 := (Below.refl w.heap.size w).alloc (Nat.le_refl _) (.cells #[] 2)
  go_enter Tryd.func35, Tryd.ntmps35
  go_wp2_with fail
  obtain ⟨W1, hW⟩ : ∃ W1 : World, w.alloc (.cells #[] 2) = W1 := ⟨_, rfl⟩
  rw [hW] at o0 B0 ⊢
  clear hW
  go_loopw [4, 3] (fun kv sv wq => ∃ (k : Nat) (A1 : Option Addr) (c1 : Nat), k ≤ n ∧ kv = .int .i64 k ∧ sv = .slice A1 k c1 ∧ Own wq w.heap.size wq.heap.size 2 A1 k c1 ((idL k).map (Value.int .i64)) ∧ Below w.heap.size w wq) (fun kv _ _ => n - (intOf kv).toNat)
  case atStart => exact ⟨0, _, 0, by omega, rfl, rfl, by simpa [idL] using o0, B0⟩
  case round =>
    clear o0 B0
    obtain ⟨k, A1, c1, hk, rfl, rfl, ho, hB⟩ := hrel
    have yB := hB.size
    by_cases hlt : k < n
    · go_wp2_with (at_builtin; refine wpList_append1 wr rfl (.tmp 11) (.tmp 13) 24 rfl w.heap.size 2 j0 (.int .i64 0) 8 Tryd.underlying24 hj0 hy0 hy1 hy2 rfl (by omega) A1 k c1 _ (.int .i64 k) rfl ho.1 _ rfl rfl rfl (by omega) (by omega) ?_)
      intro g4 c4 w6 ho6 hg6 hlo6 hlt6 hor6
      have hb6 := hB.grown hg6 (by omega) (fun q hq => by have := (ho.1.lt q hq).1; omega)
      have hid : idL (k + 1) = idL k ++ [(k : Int)] := by unfold idL; rw [List.range_succ, List.map_append]; rfl
      have ho7 : Own w6 w.heap.size w6.heap.size 2 (some ⟨g4, 0, none⟩) (k + 1) c4 ((idL (k + 1)).map (Value.int .i64)) := by rw [hid]; simpa using Own.of_row ho6
      clear ho hg6 ho6 hid
      go_wp2_with fail
      go_roundw
      case measure => simp [intOf]; omega
      case rel => exact ⟨k + 1, _, c4, by omega, by go_num, rfl, ho7, hb6⟩
    · obtain rfl : k = n := by omega
      go_wp2_with fail
      go_ret
      exact ⟨A1, c1, rfl, ho, hB⟩
theorem l01SplitC (b : UInt8) (z : Int) (hz : (b.toNat : Int) = z) (L : List UInt8) (hL : L.length ≤ 1048577) (w : World) :
    Calls Tryd.prog 36 #[.string (strB L), .int .u8 z] w fun e w' => ∃ (A1 : Option Addr) (c1 : Nat), e = .returned (.slice A1 (spl b L).length c1) ∧ Rd w' w.heap.size w'.heap.size A1 (spl b L).length ((spl b L).map fun p => .string (strB p)) ∧ Below w.heap.size w w' := by
  rw [← hz]; exact l01Split_any b L hL w
set_option maxHeartbeats 8000000 in
theorem i_ParsePermutation_any (x : Int) (hx : -9223372036854775808 ≤ x ∧ x ≤ 9223372036854775807) (L : List UInt8) (hL : L.length ≤ 1048576) (w : World) {B : Nat} (hT : T10 B w) (hE : EV B w) (hM : MX B w) (hB : B ≤ w.heap.size) :
    Calls Tryd.prog 10 #[.int .i64 x, .string (strB L)] w fun e w' => ∃ (A1 : Option Addr) (n1 c1 : Nat) (zs : List Int) (code : Int), e = .returned (.tuple #[.slice A1 n1 c1, .int .i64 code]) ∧ Hid ((zs, code) = psF x L) ∧ Own w' w.heap.size w'.heap.size 2 A1 n1 c1 (zs.map (Value.int .i64)) ∧ n1 ≤ 1048576 ∧ Below w.heap.size w w' := by
  have hW := within_any x 0 400 w
  cases hin : (decide (0 ≤ x) && decide (x ≤ 400)) with
  | false =>
    have hF : (([] : List Int), (2 : Int)) = psF x L := (psf_out hin L).symm
    rw [hin] at hW
    replace hF := Lib.hid hF
    clear hin
    go_enter Tryd.func10, Tryd.ntmps10
    go_wp2_with fail
    ((with_reducible refine hW.mono ?_); rintro e w' ⟨rfl, rfl⟩)
    go_wp2_with fail
    go_ret2
    exact ⟨_, 0, _, [], 2, rfl, hF, Own.nil, by omega, Below.refl _ _⟩
  | true =>
    obtain ⟨n, rfl, hn⟩ := dec400 hin
    rw [hin] at hW
    have hP := fun V (hV : Below w.heap.size w V) => parsePermutation_any n hn L hL V (hT.on (hV.mono hB)) (hE.on (hV.mono hB)) (hM.on (hV.mono hB)) (by have := hV.size; omega)
    have hP1 := hP w (Below.refl _ _)
    clear hin hP
    rw [psf_in hn]
    go_enter Tryd.func10, Tryd.ntmps10
    go_wp2_with fail
    ((with_reducible refine hW.mono ?_); rintro e w ⟨rfl, rfl⟩)
    go_wp2_with fail
    ((with_reducible refine hP1.mono ?_); rintro e w2 ⟨A1, n1, c1, zs, ok, rfl, hr, o2, hn4, f2⟩)
    clear hP1
    cases ok with
    | true =>
      have hF : (zs, (0 : Int)) = psG n L := by have := hr.out; unfold PsR at this; rw [if_pos rfl] at this; exact this.symm
      replace hF := Lib.hid hF
      clear hr
      go_wp2_with fail
      go_ret2
      exact ⟨A1, n1, c1, zs, 0, rfl, hF, o2, by omega, f2⟩
    | false =>
      have hF : (([] : List Int), (6 : Int)) = psG n L := by have := hr.out; unfold PsR at this; rw [if_neg (by decide)] at this; exact this.symm
      replace hF := Lib.hid hF
      clear hr
      go_wp2_with fail
      go_ret2
      exact ⟨_, 0, _, [], 6, rfl, hF, Own.nil, by omega, f2⟩
end Go.Proofs.YtnhcamckngonaaaDoor
