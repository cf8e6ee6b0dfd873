/- The text of a maniplex, the program's and the reference's. No condition but the sizes of memory, strconv's table of powers of ten and a cell of bytealg that holds a number. -/
import Derived.Test.YtbioelmofceaaaaDoorMtxP
import Derived.Test.YtbioelmofceaaaaDoorTxt
import Derived.Test.YtbioelmofceaaaaDoorShr
import Derived.Test.YtbioelmofceaaaaDoorManX
import Derived.Lib.SplitLaws
namespace Go.Proofs.YtbioelmofceaaaaDoor
open Go.RowKit
set_option linter.unusedVariables false
set_option maxRecDepth 100000
/-- bytealg's variable holds a number, in every world behind w that is as w below B -/
def MX (B : Nat) (w : World) : Prop := ∃ m, ∀ w', Below B w w' → w'.cell? ⟨0, 0, none⟩ = some (.int .i64 m)
theorem MX.on {B : Nat} {w w1 : World} (h : MX B w) (hb : Below B w w1) : MX B w1 := by
  obtain ⟨m, h⟩ := h
  exact ⟨m, fun w' h' => h w' (hb.trans h')⟩
theorem commas_any (xs : List Int) (hs : ∀ x ∈ xs, SmallI x) (hl : xs.length ≤ 1048576) (w : World) {B : Nat} (hM : MX B w) :
    Calls Tryd.prog 88 #[.string (strB (numsB 32 xs)), .string ⟨#[32]⟩, .string ⟨#[44]⟩] w fun e w' => e = .returned (.string (strB (numsB 44 xs))) ∧ Below w.heap.size w w' := by
  obtain ⟨m, hm⟩ := hM
  have hle := numsB_len 32 xs hs
  have hcn := Lib.countB_le (⟨#[32]⟩ : ByteArray) (by decide) (strB (numsB 32 xs)).size (strB (numsB 32 xs)) (Nat.le_refl _)
  have hsz := strB_size (numsB 32 xs)
  have h := strings_ReplaceAll (strB (numsB 32 xs)) ⟨#[32]⟩ ⟨#[44]⟩ m w (by omega) (hm w (Below.refl _ _)) (by decide) (by
    show (strB (numsB 32 xs)).size + Lib.countB (strB (numsB 32 xs)) ⟨#[32]⟩ * 1 ≤ 140737488355328
    omega)
  refine h.mono fun e w' ⟨he, hb⟩ => ⟨?_, hb⟩
  rw [he, strB_data]
  show Ending.returned (.string (strB (Lib.replaceAll (numsB 32 xs) [32] [44]))) = _
  rw [replaceAll_map (by decide), nums_swap 32 44 (by decide) xs hs]
set_option maxHeartbeats 4000000 in
theorem maniplexText_any (A : Option Addr) (n c : Nat) (xss : List (List Int)) (w : World) {lo hi : Nat} (h : RS w lo hi A n xss) (hhi : hi ≤ w.heap.size) (hn : n ≤ 20) (hs : ∀ xs ∈ xss, xs.length ≤ 400 ∧ ∀ x ∈ xs, SmallI x) {B : Nat} (hT : T10 B w) (hM : MX B w) (hB : B ≤ w.heap.size) :
    Calls Tryd.prog 53 #[.agg #[.slice A n c]] w fun e w' => e = .returned (.string (strB (txtB xss))) ∧ Below w.heap.size w w' := by
  obtain ⟨j0, hj0, hy0, hy1, hy2⟩ := info_parts infoT
  have hl := h.len
  have hle := txtB_len 400 xss hs
  have hR := rs_alloc h hhi (.cells #[.slice A n c] 44)
  have hC : (w.alloc (.cells #[.slice A n c] 44)).cell? ⟨w.heap.size, 0, none⟩ = some (.slice A n c) := al_new _ _ _ _ rfl
  have hB0 : Below w.heap.size w (w.alloc (.cells #[.slice A n c] 44)) := (Below.refl _ _).alloc (Nat.le_refl _) _
  have hT1 := hT.on (hB0.mono hB)
  have hM1 := hM.on (hB0.mono hB)
  replace hs := Lib.hid hs
  replace hl := Lib.hid hl
  clear hT hM
  go_enter Tryd.func53, Tryd.ntmps53
  go_wp2_with fail
  obtain ⟨W1, hW⟩ : ∃ W1 : World, w.alloc (.cells #[.slice A n c] 44) = W1 := ⟨_, rfl⟩
  have hz1 : w.heap.size < W1.heap.size := by rw [← hW]; simp
  rw [hW] at hR hC hB0 hT1 hM1 ⊢
  clear hW h
  replace hT1 := Lib.hid hT1
  replace hM1 := Lib.hid hM1
  go_loopw [9, 3] (fun kv sv wq => ∃ (k : Nat) (A1 : Option Addr) (c1 : Nat), k ≤ n ∧ kv = .int .i64 k ∧ sv = .slice A1 k c1 ∧ Hid (wq.ownsRow W1.heap.size 9 1 (.slice A1 k c1) k ((xss.take k).map fun x => .string (strB (numsB 44 x)))) ∧ Below W1.heap.size W1 wq) (fun kv _ _ => n - (intOf kv).toNat)
  case atStart => exact ⟨0, none, 0, by omega, rfl, rfl, Lib.hid (by simpa using World.ownsRow_nil W1 W1.heap.size 9 1), Below.refl _ _⟩
  case round =>
    obtain ⟨k, A1, c1, hk, rfl, rfl, hO, hBr⟩ := hrel
    have yr := hBr.size
    by_cases hlt : k < n
    · obtain ⟨b, o, Ak, nk, ck, x, rfl, _, hb, hx, hcx, hRx⟩ := (hR.below hBr (by omega)).at_ hlt
      obtain ⟨hx1, hx2⟩ := hs.out x (List.mem_of_getElem? hx)
      have hxl := hRx.len
      have hTr := hT1.out.on (hBr.mono (by omega))
      have hN := numbersText_any Ak nk ck x wr hRx (by omega) hx2 (by omega) hTr (by omega)
      have hCm := fun V (hV : Below wr.heap.size wr V) => commas_any x hx2 (by omega) V ((hM1.out.on (hBr.mono (by omega))).on (hV.mono (by omega)))
      have htk : xss.take (k + 1) = xss.take k ++ [x] := by rw [List.take_add_one, hx]; rfl
      replace htk := Lib.hid htk
      replace hxl := Lib.hid hxl
      replace hCm := Lib.hid hCm
      clear hx hx1 hx2 hTr
      go_wp2_with fail
      ((with_reducible refine hN.mono ?_); rintro e w1 ⟨rfl, f1⟩)
      clear hN
      have y1 := f1.size
      have hC2 := hCm.out _ f1
      go_wp2_with fail
      ((with_reducible refine hC2.mono ?_); rintro e w2 ⟨rfl, f2⟩)
      clear hC2
      have f3 := f1.trans (f2.mono y1)
      have y3 := f3.size
      have hO1 := ((Own.of_row hO.out).below f3 (Nat.le_refl _)).1
      have hB1 := hBr.trans (f3.mono yr)
      go_wp2_with (at_builtin; refine wpList_append1 w2 rfl (.tmp 13) (.tmp 17) 99 rfl W1.heap.size 9 j0 (.string ByteArray.empty) 16 Tryd.underlying99 hj0 hy0 hy1 hy2 rfl (by omega) _ k c1 _ (.string (strB (numsB 44 x))) rfl hO1 _ rfl rfl rfl (by omega) (by omega) ?_)
      intro g c2 w4 ho2 hg2 hlo2 hlt2 hor2
      have hB2 := hB1.grown hg2 (by omega) (fun q hq => by have := (hO1.lt q hq).1; omega)
      have ho3 : Hid (w4.ownsRow W1.heap.size 9 1 (.slice (some ⟨g, 0, none⟩) (k + 1) c2) (k + 1) ((xss.take (k + 1)).map fun x => .string (strB (numsB 44 x)))) := Lib.hid (by rw [htk.out, List.map_append]; simpa using ho2)
      clear ho2 hg2 hor2 hO1
      go_wp2_with fail
      go_roundw
      case measure => simp [intOf]; omega
      case rel => exact ⟨k + 1, _, c2, by omega, by go_num, rfl, ho3, hB2⟩
    · obtain rfl : k = n := by omega
      have e : xss.take k = xss := List.take_of_length_le (by rw [hl.out]; exact Nat.le_refl _)
      have hO := hO.out
      rw [e] at hO
      have hBe := hB0.trans (hBr.mono (by omega))
      rcases Nat.eq_zero_or_pos k with h0 | h0
      · have hx0 : xss = [] := List.eq_nil_of_length_eq_zero (by rw [hl.out]; exact h0)
        subst h0
        have hJ := strings_Join_none A1 c1 ⟨#[47]⟩ wr
        go_wp2_with fail
        ((with_reducible refine hJ.mono ?_); rintro e w1 ⟨rfl, rfl⟩)
        go_wp2_with fail
        go_ret
        refine ⟨?_, hBe⟩
        rw [hx0]
        rfl
      · obtain ⟨g, cap, e1, lg, zg⟩ := slice_of_own hO h0
        injection e1 with e1 _ e3
        subst e1
        subst e3
        have hrd := (Own.of_row hO).rd
        have hcp := own_cap (Own.of_row hO)
        have hln : (xss.map fun x => strB (numsB 44 x)).length = k := by simpa using hl.out
        have hjd : (xss.map fun x => strB (numsB 44 x)).map (·.data.toList) = xss.map (numsB 44) := by simp
        have hJ := strings_Join g 0 c1 (xss.map fun x => strB (numsB 44 x)) ⟨#[47]⟩ wr (fun j y hj => by
          refine hrd.cell (k := j) (v := .string y) ?_
          rw [List.getElem?_map] at hj ⊢
          rw [Option.map_eq_some_iff] at hj
          obtain ⟨x, hx, rfl⟩ := hj
          rw [hx]; rfl) zg (by omega) (by omega) (by rw [hjd]; show (txtB xss).length ≤ _; have := hl.out; have : xss.length * (22 * 400 + 1) ≤ 20 * (22 * 400 + 1) := Nat.mul_le_mul_right _ (by omega); omega)
        rw [hln, hjd] at hJ
        replace hrd := Lib.hid hrd
        replace hO := Lib.hid hO
        clear hjd hln
        go_wp2_with fail
        ((with_reducible refine hJ.mono ?_); rintro e w1 ⟨rfl, f1⟩)
        have hB1 := hBe.trans (f1.mono (by omega))
        go_wp2_with fail
        go_ret
        exact ⟨rfl, hB1⟩
end Go.Proofs.YtbioelmofceaaaaDoor
