/- Texts of numbers: decimal, numbersText of the program; l01Dec of the reference. No condition but the sizes of memory and strconv's table of powers of ten. -/
import Derived.Test.YtcjnhiglfkcmiaaDoorTxtP
import Derived.Test.YtcjnhiglfkcmiaaDoorShl
import Derived.Test.YtcjnhiglfkcmiaaDoorStep
import Derived.Test.YtcjnhiglfkcmiaaDoorRow
import Derived.Test.YtcjnhiglfkcmiaaDoorCyc
import Derived.Lib.AppendIntMem
namespace Go.Proofs.YtcjnhiglfkcmiaaDoor
open Go.RowKit
set_option linter.unusedVariables false
set_option maxRecDepth 100000
/-- the table of the powers of ten, which every world behind w has that is as w below B -/
abbrev T10 (B : Nat) (w : World) : Prop := Lib.TabBelow Tryd.prog B w "internal/strconv.uint64pow10" .u64 Lib.pow10Tab
theorem below_grow (w : World) (k : Nat) (os : Array Obj) : Below w.heap.size w (Sort.grow (w.drewN k) os) := by
  refine ⟨rfl, rfl, rfl, ?_, fun j hj => ?_⟩
  · show w.heap.size ≤ (w.heap ++ os).size
    rw [Array.size_append]; omega
  · show (w.heap ++ os)[j]? = w.heap[j]?
    rw [Array.getElem?_append_left hj]
theorem own_cap {w : World} {lo hi n c : Nat} {T : TypeId} {A : Option Addr} {vs : List Value} (h : Own w lo hi T A n c vs) : n ≤ c := by
  rcases h.1.2 with ⟨hv, hn⟩ | ⟨g, cap, cur, hv, _, _, hnc, _⟩
  · omega
  · cases hv; exact hnc
theorem infoT : (Tryd.prog.info? 9).map (fun i => (i.zero, i.size, i.bytes)) = some (some (.string ByteArray.empty), 1, 16) := by kernel_rfl
theorem decimal_any (x : Int) (hx : SmallI x) (w : World) {B : Nat} (hT : T10 B w) :
    Calls Tryd.prog 101 #[.int .i64 x] w fun e w' => e = .returned (.string (strB (Lib.itoa x))) ∧ Below w.heap.size w w' := by
  have hF := strconv_FormatInt_10 x (by have := hx.1; omega) hx.2 w hT.here
  go_enter Tryd.func101, Tryd.ntmps101
  go_wp2_with fail
  ((with_reducible refine hF.mono ?_); rintro e w1 ⟨rfl, k, os, rfl⟩)
  go_wp2_with fail
  go_ret
  exact ⟨rfl, below_grow w k os⟩
set_option maxHeartbeats 4000000 in
theorem numbersText_any (A : Option Addr) (n c : Nat) (xs : List Int) (w : World) {lo hi : Nat} (h : RI w lo hi A n xs) (hhi : hi ≤ w.heap.size) (hs : ∀ x ∈ xs, SmallI x) (hn : n ≤ 1048576) {B : Nat} (hT : T10 B w) (hB : B ≤ w.heap.size) :
    Calls Tryd.prog 72 #[.slice A n c] w fun e w' => e = .returned (.string (strB (numsB 32 xs))) ∧ Below w.heap.size w w' := by
  obtain ⟨j0, hj0, hy0, hy1, hy2⟩ := info_parts infoT
  have hl := h.len
  have hle := numsB_len 32 xs hs
  replace hs := Lib.hid hs
  replace hT := Lib.hid hT
  replace hl := Lib.hid hl
  go_enter Tryd.func72, Tryd.ntmps72
  go_wp2_with fail
  go_loopw [8, 3] (fun kv sv wq => ∃ (k : Nat) (A1 : Option Addr) (c1 : Nat), k ≤ n ∧ kv = .int .i64 k ∧ sv = .slice A1 k c1 ∧ Hid (wq.ownsRow w.heap.size 9 1 (.slice A1 k c1) k ((xs.take k).map fun x => .string (strB (Lib.itoa x)))) ∧ Below w.heap.size w wq) (fun kv _ _ => n - (intOf kv).toNat)
  case atStart => exact ⟨0, none, 0, by omega, rfl, rfl, Lib.hid (by simpa using World.ownsRow_nil w w.heap.size 9 1), Below.refl _ _⟩
  case round =>
    obtain ⟨k, A1, c1, hk, rfl, rfl, hO, hBr⟩ := hrel
    have yr := hBr.size
    by_cases hlt : k < n
    · obtain ⟨b, o, x, rfl, _, hb, hx, hcx⟩ := (h.below hBr hhi).at_ hlt
      have hD := decimal_any x (hs.out x (mem_of_get? hx)) wr (hT.out.on (hBr.mono hB))
      have htk : xs.take (k + 1) = xs.take k ++ [x] := by rw [List.take_add_one, hx]; rfl
      replace htk := Lib.hid htk
      clear hx
      go_wp2_with fail
      ((with_reducible refine hD.mono ?_); rintro e w1 ⟨rfl, f1⟩)
      clear hD
      have y1 := f1.size
      have hO1 := ((Own.of_row hO.out).below f1 (Nat.le_refl _)).1
      have hB1 := hBr.trans (f1.mono yr)
      go_wp2_with (at_builtin; refine wpList_append1 w1 rfl (.tmp 12) (.tmp 15) 73 rfl w.heap.size 9 j0 (.string ByteArray.empty) 16 Tryd.underlying73 hj0 hy0 hy1 hy2 rfl (by omega) _ k c1 _ (.string (strB (Lib.itoa x))) rfl hO1 _ rfl rfl rfl (by omega) (by omega) ?_)
      intro g c2 w2 ho2 hg2 hlo2 hlt2 hor2
      have hB2 := hB1.grown hg2 (by omega) (fun q hq => by have := (hO1.lt q hq).1; omega)
      have ho3 : Hid (w2.ownsRow w.heap.size 9 1 (.slice (some ⟨g, 0, none⟩) (k + 1) c2) (k + 1) ((xs.take (k + 1)).map fun x => .string (strB (Lib.itoa x)))) := Lib.hid (by rw [htk.out, List.map_append]; simpa using ho2)
      clear ho2 hg2 hor2 hO1
      go_wp2_with fail
      go_roundw
      case measure => simp [intOf]; omega
      case rel => exact ⟨k + 1, _, c2, by omega, by go_num, rfl, ho3, hB2⟩
    · obtain rfl : k = n := by omega
      have e : xs.take k = xs := List.take_of_length_le (by rw [hl.out]; exact Nat.le_refl _)
      have hO := hO.out
      rw [e] at hO
      rcases Nat.eq_zero_or_pos k with h0 | h0
      · have hx0 : xs = [] := List.eq_nil_of_length_eq_zero (by rw [hl.out]; exact h0)
        subst h0
        have hJ := strings_Join_none A1 c1 ⟨#[32]⟩ wr
        go_wp2_with fail
        ((with_reducible refine hJ.mono ?_); rintro e w1 ⟨rfl, rfl⟩)
        go_wp2_with fail
        go_ret
        refine ⟨?_, hBr⟩
        rw [hx0]
        rfl
      · obtain ⟨g, cap, e1, lg, zg⟩ := slice_of_own hO h0
        injection e1 with e1 _ e3
        subst e1
        subst e3
        have hrd := (Own.of_row hO).rd
        have hcp := own_cap (Own.of_row hO)
        have hln : (xs.map fun x => strB (Lib.itoa x)).length = k := by simpa using hl.out
        have hjd : (xs.map fun x => strB (Lib.itoa x)).map (·.data.toList) = xs.map Lib.itoa := by simp
        have hJ := strings_Join g 0 c1 (xs.map fun x => strB (Lib.itoa x)) ⟨#[32]⟩ wr (fun j y hj => by
          refine hrd.cell (k := j) (v := .string y) ?_
          rw [List.getElem?_map] at hj ⊢
          rw [Option.map_eq_some_iff] at hj
          obtain ⟨x, hx, rfl⟩ := hj
          rw [hx]; rfl) zg (by omega) (by omega) (by rw [hjd]; show (numsB 32 xs).length ≤ _; have := hl.out; omega)
        rw [hln, hjd] at hJ
        replace hrd := Lib.hid hrd
        replace hO := Lib.hid hO
        clear hjd hln
        go_wp2_with fail
        ((with_reducible refine hJ.mono ?_); rintro e w1 ⟨rfl, f1⟩)
        have hB1 := hBr.trans (f1.mono yr)
        go_wp2_with fail
        go_ret
        exact ⟨rfl, hB1⟩
theorem conv_one (W : World) (g : Nat) (z : Int) (h : W.cell? ⟨g, 0, none⟩ = some (.int .u8 z)) : (convert 22 9 (.slice (some ⟨g, 0, none⟩) 1 1)).run Tryd.prog W = .ok (.string (strB [UInt8.ofNat z.toNat])) W := by
  have := run_convert_bytes_arg W 22 5 Tryd.underlying22 Tryd.underlying5 g 0 1 1 [z] rfl (fun i hi => by
    obtain rfl : i = 0 := by omega
    simpa using h) 9 Tryd.underlying9
  rw [this]
  rfl
theorem dec_len (n : Nat) (h : n ≤ 9223372036854775807) : (Lib.decDigits n).length ≤ 21 := by
  have := itoa_len (x := (n : Int)) (by omega) (by omega)
  rwa [itoa_nat] at this
set_option maxHeartbeats 4000000 in
theorem l01Dec_any : ∀ (f n : Nat), n < f → n ≤ 9223372036854775807 → ∀ w, Calls Tryd.prog 74 #[.int .i64 (n : Int)] w fun e w' => e = .returned (.string (strB (Lib.decDigits n))) ∧ Below w.heap.size w w'
  | 0, n, hf, _, w => absurd hf (by omega)
  | f + 1, n, hf, hm, w => by
    have hcv : ∀ (W : World) (z : Int), (convert 22 9 (.slice (some ⟨W.heap.size, 0, none⟩) 1 1)).run Tryd.prog (W.alloc (.cells #[.int .u8 z] 5)) = .ok (.string (strB [UInt8.ofNat z.toNat])) (W.alloc (.cells #[.int .u8 z] 5)) := fun W z => conv_one _ _ _ (al_new _ _ _ _ rfl)
    have hcd : ∀ (W : World) (z : Int), (convert 22 9 (.slice (some ⟨W.heap.size, 0, none⟩) 1 1)).run Tryd.prog (W.alloc (.cells #[.int .u8 z] 5)).drew = .ok (.string (strB [UInt8.ofNat z.toNat])) (W.alloc (.cells #[.int .u8 z] 5)).drew := fun W z => conv_one _ _ _ (al_new _ _ _ _ rfl)
    by_cases h10 : n < 10
    · have d1 : (n : Int) < 10 := by omega
      have hd : Lib.decDigits n = [UInt8.ofNat (48 + n)] := Lib.decDigits_one h10
      rw [hd]
      clear hd
      go_enter Tryd.func74, Tryd.ntmps74
      go_wp2_with fail
      go_ret
      refine ⟨?_, (Below.refl _ _).alloc (Nat.le_refl _) _⟩
      rfl
    · have d1 : ¬ (n : Int) < 10 := by omega
      have hd : Lib.decDigits n = Lib.decDigits (n / 10) ++ [UInt8.ofNat (48 + n % 10)] := by rw [Lib.decDigits, dif_neg h10]
      obtain ⟨q, hq⟩ : ∃ q, n / 10 = q := ⟨_, rfl⟩
      obtain ⟨r, hr⟩ : ∃ r, n % 10 = r := ⟨_, rfl⟩
      rw [hd, hq, hr]
      have q1 : Int.tdiv (n : Int) 10 = (q : Int) := by rw [Int.tdiv_eq_ediv_of_nonneg (by omega)]; omega
      have r1 : Int.tmod (n : Int) 10 = (r : Int) := by rw [Int.tmod_eq_emod_of_nonneg (by omega)]; omega
      have hqn : q ≤ 922337203685477580 := by omega
      have hr10 : r < 10 := by omega
      have ih := l01Dec_any f q (by omega) (by omega)
      have hl := dec_len q (by omega)
      have hwq : IntKind.i64.wrap (q : Int) = (q : Int) := by rw [IntKind.wrap_i64]; omega
      have hwr : IntKind.i64.wrap (r : Int) = (r : Int) := by rw [IntKind.wrap_i64]; omega
      have hws : IntKind.i64.wrap (48 + (r : Int)) = 48 + (r : Int) := by rw [IntKind.wrap_i64]; omega
      have hwu : IntKind.u8.wrap (48 + (r : Int)) = 48 + (r : Int) := by rw [IntKind.wrap_u8]; omega
      have hln : ¬ 9223372036854775807 < (Lib.decDigits q).length + 1 := by omega
      replace ih := Lib.hid ih
      replace hl := Lib.hid hl
      clear hd hq hr h10
      go_enter Tryd.func74, Tryd.ntmps74
      go_wp2_with fail
      go_region_law (first
        | (refine step_call rfl 74 #[.int .i64 (q : Int)] ?hr (ih.out _) ?_
           (case hr => go_simp)
           rintro e5 w5 ⟨rfl, f5⟩
           refine ⟨_, rfl, ?_⟩
           try (have hce := conv_one w5 w.heap.size (48 + (r : Int)) ((f5.cell (p := ⟨w.heap.size, 0, none⟩) (by simp)).trans (al_new _ _ _ _ rfl)))))
      all_goals
        go_wp2_with fail
        go_ret
        refine ⟨?_, ?_⟩
        · rw [← strB_append]; rfl
        · first
          | exact (Below.refl _ _).drew.trans f5
          | exact ((Below.refl _ _).drew.trans f5).alloc (by have := f5.size; simpa using this) _
          | exact ((Below.refl _ _).alloc (Nat.le_refl _) _).drew.trans (f5.mono (by simp))
/-- bytealg's variable holds a number, in every world behind w that is as w below B -/
def MX (B : Nat) (w : World) : Prop := ∃ m, ∀ w', Below B w w' → w'.cell? ⟨0, 0, none⟩ = some (.int .i64 m)
theorem MX.on {B : Nat} {w w1 : World} (h : MX B w) (hb : Below B w w1) : MX B w1 := by
  obtain ⟨m, h⟩ := h
  exact ⟨m, fun w' h' => h w' (hb.trans h')⟩
end Go.Proofs.YtcjnhiglfkcmiaaDoor
