/- keyOf: the text that tells a list. No condition but the sizes of memory and strconv's table of powers of ten. -/
import Derived.Test.YtcjnhiglfkcmiaaDoorGrpP
import Derived.Test.YtcjnhiglfkcmiaaDoorTxt
import Derived.Test.YtcjnhiglfkcmiaaDoorSha
namespace Go.Proofs.YtcjnhiglfkcmiaaDoor
open Go.RowKit
set_option linter.unusedVariables false
set_option maxRecDepth 100000
theorem infoU : (Tryd.prog.info? 5).map (fun i => (i.zero, i.size, i.bytes)) = some (some (.int .u8 0), 1, 1) := by kernel_rfl
theorem conv_list (W : World) (A : Option Addr) (n c : Nat) (L : List UInt8) {lo hi : Nat} (h : Rd W lo hi A n (Lib.byteCells L)) :
    (convert 22 9 (.slice A n c)).run Tryd.prog W = .ok (.string (strB L)) W := by
  have hn : L.length = n := by have := h.1; simpa [Lib.byteCells] using this
  subst hn
  cases A with
  | none =>
    have hL : L = [] := by
      cases L with
      | nil => rfl
      | cons a r =>
        obtain ⟨b, o, v, e, _⟩ := h.at_ (k := 0) (by simp)
        cases e
    subst hL
    exact run_convert_bytes_nil W 22 5 Tryd.underlying22 Tryd.underlying5 _ _ 9 Tryd.underlying9
  | some a =>
    refine run_convert_bytes_back W 22 9 5 a c L Tryd.underlying22 Tryd.underlying5 Tryd.underlying9 fun j hj => ?_
    obtain ⟨b, o, v, e, _, _, hv, hc⟩ := h.at_ hj
    injection e with e
    subst e
    rw [Addr.add_lit, hc]
    have : (Lib.byteCells L)[j]? = some (.int .u8 (L[j].toNat : Int)) := by simp [Lib.byteCells, List.getElem?_eq_getElem hj]
    rw [this] at hv
    exact hv.symm
theorem T10.up {B B' : Nat} {w : World} (h : T10 B w) (hB : B ≤ B') : T10 B' w := fun w' hb => h w' (hb.mono hB)
set_option maxHeartbeats 4000000 in
theorem keyOf_any (A : Option Addr) (n c : Nat) (xs : List Int) (w : World) {lo hi : Nat} (h : RI w lo hi A n xs) (hhi : hi ≤ w.heap.size) (hs : ∀ x ∈ xs, SmallM x) (hn : n ≤ 1048576) {B : Nat} (hT : T10 B w) (hB : B ≤ w.heap.size) :
    Calls Tryd.prog 90 #[.slice A n c] w fun e w' => e = .returned (.string (strB (keyB xs))) ∧ Below w.heap.size w w' := by
  obtain ⟨j0, hj0, hy0, hy1, hy2⟩ := info_parts infoU
  have hl := h.len
  have hlen : ∀ k, (keyB (xs.take k)).length ≤ 24117248 := fun k => by
    have h1 := keyB_len (xs := xs.take k) fun x hx => hs x (List.mem_of_mem_take hx)
    rw [List.length_take] at h1
    omega
  have hT2 := hT.up hB
  replace hs := Lib.hid hs
  replace hT2 := Lib.hid hT2
  replace hl := Lib.hid hl
  replace hlen := Lib.hid hlen
  go_enter Tryd.func90, Tryd.ntmps90
  go_wp2_with fail
  go_loopw [8, 3] (fun kv sv wq => ∃ (k m : Nat) (A1 : Option Addr) (c1 : Nat) (L : List UInt8), k ≤ n ∧ kv = .int .i64 k ∧ sv = .slice A1 m c1 ∧ m ≤ 24117248 ∧ Hid (L = keyB (xs.take k) ∧ L.length = m) ∧ Hid (wq.ownsRow w.heap.size 5 1 (.slice A1 m c1) m (Lib.byteCells L)) ∧ Below w.heap.size w wq) (fun kv _ _ => n - (intOf kv).toNat)
  case atStart => exact ⟨0, 0, none, 0, [], by omega, rfl, rfl, by omega, Lib.hid ⟨rfl, rfl⟩, Lib.hid (by simpa [Lib.byteCells] using World.ownsRow_nil w w.heap.size 5 1), Below.refl _ _⟩
  case round =>
    obtain ⟨k, m, A1, c1, L, hk, rfl, rfl, hm, hL, hO, hBr⟩ := hrel
    have yr := hBr.size
    by_cases hlt : k < n
    · obtain ⟨b, o, x, rfl, _, hb, hx, hcx⟩ := (h.below hBr hhi).at_ hlt
      have hxs := hs.out x (mem_of_get? hx)
      have hx0 : -9223372036854775808 ≤ x ∧ x ≤ 9223372036854775807 := by
        rcases hxs with rfl | hxs
        · omega
        · have := hxs.1; have := hxs.2; omega
      have hD := strconv_AppendInt_10 w.heap.size m x hx0.1 hx0.2 (.slice A1 m c1) (Lib.byteCells L) wr hO.out (by omega) (by omega) (hT2.out.on hBr)
      have htk := keyB_take hx
      replace htk := Lib.hid htk
      have hlk := hlen.out (k + 1)
      rw [htk.out, ← hL.out.1] at hlk
      simp only [List.length_append, List.length_singleton] at hlk
      have hLm := hL.out.2
      obtain ⟨d, hd⟩ : ∃ d, (Lib.itoa x).length = d := ⟨_, rfl⟩
      rw [hd] at hD hlk
      replace hd := Lib.hid hd
      replace hLm := Lib.hid hLm
      clear hx hxs
      go_wp2_with fail
      ((with_reducible refine hD.mono ?_); rintro e w1 ⟨v1, rfl, hO1, f1, -⟩)
      clear hD
      obtain ⟨A2, c2, rfl⟩ := slice_of_own' hO1
      have y1 := f1.size
      have hB1 := hBr.trans f1
      have hlm2 : m + d ≤ 24117248 := by have := hLm.out; omega
      go_wp2_with (at_builtin; refine wpList_append1 w1 rfl (.tmp 15) (.tmp 16) 22 rfl w.heap.size 5 j0 (.int .u8 0) 1 Tryd.underlying22 hj0 hy0 hy1 hy2 rfl (by omega) A2 (m + d) c2 _ (.int .u8 32) rfl hO1 _ rfl rfl rfl (by omega) (by omega) ?_)
      intro g c4 w2 ho2 hg2 hlo2 hlt2 hor2
      have hB2 := hB1.grown hg2 (by omega) (fun q hq => by have := (hO1.lt q hq).1; omega)
      have ho3 : Hid (w2.ownsRow w.heap.size 5 1 (.slice (some ⟨g, 0, none⟩) (m + d + 1) c4) (m + d + 1) (Lib.byteCells (L ++ (Lib.itoa x ++ [32])))) := Lib.hid (by
        have e : Lib.byteCells (L ++ (Lib.itoa x ++ [32])) = Lib.byteCells L ++ Lib.byteCells (Lib.itoa x) ++ [.int .u8 32] := by simp [Lib.byteCells]
        rw [e, List.append_assoc]; simpa using ho2)
      have hL3 : Hid (L ++ (Lib.itoa x ++ [32]) = keyB (xs.take (k + 1)) ∧ (L ++ (Lib.itoa x ++ [32])).length = m + d + 1) := Lib.hid ⟨by rw [htk.out, hL.out.1], by
        have := hLm.out; have := hd.out
        simp only [List.length_append, List.length_singleton]; omega⟩
      have hlm3 : m + d + 1 ≤ 24117248 := by have := hLm.out; omega
      clear ho2 hg2 hor2 hO1 hO hL
      go_wp2_with fail
      go_roundw
      case measure => simp [intOf]; omega
      case rel => exact ⟨k + 1, m + d + 1, _, c4, _, by omega, by go_num, rfl, hlm3, hL3, ho3, hB2⟩
    · obtain rfl : k = n := by omega
      have hcv := conv_list wr A1 m c1 L (Own.of_row hO.out).rd
      have hF : L = keyB xs := by
        have := hL.out.1
        rwa [List.take_of_length_le (by rw [hl.out]; exact Nat.le_refl _)] at this
      replace hF := Lib.hid hF
      go_wp2_with fail
      go_ret
      exact ⟨by rw [hF.out]; rfl, hBr⟩
end Go.Proofs.YtcjnhiglfkcmiaaDoor
