/- Connection faults of the reference: l03Near. No condition but the sizes of memory. (Merged: Shl, Txt, Key, ConC, ConE, ConS, ConL, ConG, Bag, MapB, BgM, ConD, ConH, Que, ConI, DfP, CntP, TwP, Tw, ConJ, ConQ, FaceS, TwX, ConK, ConN, ConO, ConW.) -/
import Derived.Test.YtebdfhkimnlglaaDoorSha
import Derived.Test.YtebdfhkimnlglaaDoorTxtP
import Derived.Test.YtebdfhkimnlglaaDoorStep
import Derived.Test.YtebdfhkimnlglaaDoorRow
import Derived.Test.YtebdfhkimnlglaaDoorCyc
import Derived.Lib.AppendIntMem
import Derived.Test.YtebdfhkimnlglaaDoorGrpP
import Derived.Test.YtebdfhkimnlglaaDoorConP
import Derived.Test.YtebdfhkimnlglaaDoorFlgG
import Derived.Test.YtebdfhkimnlglaaDoorOrbL
import Derived.Test.YtebdfhkimnlglaaDoorLawS
import Derived.Maps.OwnOps
import Derived.Maps.OwnSet
import Derived.Maps.Views
import Derived.StringKeys
import Derived.ArgAppend
import Derived.Test.YtebdfhkimnlglaaDoorPosP
import Derived.Test.YtebdfhkimnlglaaDoorOrbO
import Derived.Test.YtebdfhkimnlglaaDoorManP
import Derived.Test.YtebdfhkimnlglaaDoorFace
import Derived.Test.YtebdfhkimnlglaaDoorManX
import Derived.Test.YtebdfhkimnlglaaDoorRep
import Derived.Test.YtebdfhkimnlglaaDoorWord
import Derived.Test.YtebdfhkimnlglaaDoorRun
import Derived.Deep.AppendLies
/- Shl -/
/- Txt -/
namespace Go.Proofs.YtebdfhkimnlglaaDoor
open Go.RowKit
set_option linter.unusedVariables false
set_option maxRecDepth 100000
/-- the table of the powers of ten, which every world behind w has that is as w below B -/
abbrev T10 (B : Nat) (w : World) : Prop := Lib.TabBelow Tryd.prog B w "internal/strconv.uint64pow10" .u64 Lib.pow10Tab
theorem below_grow (w : World) (k : Nat) (os : Array Obj) : Below w.heap.size w (Sort.grow (w.drewN k) os) := by
  refine ⟨rfl, rfl, rfl, ?_, fun j hj => ?_⟩
  · show w.heap.size ≤ (w.heap ++ os).size
    rw [Array.size_append]; omega
  · show (w.heap ++ os)[j]? = w.heap[j]?
    rw [Array.getElem?_append_left hj]
theorem own_cap {w : World} {lo hi n c : Nat} {T : TypeId} {A : Option Addr} {vs : List Value} (h : Own w lo hi T A n c vs) : n ≤ c := by
  rcases h.1.2 with ⟨hv, hn⟩ | ⟨g, cap, cur, hv, _, _, hnc, _⟩
  · omega
  · cases hv; exact hnc
theorem infoT : (Tryd.prog.info? 9).map (fun i => (i.zero, i.size, i.bytes)) = some (some (.string ByteArray.empty), 1, 16) := by kernel_rfl
end Go.Proofs.YtebdfhkimnlglaaDoor
/- Key -/
namespace Go.Proofs.YtebdfhkimnlglaaDoor
open Go.RowKit
set_option linter.unusedVariables false
set_option maxRecDepth 100000
theorem infoU : (Tryd.prog.info? 5).map (fun i => (i.zero, i.size, i.bytes)) = some (some (.int .u8 0), 1, 1) := by kernel_rfl
theorem conv_list (W : World) (A : Option Addr) (n c : Nat) (L : List UInt8) {lo hi : Nat} (h : Rd W lo hi A n (Lib.byteCells L)) :
    (convert 70 9 (.slice A n c)).run Tryd.prog W = .ok (.string (strB L)) W := by
  have hn : L.length = n := by have := h.1; simpa [Lib.byteCells] using this
  subst hn
  cases A with
  | none =>
    have hL : L = [] := by
      cases L with
      | nil => rfl
      | cons a r =>
        obtain ⟨b, o, v, e, _⟩ := h.at_ (k := 0) (by simp)
        cases e
    subst hL
    exact run_convert_bytes_nil W 70 5 Tryd.underlying70 Tryd.underlying5 _ _ 9 Tryd.underlying9
  | some a =>
    refine run_convert_bytes_back W 70 9 5 a c L Tryd.underlying70 Tryd.underlying5 Tryd.underlying9 fun j hj => ?_
    obtain ⟨b, o, v, e, _, _, hv, hc⟩ := h.at_ hj
    injection e with e
    subst e
    rw [Addr.add_lit, hc]
    have : (Lib.byteCells L)[j]? = some (.int .u8 (L[j].toNat : Int)) := by simp [Lib.byteCells, List.getElem?_eq_getElem hj]
    rw [this] at hv
    exact hv.symm
theorem T10.up {B B' : Nat} {w : World} (h : T10 B w) (hB : B ≤ B') : T10 B' w := fun w' hb => h w' (hb.mono hB)
set_option maxHeartbeats 4000000 in
theorem keyOf_any (A : Option Addr) (n c : Nat) (xs : List Int) (w : World) {lo hi : Nat} (h : RI w lo hi A n xs) (hhi : hi ≤ w.heap.size) (hs : ∀ x ∈ xs, SmallM x) (hn : n ≤ 1048576) {B : Nat} (hT : T10 B w) (hB : B ≤ w.heap.size) :
    Calls Tryd.prog 34 #[.slice A n c] w fun e w' => e = .returned (.string (strB (keyB xs))) ∧ Below w.heap.size w w' := by
  obtain ⟨j0, hj0, hy0, hy1, hy2⟩ := info_parts infoU
  have hl := h.len
  have hlen : ∀ k, (keyB (xs.take k)).length ≤ 24117248 := fun k => by
    have h1 := keyB_len (xs := xs.take k) fun x hx => hs x (List.mem_of_mem_take hx)
    rw [List.length_take] at h1
    omega
  have hT2 := hT.up hB
  replace hs := Lib.hid hs
  replace hT2 := Lib.hid hT2
  replace hl := Lib.hid hl
  replace hlen := Lib.hid hlen
  go_enter Tryd.func34, Tryd.ntmps34
  go_wp2_with fail
  go_loopw [8, 3] (fun kv sv wq => ∃ (k m : Nat) (A1 : Option Addr) (c1 : Nat) (L : List UInt8), k ≤ n ∧ kv = .int .i64 k ∧ sv = .slice A1 m c1 ∧ m ≤ 24117248 ∧ Hid (L = keyB (xs.take k) ∧ L.length = m) ∧ Hid (wq.ownsRow w.heap.size 5 1 (.slice A1 m c1) m (Lib.byteCells L)) ∧ Below w.heap.size w wq) (fun kv _ _ => n - (intOf kv).toNat)
  case atStart => exact ⟨0, 0, none, 0, [], by omega, rfl, rfl, by omega, Lib.hid ⟨rfl, rfl⟩, Lib.hid (by simpa [Lib.byteCells] using World.ownsRow_nil w w.heap.size 5 1), Below.refl _ _⟩
  case round =>
    obtain ⟨k, m, A1, c1, L, hk, rfl, rfl, hm, hL, hO, hBr⟩ := hrel
    have yr := hBr.size
    by_cases hlt : k < n
    · obtain ⟨b, o, x, rfl, _, hb, hx, hcx⟩ := (h.below hBr hhi).at_ hlt
      have hxs := hs.out x (mem_of_get? hx)
      have hx0 : -9223372036854775808 ≤ x ∧ x ≤ 9223372036854775807 := by
        rcases hxs with rfl | hxs
        · omega
        · have := hxs.1; have := hxs.2; omega
      have hD := strconv_AppendInt_10 w.heap.size m x hx0.1 hx0.2 (.slice A1 m c1) (Lib.byteCells L) wr hO.out (by omega) (by omega) (hT2.out.on hBr)
      have htk := keyB_take hx
      replace htk := Lib.hid htk
      have hlk := hlen.out (k + 1)
      rw [htk.out, ← hL.out.1] at hlk
      simp only [List.length_append, List.length_singleton] at hlk
      have hLm := hL.out.2
      obtain ⟨d, hd⟩ : ∃ d, (Lib.itoa x).length = d := ⟨_, rfl⟩
      rw [hd] at hD hlk
      replace hd := Lib.hid hd
      replace hLm := Lib.hid hLm
      clear hx hxs
      go_wp2_with fail
      ((with_reducible refine hD.mono ?_); rintro e w1 ⟨v1, rfl, hO1, f1, -⟩)
      clear hD
      obtain ⟨A2, c2, rfl⟩ := slice_of_own' hO1
      have y1 := f1.size
      have hB1 := hBr.trans f1
      have hlm2 : m + d ≤ 24117248 := by have := hLm.out; omega
      go_wp2_with (at_builtin; refine wpList_append1 w1 rfl (.tmp 15) (.tmp 16) 70 rfl w.heap.size 5 j0 (.int .u8 0) 1 Tryd.underlying70 hj0 hy0 hy1 hy2 rfl (by omega) A2 (m + d) c2 _ (.int .u8 32) rfl hO1 _ rfl rfl rfl (by omega) (by omega) ?_)
      intro g c4 w2 ho2 hg2 hlo2 hlt2 hor2
      have hB2 := hB1.grown hg2 (by omega) (fun q hq => by have := (hO1.lt q hq).1; omega)
      have ho3 : Hid (w2.ownsRow w.heap.size 5 1 (.slice (some ⟨g, 0, none⟩) (m + d + 1) c4) (m + d + 1) (Lib.byteCells (L ++ (Lib.itoa x ++ [32])))) := Lib.hid (by
        have e : Lib.byteCells (L ++ (Lib.itoa x ++ [32])) = Lib.byteCells L ++ Lib.byteCells (Lib.itoa x) ++ [.int .u8 32] := by simp [Lib.byteCells]
        rw [e, List.append_assoc]; simpa using ho2)
      have hL3 : Hid (L ++ (Lib.itoa x ++ [32]) = keyB (xs.take (k + 1)) ∧ (L ++ (Lib.itoa x ++ [32])).length = m + d + 1) := Lib.hid ⟨by rw [htk.out, hL.out.1], by
        have := hLm.out; have := hd.out
        simp only [List.length_append, List.length_singleton]; omega⟩
      have hlm3 : m + d + 1 ≤ 24117248 := by have := hLm.out; omega
      clear ho2 hg2 hor2 hO1 hO hL
      go_wp2_with fail
      go_roundw
      case measure => simp [intOf]; omega
      case rel => exact ⟨k + 1, m + d + 1, _, c4, _, by omega, by go_num, rfl, hlm3, hL3, ho3, hB2⟩
    · obtain rfl : k = n := by omega
      have hcv := conv_list wr A1 m c1 L (Own.of_row hO.out).rd
      have hF : L = keyB xs := by
        have := hL.out.1
        rwa [List.take_of_length_le (by rw [hl.out]; exact Nat.le_refl _)] at this
      replace hF := Lib.hid hF
      go_wp2_with fail
      go_ret
      exact ⟨by rw [hF.out]; rfl, hBr⟩
end Go.Proofs.YtebdfhkimnlglaaDoor
/- ConC -/
namespace Go.Proofs.YtebdfhkimnlglaaDoor
open Go.RowKit
set_option linter.unusedVariables false
set_option maxRecDepth 100000
/-- what is common to two lists, -1 elsewhere -/
def cmL (xs ys : List Int) : List Int := List.zipWith (fun x y => if x = y then x else -1) xs ys
theorem cmL_get {xs ys : List Int} {k : Nat} {x y : Int} (hx : xs[k]? = some x) (hy : ys[k]? = some y) : (cmL xs ys)[k]? = some (if x = y then x else -1) := by
  unfold cmL
  rw [List.getElem?_zipWith, hx, hy]
theorem cmL_len {xs ys : List Int} {n : Nat} (h1 : xs.length = n) (h2 : ys.length = n) : (cmL xs ys).length = n := by unfold cmL; rw [List.length_zipWith]; omega
/-- the first k places are those of the common list -/
def mixL (xs ys : List Int) (k : Nat) : List Int := (cmL xs ys).take k ++ xs.drop k
theorem mixL_zero (xs ys : List Int) : mixL xs ys 0 = xs := by simp [mixL]
theorem mixL_all {xs ys : List Int} (h : xs.length = ys.length) : mixL xs ys ys.length = cmL xs ys := by
  unfold mixL
  rw [List.drop_of_length_le (by omega), List.append_nil, List.take_of_length_le (by rw [cmL_len h rfl]; exact Nat.le_refl _)]
theorem mixL_get {xs ys : List Int} {k : Nat} (h : xs.length = ys.length) (hk : k ≤ ys.length) (j : Nat) : (mixL xs ys k)[j]? = if j < k then (cmL xs ys)[j]? else xs[j]? := by
  have hl := cmL_len h rfl
  unfold mixL
  by_cases hj : j < k
  · rw [if_pos hj, List.getElem?_append_left (by rw [List.length_take]; omega), List.getElem?_take_of_lt hj]
  · rw [if_neg hj, List.getElem?_append_right (by rw [List.length_take]; omega), List.getElem?_drop, List.length_take]
    congr 1
    omega
theorem mixL_len {xs ys : List Int} {k : Nat} (h : xs.length = ys.length) (hk : k ≤ ys.length) : (mixL xs ys k).length = ys.length := by
  unfold mixL
  rw [List.length_append, List.length_take, List.length_drop, cmL_len h rfl]
  omega
theorem mixL_same {xs ys : List Int} {k : Nat} {x : Int} (h : xs.length = ys.length) (hx : xs[k]? = some x) (hy : ys[k]? = some x) : mixL xs ys (k + 1) = mixL xs ys k := by
  have hk : k < ys.length := (List.getElem?_eq_some_iff.1 hy).1
  apply List.ext_getElem?
  intro j
  rw [mixL_get h (by omega), mixL_get h (by omega)]
  by_cases e : j = k
  · subst e
    rw [if_pos (by omega), if_neg (by omega), cmL_get hx hy, if_pos rfl, hx]
  · by_cases hj : j < k
    · rw [if_pos hj, if_pos (by omega)]
    · rw [if_neg hj, if_neg (by omega)]
theorem mixL_diff {xs ys : List Int} {k : Nat} {x y : Int} (h : xs.length = ys.length) (hx : xs[k]? = some x) (hy : ys[k]? = some y) (hne : x ≠ y) : mixL xs ys (k + 1) = (mixL xs ys k).set k (-1) := by
  have hk : k < ys.length := (List.getElem?_eq_some_iff.1 hy).1
  apply List.ext_getElem?
  intro j
  rw [List.getElem?_set, mixL_get h (by omega), mixL_get h (by omega), mixL_len h (by omega)]
  by_cases e : k = j
  · subst e
    rw [if_pos (by omega), if_pos rfl, if_pos hk, cmL_get hx hy, if_neg hne]
  · rw [if_neg e]
    by_cases hj : j < k
    · rw [if_pos hj, if_pos (by omega)]
    · rw [if_neg hj, if_neg (by omega)]
set_option maxHeartbeats 2000000 in
theorem commonOf_any (A : Option Addr) (n c : Nat) (xs : List Int) (A' : Option Addr) (c' : Nat) (ys : List Int) (w : World) {lo hi lo' hi' : Nat} (h : RI w lo hi A n xs) (hhi : hi ≤ w.heap.size) (h' : RI w lo' hi' A' n ys) (hhi' : hi' ≤ w.heap.size) (hn : n ≤ 1048576) :
    Calls Tryd.prog 33 #[.slice A n c, .slice A' n c'] w fun e w' => ∃ (A1 : Option Addr) (c1 : Nat), e = .returned (.slice A1 n c1) ∧ Own w' w.heap.size w'.heap.size 2 A1 n c1 ((cmL xs ys).map (Value.int .i64)) ∧ Below w.heap.size w w' := by
  have hm := h'.max
  have hlx := h.len
  have hly := h'.len
  have hC := cloneI_any A n c xs w h hhi hn
  replace hlx := Lib.hid hlx
  replace hly := Lib.hid hly
  go_enter Tryd.func33, Tryd.ntmps33
  go_wp2_with fail
  ((with_reducible refine hC.mono ?_); rintro e w1 ⟨A1, c1, rfl, o1, f1⟩)
  clear hC
  have y1 := f1.size
  go_wp2_with fail
  go_loopw [12] (fun iv wq => ∃ (k : Nat) (zs : List Int), iv = .int .i64 k ∧ k ≤ n ∧ Hid (zs = mixL xs ys k) ∧ Own wq w.heap.size w1.heap.size 2 A1 n c1 (zs.map (Value.int .i64)) ∧ w1.heap.size ≤ wq.heap.size ∧ Below w.heap.size w wq) (fun iv _ => n - (intOf iv).toNat)
  case atStart => exact ⟨0, xs, rfl, by omega, Lib.hid (mixL_zero xs ys).symm, o1, Nat.le_refl _, f1⟩
  case round =>
    clear o1 f1
    obtain ⟨k, zs, rfl, hkn, hzs, hO, hz, hB⟩ := hrel
    by_cases hk : k < n
    · obtain ⟨x, hx⟩ : ∃ x, xs[k]? = some x := ⟨xs[k]'(by have := hlx.out; omega), List.getElem?_eq_getElem _⟩
      obtain ⟨b4, o4, y, rfl, _, _, hy, hyc⟩ := (h'.below hB hhi').at_ hk
      have hzk : zs[k]? = some x := by rw [hzs.out, mixL_get (by rw [hlx.out, hly.out]) (by rw [hly.out]; omega), if_neg (by omega)]; exact hx
      obtain ⟨g1, vv, rfl, hb0, -, -, hvv, -, hcv, hfr⟩ := hO.at_ (k := k) hk
      obtain rfl : vv = .int .i64 x := by rw [List.getElem?_map, hzk] at hvv; exact (Option.some.inj hvv).symm
      have hfz := hfr k
      clear hfr hvv
      have k0 : (0 : Int) ≤ (k : Int) := by omega
      have k1 : (k : Int) < (n : Int) := by omega
      have hl : xs.length = ys.length := by rw [hlx.out, hly.out]
      by_cases hxy : x = y
      · subst hxy
        have hz2 : Hid (zs = mixL xs ys (k + 1)) := Lib.hid (by rw [mixL_same hl hx hy]; exact hzs.out)
        replace hx := Lib.hid hx
        replace hy := Lib.hid hy
        replace hzk := Lib.hid hzk
        clear hzs
        go_wp2_with fail
        go_roundw
        case measure => simp [intOf] <;> omega
        case rel => exact ⟨k + 1, zs, by go_num, by omega, hz2, hO, hz, hB⟩
      · have hz2 : Hid (zs.set k (-1) = mixL xs ys (k + 1)) := Lib.hid (by rw [mixL_diff hl hx hy hxy, hzs.out])
        have hO2 := hO.setI (k := k) (-1)
        have hB2 : Below w.heap.size w (wr.setCell ⟨g1, k, none⟩ (.int .i64 (-1))) := hB.setCell hb0 _
        have hz3 : w1.heap.size ≤ (wr.setCell ⟨g1, k, none⟩ (.int .i64 (-1))).heap.size := by rw [World.size_setCell]; exact hz
        replace hx := Lib.hid hx
        replace hy := Lib.hid hy
        replace hzk := Lib.hid hzk
        have d0 : (x != y) = true := by simpa using hxy
        replace hxy := Lib.hid hxy
        clear hzs hO hB
        go_wp2_with fail
        go_roundw
        case measure => simp [intOf] <;> omega
        case rel => exact ⟨k + 1, _, by go_num, by omega, hz2, hO2, hz3, hB2⟩
    · obtain rfl : k = n := by omega
      have hz2 : zs = cmL xs ys := by rw [hzs.out, ← mixL_all (by rw [hlx.out, hly.out]), hly.out]
      subst hz2
      clear hzs
      go_wp2_with fail
      go_ret
      exact ⟨A1, c1, rfl, hO.more (Nat.le_refl _) hz, hB⟩
end Go.Proofs.YtebdfhkimnlglaaDoor
/- ConE -/
namespace Go.Proofs.YtebdfhkimnlglaaDoor
open Go.RowKit
set_option linter.unusedVariables false
set_option maxRecDepth 100000
/-- flag x without its element of rank i -/
def rsL (fl : List (List Int)) (x i : Nat) : List Int := (fl.getD x []).set i (-1)
theorem rsL_small {R : Nat} {fl : List (List Int)} (hf : FlOk R fl) {x : Nat} (i : Nat) (hx : x < fl.length) : ∀ z ∈ rsL fl x i, SmallM z := fun z hz => by
  unfold rsL at hz
  rw [List.getD_eq_getElem?_getD, List.getElem?_eq_getElem hx, Option.getD_some] at hz
  rcases List.mem_or_eq_of_mem_set hz with h | h
  · exact .inr (hf.rng _ (List.getElem_mem hx) z h)
  · exact .inl h
theorem rsL_len {R : Nat} {fl : List (List Int)} (hf : FlOk R fl) {x : Nat} (i : Nat) (hx : x < fl.length) : (rsL fl x i).length = R := by
  unfold rsL
  rw [List.length_set, List.getD_eq_getElem?_getD, List.getElem?_eq_getElem hx, Option.getD_some]
  exact hf.len _ (List.getElem_mem hx)
theorem at2_nn {R : Nat} {fl : List (List Int)} (hf : FlOk R fl) {x k : Nat} (hx : x < fl.length) (hk : k < R) : 0 ≤ at2 fl x k ∧ (fl.getD x [])[k]? = some (at2 fl x k) := by
  have e1 : fl[x]? = some fl[x] := List.getElem?_eq_getElem hx
  have l1 := hf.len fl[x] (List.getElem_mem hx)
  have e2 : fl[x][k]? = some (fl[x][k]'(by omega)) := List.getElem?_eq_getElem _
  rw [at2_get e1 e2, List.getD_eq_getElem?_getD, e1, Option.getD_some]
  exact ⟨(hf.rng _ (List.getElem_mem hx) _ (List.getElem_mem _)).1, e2⟩
/-- two flags have the same rest: the ranks are one, and they agree elsewhere -/
theorem rsL_eq {R : Nat} {fl : List (List Int)} (hf : FlOk R fl) {x y i j : Nat} (hx : x < fl.length) (hy : y < fl.length) (hi : i < R) (hj : j < R) : rsL fl x i = rsL fl y j ↔ i = j ∧ ∀ k, k < R → k ≠ i → at2 fl x k = at2 fl y k := by
  have key : ∀ {u a k : Nat}, u < fl.length → a < R → k < R → (rsL fl u a)[k]? = some (if k = a then -1 else at2 fl u k) := fun {u a k} hu ha hk => by
    have hl := rsL_len hf a hu
    unfold rsL at hl ⊢
    rw [List.length_set] at hl
    rw [List.getElem?_set]
    by_cases e : a = k
    · subst e
      rw [if_pos rfl, if_pos (by omega), if_pos rfl]
    · rw [if_neg e, if_neg (fun q => e q.symm)]
      exact (at2_nn hf hu hk).2
  constructor
  · intro h
    have hij : i = j := by
      have h1 := key hx hi hi
      rw [h, key hy hj hi, if_pos rfl] at h1
      by_cases e : i = j
      · exact e
      · rw [if_neg e] at h1
        have := (at2_nn hf hy hi).1
        injection h1 with h1
        omega
    subst hij
    refine ⟨rfl, fun k hk hne => ?_⟩
    have h1 := key hx hi hk
    rw [h, key hy hi hk, if_neg hne, if_neg hne] at h1
    injection h1 with h1
    exact h1.symm
  · rintro ⟨rfl, h⟩
    apply List.ext_getElem?
    intro k
    by_cases hk : k < R
    · rw [key hx hi hk, key hy hi hk]
      by_cases e : k = i
      · rw [if_pos e, if_pos e]
      · rw [if_neg e, if_neg e, h k hk e]
    · rw [List.getElem?_eq_none (by rw [rsL_len hf i hx]; omega), List.getElem?_eq_none (by rw [rsL_len hf i hy]; omega)]
set_option maxHeartbeats 1000000 in
theorem restOf_any (fl : List (List Int)) (R : Nat) (hf : FlOk R fl) (x i : Nat) (hx : x < fl.length) (hi : i < R) (pb : Nat) (A : Option Addr) (c : Nat) (w : World) {lo hi' : Nat} (h : RS w lo hi' A fl.length fl) (hhi : hi' ≤ w.heap.size) (hp : w.cell? ⟨pb, 0, none⟩ = some (.slice A fl.length c)) {B : Nat} (hT : T10 B w) (hB : B ≤ w.heap.size) :
    Calls Tryd.prog 47 #[.int .i64 x, .int .i64 i, .pointer (some ⟨pb, 0, none⟩)] w fun e w' => e = .returned (.string (strB (keyB (rsL fl x i)))) ∧ Below w.heap.size w w' := by
  have hsm := rsL_small hf i hx
  have hln := rsL_len hf i hx
  obtain ⟨n, hnn⟩ : ∃ n, fl.length = n := ⟨_, rfl⟩
  have hR5 := hf.r5
  have hlen : ∀ t ∈ fl, t.length = R := hf.len
  rw [hnn] at hx h hp
  obtain ⟨b, o, A1, n1, c1, t, rfl, _, _, ht, hc, hr⟩ := h.at_ hx
  have hn1 : n1 = R := by have := hr.len; have := hlen t (mem_of_get? ht); omega
  subst hn1
  have hrs : rsL fl x i = t.set i (-1) := by unfold rsL; rw [List.getD_eq_getElem?_getD, ht]; rfl
  rw [hrs] at hsm hln ⊢
  have hC := cloneI_any A1 n1 c1 t w hr hhi (by omega)
  have x0 : (0 : Int) ≤ (x : Int) := by omega
  have x1 : (x : Int) < (n : Int) := by omega
  have i0 : (0 : Int) ≤ (i : Int) := by omega
  have i1 : (i : Int) < (n1 : Int) := by omega
  replace hf := Lib.hid hf
  replace hnn := Lib.hid hnn
  replace hlen := Lib.hid hlen
  replace ht := Lib.hid ht
  replace hrs := Lib.hid hrs
  replace hsm := Lib.hid hsm
  replace hln := Lib.hid hln
  clear h
  go_enter Tryd.func47, Tryd.ntmps47
  go_wp2_with fail
  ((with_reducible refine hC.mono ?_); rintro e w1 ⟨A2, c2, rfl, o1, f1⟩)
  clear hC
  have y1 := f1.size
  obtain ⟨g1, vv, rfl, hb0, hb1, -, -, -, hcv, hfr⟩ := o1.at_ (k := i) hi
  have hfz := hfr i
  clear hfr
  have o2 := o1.setI (k := i) (-1)
  have B2 : Below w.heap.size w (w1.setCell ⟨g1, i, none⟩ (.int .i64 (-1))) := f1.setCell hb0 _
  have y2 : (w1.setCell ⟨g1, i, none⟩ (.int .i64 (-1))).heap.size = w1.heap.size := World.size_setCell _ _ _
  have hK := keyOf_any (some ⟨g1, 0, none⟩) n1 c2 (t.set i (-1)) _ o2.ri (by rw [y2]; exact Nat.le_refl _) hsm.out (by omega) (hT.on (B2.mono hB)) (by rw [y2]; omega)
  replace y2 := Lib.hid y2
  go_wp2_with fail
  ((with_reducible refine hK.mono ?_); rintro e w3 ⟨rfl, f3⟩)
  clear hK
  have B3 := B2.trans (f3.mono (by rw [y2.out]; exact y1))
  go_wp2_with fail
  go_ret
  exact ⟨rfl, B3⟩
end Go.Proofs.YtebdfhkimnlglaaDoor
/- ConS -/
namespace Go.Proofs.YtebdfhkimnlglaaDoor
open Go.RowKit
set_option linter.unusedVariables false
set_option maxRecDepth 100000
theorem l03Differ_any (A : Option Addr) (n c : Nat) (xs : List Int) (A' : Option Addr) (c' : Nat) (ys : List Int) (w : World) {lo hi lo' hi' : Nat} (h : RI w lo hi A n xs) (h' : RI w lo' hi' A' n ys) (hn : n ≤ 1048576) :
    Calls Tryd.prog 40 #[.slice A n c, .slice A' n c'] w fun e w' => e = .returned (.int .i64 (difN xs ys n : Nat)) ∧ ∃ m, w' = w.drewN m := by
  have hm := h.max
  go_enter Tryd.func40, Tryd.ntmps40
  go_wp2_with fail
  go_loopw [5, 6] (fun cv kv wq => ∃ (k d m : Nat), k ≤ n ∧ d ≤ k ∧ cv = .int .i64 d ∧ kv = .int .i64 k ∧ Hid (d = difN xs ys k) ∧ Hid (wq = w.drewN m)) (fun _ kv _ => n - (intOf kv).toNat)
  case atStart => exact ⟨0, 0, 0, by omega, by omega, rfl, rfl, Lib.hid rfl, Lib.hid rfl⟩
  case round =>
    obtain ⟨k, d, m, hk, hdk, rfl, rfl, hd, hw⟩ := hrel
    by_cases hlt : k < n
    · have hs : ∀ lo hi, Same lo hi w wr := fun lo hi => by rw [hw.out]; exact fun _ _ _ => rfl
      obtain ⟨b, o, x, rfl, _, _, hx, hcx⟩ := (h.keep (hs _ _)).at_ hlt
      obtain ⟨b', o', y, rfl, _, _, hy, hcy⟩ := (h'.keep (hs _ _)).at_ hlt
      have hgx : xs.getD k 0 = x := getD_some hx
      have hgy : ys.getD k 0 = y := getD_some hy
      have hst : difN xs ys (k + 1) = d + (if x = y then 0 else 1) := by rw [hd.out]; show difN xs ys k + _ = _; rw [hgx, hgy]
      have k0 : (0 : Int) ≤ (k : Int) := by omega
      have k1 : (k : Int) < (n : Int) := by omega
      replace hx := Lib.hid hx
      replace hy := Lib.hid hy
      clear hgx hgy hs
      by_cases hxy : x = y
      · rw [if_pos hxy] at hst
        have d0 : (x != y) = false := by simpa using hxy
        replace hst := Lib.hid hst
        replace hxy := Lib.hid hxy
        go_wp2_with fail
        go_quiet (fail)
        go_wp2_with fail
        go_roundw
        case measure => simp [intOf] <;> omega
        case rel => exact ⟨k + 1, d, _, by omega, by omega, rfl, by go_num, Lib.hid hst.out.symm, Lib.hid (by rw [hw.out, World.drewN_drewN])⟩
      · rw [if_neg hxy] at hst
        have d0 : (x != y) = true := by simpa using hxy
        replace hst := Lib.hid hst
        replace hxy := Lib.hid hxy
        go_wp2_with fail
        go_quiet (fail)
        go_wp2_with fail
        go_roundw
        case measure => simp [intOf] <;> omega
        case rel => exact ⟨k + 1, d + 1, _, by omega, by omega, by go_num, by go_num, Lib.hid hst.out.symm, Lib.hid (by rw [hw.out, World.drewN_drewN])⟩
    · obtain rfl : k = n := by omega
      go_wp2_with fail
      go_ret
      exact ⟨by rw [hd.out]; rfl, m, hw.out⟩
/-- slices of slices of slices -/
def R3 (w : World) (lo hi : Nat) (A : Option Addr) (n : Nat) (zsss : List (List (List Int))) : Prop :=
  ∃ vs, Rd w lo hi A n vs ∧ vs.length = zsss.length ∧ ∀ (k : Nat) (v : Value) (xss : List (List Int)), vs[k]? = some v → zsss[k]? = some xss → ∃ A1 n1 c1, v = .slice A1 n1 c1 ∧ RS w lo hi A1 n1 xss
theorem RS.keepS {w w' : World} {lo hi n : Nat} {A : Option Addr} {xss : List (List Int)} (h : RS w lo hi A n xss) (hs : Same lo hi w w') : RS w' lo hi A n xss := by
  obtain ⟨vs, r1, r2⟩ := h
  exact ⟨vs, r1.keep hs, r2.keep hs⟩
theorem R3.keep {w w' : World} {lo hi n : Nat} {A : Option Addr} {zsss : List (List (List Int))} (h : R3 w lo hi A n zsss) (hs : Same lo hi w w') : R3 w' lo hi A n zsss := by
  obtain ⟨vs, r1, r2, r3⟩ := h
  refine ⟨vs, r1.keep hs, r2, fun k v xss h1 h2 => ?_⟩
  obtain ⟨A1, n1, c1, e, r⟩ := r3 k v xss h1 h2
  exact ⟨A1, n1, c1, e, r.keepS hs⟩
theorem R3.below {w w' : World} {lo hi n B : Nat} {A : Option Addr} {zsss : List (List (List Int))} (h : R3 w lo hi A n zsss) (hb : Below B w w') (hB : hi ≤ B) : R3 w' lo hi A n zsss := h.keep (Same.of_below hb hB)
theorem R3.len {w : World} {lo hi n : Nat} {A : Option Addr} {zsss : List (List (List Int))} (h : R3 w lo hi A n zsss) : zsss.length = n := by
  obtain ⟨vs, r1, r2, _⟩ := h
  have := r1.1
  omega
theorem R3.max {w : World} {lo hi n : Nat} {A : Option Addr} {zsss : List (List (List Int))} (h : R3 w lo hi A n zsss) : n ≤ 9223372036854775807 := by
  obtain ⟨vs, r1, _⟩ := h
  exact r1.2.1
theorem R3.at_ {w : World} {lo hi n k : Nat} {A : Option Addr} {zsss : List (List (List Int))} (h : R3 w lo hi A n zsss) (hk : k < n) : ∃ b o A1 n1 c1 xss, A = some ⟨b, o, none⟩ ∧ zsss[k]? = some xss ∧ w.cell? ⟨b, o + k, none⟩ = some (.slice A1 n1 c1) ∧ RS w lo hi A1 n1 xss := by
  have hl := h.len
  obtain ⟨vs, r1, r2, r3⟩ := h
  obtain ⟨b, o, v, e, _, _, hv, hc⟩ := r1.at_ hk
  have hz : zsss[k]? = some zsss[k] := List.getElem?_eq_getElem (by omega)
  obtain ⟨A1, n1, c1, rfl, r⟩ := r3 k v _ hv hz
  exact ⟨b, o, A1, n1, c1, _, e, hz, hc, r⟩
/-- the flags that differ from x in the element of rank i alone -/
def Df (fl : List (List Int)) (R i x y : Nat) : Prop := difN (fl.getD x []) (fl.getD y []) R = 1 ∧ at2 fl x i ≠ at2 fl y i
open Classical in
noncomputable def nearL (fl : List (List Int)) (R i x m : Nat) : List Int := ((List.range m).filter fun y => decide (Df fl R i x y)).map Int.ofNat
theorem nearL_mem {fl : List (List Int)} {R i x m : Nat} {z : Int} : z ∈ nearL fl R i x m ↔ ∃ y : Nat, y < m ∧ z = (y : Int) ∧ Df fl R i x y := by
  unfold nearL
  simp only [List.mem_map, List.mem_filter, List.mem_range, decide_eq_true_eq]
  constructor
  · rintro ⟨y, ⟨h1, h2⟩, rfl⟩; exact ⟨y, h1, rfl, h2⟩
  · rintro ⟨y, h1, rfl, h2⟩; exact ⟨y, ⟨h1, h2⟩, rfl⟩
theorem nearL_succ (fl : List (List Int)) (R i x m : Nat) : (Df fl R i x m → nearL fl R i x (m + 1) = nearL fl R i x m ++ [(m : Int)]) ∧ (¬ Df fl R i x m → nearL fl R i x (m + 1) = nearL fl R i x m) := by
  unfold nearL
  constructor
  · intro h; rw [List.range_succ, List.filter_append, List.map_append]; simp [h]
  · intro h; rw [List.range_succ, List.filter_append, List.map_append]; simp [h]
theorem nearL_len (fl : List (List Int)) (R i x m : Nat) : (nearL fl R i x m).length ≤ m := by
  unfold nearL
  rw [List.length_map]
  exact Nat.le_trans (List.length_filter_le _ _) (by simp)
theorem df_iff {fl : List (List Int)} {R i x y : Nat} (hi : i < R) : Df fl R i x y ↔ (at2 fl x i ≠ at2 fl y i ∧ ∀ k, k < R → k ≠ i → at2 fl x k = at2 fl y k) := by
  unfold Df at2
  rw [difN_one hi]
/-- a step is one to a near flag, or none -/
theorem sc_near {fl : List (List Int)} {R : Nat} {c : Nat → Bool} (hf : FlOk R fl) {x y : Nat} (h : Sc fl R c x y) : x = y ∨ ∃ i, i < R ∧ c i = false ∧ (y : Int) ∈ nearL fl R i x fl.length := by
  obtain ⟨h1, h2, i, hi, hc, h3⟩ := h
  by_cases e : at2 fl x i = at2 fl y i
  · left
    refine hf.inj h1 h2 fun k hk => ?_
    by_cases ek : k = i
    · rw [ek]; exact e
    · exact h3 k hk ek
  · exact .inr ⟨i, hi, hc, nearL_mem.2 ⟨y, h2, rfl, (df_iff hi).2 ⟨e, h3⟩⟩⟩
theorem near_sc {fl : List (List Int)} {R i x : Nat} {c : Nat → Bool} {z : Int} (hx : x < fl.length) (hi : i < R) (hc : c i = false) (h : z ∈ nearL fl R i x fl.length) : ∃ y : Nat, z = (y : Int) ∧ y < fl.length ∧ Sc fl R c x y := by
  obtain ⟨y, h1, rfl, h2⟩ := nearL_mem.1 h
  exact ⟨y, rfl, h1, hx, h1, i, hi, hc, ((df_iff hi).1 h2).2⟩
/-- all near lists -/
noncomputable def nearA (fl : List (List Int)) (R : Nat) : List (List (List Int)) := (List.range R).map fun i => (List.range fl.length).map fun x => nearL fl R i x fl.length
theorem nearA_get {fl : List (List Int)} {R i x : Nat} (hi : i < R) (hx : x < fl.length) {xss : List (List Int)} (h : (nearA fl R)[i]? = some xss) : xss[x]? = some (nearL fl R i x fl.length) ∧ xss.length = fl.length := by
  have : xss = (List.range fl.length).map fun x => nearL fl R i x fl.length := by
    have e : (nearA fl R)[i]? = some ((List.range fl.length).map fun x => nearL fl R i x fl.length) := by simp [nearA, hi]
    rw [e] at h
    exact (Option.some.inj h).symm
  subst this
  exact ⟨by simp [hx], by simp⟩
theorem nearA_length (fl : List (List Int)) (R : Nat) : (nearA fl R).length = R := by simp [nearA]
end Go.Proofs.YtebdfhkimnlglaaDoor
/- ConL -/
namespace Go.Proofs.YtebdfhkimnlglaaDoor
open Go.RowKit
set_option linter.unusedVariables false
set_option maxRecDepth 100000
/-- ranks that are in the mask are in common -/
def maskC (mask k : Nat) : Bool := mask / 2 ^ k % 2 == 1
/-- of a point x, the steps by the ranks below i have been looked at -/
def StI (fl : List (List Int)) (R : Nat) (c : Nat → Bool) (x i : Nat) (ls : List Int) : Prop := ∀ i', i' < i → c i' = false → ∀ z ∈ nearL fl R i' x fl.length, ls[z.toNat]? ≠ some (-1)
/-- and of the rank i, those to the first j flags of the list -/
def StJ (lst : List Int) (j : Nat) (ls : List Int) : Prop := ∀ z ∈ lst.take j, ls[z.toNat]? ≠ some (-1)
theorem ne_set {ls : List Int} {y u : Nat} {f : Nat} (hy : y < ls.length) (h : ls[u]? ≠ some (-1)) : (ls.set y (f : Int))[u]? ≠ some (-1) := by
  rw [set_get hy]
  by_cases e : y = u
  · rw [if_pos e]; intro e2; injection e2 with e2; omega
  · rw [if_neg e]; exact h
/-- a list of points as numbers -/
abbrev ptsL (rs : List Nat) : List Int := rs.map Int.ofNat
/-- the state of the search amid a part -/
structure LkW (fl : List (List Int)) (R : Nat) (c : Nat → Bool) (f k : Nat) (rs : List Nat) (ls : List Int) : Prop where
  lab : LabW (Sc fl R c) (Va fl) fl.length f (rs.drop k) ls
  cnt : wantN ls + rs.length ≤ fl.length
  mem : ∀ x ∈ rs, x < fl.length
theorem LkW.start {fl : List (List Int)} {R : Nat} {c : Nat → Bool} {f : Nat} {ls : List Int} (d : LabD (Sc fl R c) (Va fl) fl.length f ls) (hf : f < fl.length) (h : ls[f]? = some (-1)) : LkW fl R c f 0 [f] (ls.set f (f : Int)) := by
  refine ⟨d.start (sv_all fl R c) hf h, ?_, fun x hx => by simp at hx; omega⟩
  have h1 := wantN_set (f := f) h
  have h2 : wantN ls ≤ ls.length := List.count_le_length
  have h3 := d.len
  simp
  omega
theorem LkW.add {fl : List (List Int)} {R i : Nat} {c : Nat → Bool} {f k x : Nat} {rs : List Nat} {ls : List Int} (w : LkW fl R c f k rs ls) (hx : rs[k]? = some x) (hi : i < R) (hc : c i = false) {z : Int} (hz : z ∈ nearL fl R i x fl.length) (hl : ls[z.toNat]? = some (-1)) :
    LkW fl R c f k (rs ++ [z.toNat]) (ls.set z.toNat (f : Int)) := by
  have hxl := w.mem x (List.mem_of_getElem? hx)
  obtain ⟨y, rfl, hy, hs⟩ := near_sc (c := c) hxl hi hc hz
  rw [Int.toNat_natCast] at hl ⊢
  have hkl := (List.getElem?_eq_some_iff.1 hx).1
  have hp : x ∈ rs.drop k := by
    rw [List.drop_eq_getElem_cons hkl]
    obtain ⟨q, e⟩ := List.getElem?_eq_some_iff.1 hx
    rw [e]; simp
  refine ⟨?_, ?_, fun u hu => ?_⟩
  · rw [List.drop_append_of_le_length (by omega)]
    exact w.lab.add (sv_all fl R c) hxl (w.lab.pend x hp).2.1 hs hl
  · have h1 := wantN_set (f := f) hl
    have := w.cnt
    simp
    omega
  · rcases List.mem_append.1 hu with hu | hu
    · exact w.mem u hu
    · simp at hu; omega
theorem LkW.pop {fl : List (List Int)} {R : Nat} {c : Nat → Bool} {f k x : Nat} {rs : List Nat} {ls : List Int} (hf : FlOk R fl) (w : LkW fl R c f k rs ls) (hx : rs[k]? = some x) (hi : StI fl R c x R ls) : LkW fl R c f (k + 1) rs ls := by
  obtain ⟨hkl, e⟩ := List.getElem?_eq_some_iff.1 hx
  have hd : rs.drop k = x :: rs.drop (k + 1) := by rw [List.drop_eq_getElem_cons hkl, e]
  have hw := w.lab
  rw [hd] at hw
  refine ⟨hw.pop fun y hs => ?_, w.cnt, w.mem⟩
  have hpx := hw.pend x (by simp)
  rcases sc_near hf hs with rfl | ⟨i, h1, h2, h3⟩
  · rw [hpx.2.2]; intro e3; injection e3 with e3; omega
  · have := hi i h1 h2 _ h3
    rwa [Int.toNat_natCast] at this
theorem LkW.fin {fl : List (List Int)} {R : Nat} {c : Nat → Bool} {f k : Nat} {rs : List Nat} {ls : List Int} (w : LkW fl R c f k rs ls) (hk : rs.length ≤ k) : LabD (Sc fl R c) (Va fl) fl.length (f + 1) ls := by
  have := w.lab
  rw [List.drop_of_length_le hk] at this
  exact this.fin
end Go.Proofs.YtebdfhkimnlglaaDoor
/- ConG -/
namespace Go.Proofs.YtebdfhkimnlglaaDoor
set_option linter.unusedVariables false
set_option maxRecDepth 100000
open Classical
/-- what is common, -1 elsewhere -/
def IsCom (fl : List (List Int)) (R : Nat) (c : Nat → Bool) (a : Nat) (cm : List Int) : Prop := cm.length = R ∧ ∀ k, k < R → cm[k]? = some (if c k = true then at2 fl a k else -1)
theorem IsCom.uniq {fl : List (List Int)} {R a : Nat} {c : Nat → Bool} {cm cm' : List Int} (h : IsCom fl R c a cm) (h' : IsCom fl R c a cm') : cm = cm' := by
  apply List.ext_getElem?
  intro k
  by_cases hk : k < R
  · rw [h.2 k hk, h'.2 k hk]
  · rw [List.getElem?_eq_none (by rw [h.1]; omega), List.getElem?_eq_none (by rw [h'.1]; omega)]
theorem isCom_of {fl : List (List Int)} {R : Nat} (hf : FlOk R fl) {a b : Nat} (ha : a < fl.length) (hb : b < fl.length) : IsCom fl R (comC fl a b) a (cmL (fl.getD a []) (fl.getD b [])) := by
  have l1 : (fl.getD a []).length = R := by rw [List.getD_eq_getElem?_getD, List.getElem?_eq_getElem ha]; exact hf.len _ (List.getElem_mem ha)
  have l2 : (fl.getD b []).length = R := by rw [List.getD_eq_getElem?_getD, List.getElem?_eq_getElem hb]; exact hf.len _ (List.getElem_mem hb)
  refine ⟨cmL_len l1 l2, fun k hk => ?_⟩
  rw [cmL_get (at2_nn hf ha hk).2 (at2_nn hf hb hk).2]
  unfold comC
  by_cases e : at2 fl a k = at2 fl b k
  · rw [if_pos e, if_pos (by simpa using e)]
  · rw [if_neg e, if_neg (by simpa using e)]
/-- a flag has what is common -/
theorem com_iff {fl : List (List Int)} {R a x : Nat} {c : Nat → Bool} {cm : List Int} (hf : FlOk R fl) (h : IsCom fl R c a cm) (ha : a < fl.length) (hx : x < fl.length) : cmL cm (fl.getD x []) = cm ↔ Vc fl R c a x := by
  have hl : (fl.getD x []).length = R := by rw [List.getD_eq_getElem?_getD, List.getElem?_eq_getElem hx]; exact hf.len _ (List.getElem_mem hx)
  have key : ∀ k, k < R → (cmL cm (fl.getD x []))[k]? = some (if (if c k = true then at2 fl a k else -1) = at2 fl x k then (if c k = true then at2 fl a k else -1) else -1) := fun k hk => cmL_get (h.2 k hk) (at2_nn hf hx hk).2
  constructor
  · intro he
    refine ⟨hx, fun k hk hc => ?_⟩
    have h1 := key k hk
    rw [he, h.2 k hk, if_pos hc] at h1
    injection h1 with h1
    by_cases e : at2 fl a k = at2 fl x k
    · exact e.symm
    · rw [if_neg e] at h1
      have := (at2_nn hf ha hk).1
      omega
  · intro hv
    apply List.ext_getElem?
    intro k
    by_cases hk : k < R
    · rw [key k hk, h.2 k hk]
      by_cases hc : c k = true
      · rw [if_pos hc, if_pos (hv.2 k hk hc).symm]
      · rw [if_neg hc]
        by_cases e : -1 = at2 fl x k
        · rw [if_pos e]
        · rw [if_neg e]
    · rw [List.getElem?_eq_none (by rw [cmL_len h.1 hl]; omega), List.getElem?_eq_none (by rw [h.1]; omega)]
/-- the flags below m that have what is common -/
noncomputable def allN (fl : List (List Int)) (R : Nat) (c : Nat → Bool) (a m : Nat) : List Nat := (List.range m).filter fun x => decide (Vc fl R c a x)
section
variable {fl : List (List Int)} {R a : Nat} {c : Nat → Bool}
theorem allN_mem {m x : Nat} : x ∈ allN fl R c a m ↔ x < m ∧ Vc fl R c a x := by unfold allN; simp
theorem allN_succ (m : Nat) : (Vc fl R c a m → allN fl R c a (m + 1) = allN fl R c a m ++ [m]) ∧ (¬ Vc fl R c a m → allN fl R c a (m + 1) = allN fl R c a m) := by
  unfold allN
  constructor
  · intro h; rw [List.range_succ, List.filter_append]; simp [h]
  · intro h; rw [List.range_succ, List.filter_append]; simp [h]
theorem allN_len (m : Nat) : (allN fl R c a m).length ≤ m := by unfold allN; exact Nat.le_trans (List.length_filter_le _ _) (by simp)
/-- the k-th of them, behind the last the number of all flags -/
noncomputable def nxN (fl : List (List Int)) (R : Nat) (c : Nat → Bool) (a k : Nat) : Nat := ((allN fl R c a fl.length)[k]?).getD fl.length
theorem allN_pair (m : Nat) : (allN fl R c a m).Pairwise (· < ·) := (List.pairwise_lt_range (n := m)).filter _
theorem allN_lt {i j x y : Nat} (hx : (allN fl R c a fl.length)[i]? = some x) (hy : (allN fl R c a fl.length)[j]? = some y) (h : i < j) : x < y := by
  obtain ⟨h1, e1⟩ := List.getElem?_eq_some_iff.1 hx
  obtain ⟨h2, e2⟩ := List.getElem?_eq_some_iff.1 hy
  have := List.pairwise_iff_getElem.1 (allN_pair (fl := fl) (R := R) (c := c) (a := a) fl.length) i j h1 h2 h
  omega
theorem nxN_zero {x : Nat} (hx : Vc fl R c a x) (h : x < nxN fl R c a 0) : False := by
  obtain ⟨j, hj⟩ := List.mem_iff_getElem?.1 ((allN_mem (m := fl.length)).2 ⟨hx.1, hx⟩)
  have hjl := (List.getElem?_eq_some_iff.1 hj).1
  have h0 : (allN fl R c a fl.length)[0]? = some ((allN fl R c a fl.length)[0]'(by omega)) := List.getElem?_eq_getElem (by omega)
  unfold nxN at h
  rw [h0, Option.getD_some] at h
  rcases Nat.eq_zero_or_pos j with e | e
  · subst e; rw [h0] at hj; injection hj with hj; omega
  · have := allN_lt h0 hj e; omega
theorem nxN_at {k x : Nat} (h : (allN fl R c a fl.length)[k]? = some x) : nxN fl R c a k = x := by unfold nxN; rw [h]; rfl
theorem nxN_end {k : Nat} (h : (allN fl R c a fl.length).length ≤ k) : nxN fl R c a k = fl.length := by unfold nxN; rw [List.getElem?_eq_none h]; rfl
theorem nxN_step {k x y : Nat} (hx : (allN fl R c a fl.length)[k]? = some x) (hy : Vc fl R c a y) (h : y < nxN fl R c a (k + 1)) : y < x + 1 := by
  obtain ⟨j, hj⟩ := List.mem_iff_getElem?.1 ((allN_mem (m := fl.length)).2 ⟨hy.1, hy⟩)
  by_cases hjk : j ≤ k
  · rcases Nat.lt_or_eq_of_le hjk with e | e
    · have := allN_lt hj hx e; omega
    · subst e; rw [hx] at hj; injection hj with hj; omega
  · exfalso
    have hjl := (List.getElem?_eq_some_iff.1 hj).1
    have h1 : (allN fl R c a fl.length)[k + 1]? = some ((allN fl R c a fl.length)[k + 1]'(by omega)) := List.getElem?_eq_getElem (by omega)
    rw [nxN_at h1] at h
    rcases Nat.lt_or_eq_of_le (show k + 1 ≤ j by omega) with e | e
    · have := allN_lt h1 hj e; omega
    · subst e; rw [h1] at hj; injection hj with hj; omega
/-- two flags agree but in rank i -/
def Agr (fl : List (List Int)) (R i x y : Nat) : Prop := ∀ k, k < R → k ≠ i → at2 fl x k = at2 fl y k
/-- of the ranks in common, a flag's group is the flag alone -/
theorem agr_com (hf : FlOk R fl) {i x y : Nat} (hi : i < R) (hc : c i = true) (hx : Vc fl R c a x) (hy : Vc fl R c a y) (h : Agr fl R i x y) : x = y :=
  hf.inj hx.1 hy.1 fun k hk => by
    by_cases e : k = i
    · subst e; rw [hx.2 k hk hc, hy.2 k hk hc]
    · exact h k hk e
/-- the groups that some pairs of a flag and a rank make -/
structure Grps (fl : List (List Int)) (R : Nat) (pr : Nat → Nat → Prop) (N : Nat) (G : List (List Int × List Int)) : Prop where
  prb : ∀ x i, pr x i → x < fl.length ∧ i < R
  nd : (G.map Prod.fst).Nodup
  src : ∀ g ∈ G, ∃ x i, pr x i ∧ g.1 = rsL fl x i
  mem : ∀ g ∈ G, ∀ z, z ∈ g.2 ↔ ∃ x i, pr x i ∧ g.1 = rsL fl x i ∧ z = (x : Int)
  all : ∀ x i, pr x i → ∃ g ∈ G, g.1 = rsL fl x i
  len : G.length ≤ N
  mlen : ∀ g ∈ G, g.2.length ≤ N
theorem Grps.nil (fl : List (List Int)) (R : Nat) : Grps fl R (fun _ _ => False) 0 [] :=
  ⟨fun _ _ h => h.elim, by simp, fun g h => by simp at h, fun g h => by simp at h, fun _ _ h => h.elim, by simp, fun g h => by simp at h⟩
theorem Grps.congr {pr pr' : Nat → Nat → Prop} {N : Nat} {G : List (List Int × List Int)} (h : Grps fl R pr N G) (he : ∀ x i, pr x i ↔ pr' x i) : Grps fl R pr' N G := by
  have : pr = pr' := by funext x i; exact propext (he x i)
  rw [← this]; exact h
theorem Grps.mono {pr : Nat → Nat → Prop} {N N' : Nat} {G : List (List Int × List Int)} (h : Grps fl R pr N G) (hN : N ≤ N') : Grps fl R pr N' G := ⟨h.prb, h.nd, h.src, h.mem, h.all, Nat.le_trans h.len hN, fun g hg => Nat.le_trans (h.mlen g hg) hN⟩
/-- the groups are found by their keys -/
theorem Grps.key (hf : FlOk R fl) {pr : Nat → Nat → Prop} {N : Nat} {G : List (List Int × List Int)} (h : Grps fl R pr N G) {g : List Int × List Int} (hg : g ∈ G) {x i : Nat} (hx : x < fl.length) : keyB g.1 = keyB (rsL fl x i) ↔ g.1 = rsL fl x i := by
  constructor
  · intro e
    obtain ⟨y, j, hp, e2⟩ := h.src g hg
    refine keyB_inj ?_ (rsL_small hf i hx) e
    rw [e2]
    exact rsL_small hf j (h.prb y j hp).1
  · intro e; rw [e]
/-- one more pair: its group is there -/
theorem Grps.app {pr : Nat → Nat → Prop} {N : Nat} {G : List (List Int × List Int)} (h : Grps fl R pr N G) {x i j : Nat} (hx : x < fl.length) (hi : i < R) {ms : List Int} (hj : G[j]? = some (rsL fl x i, ms)) : Grps fl R (fun y k => pr y k ∨ (y = x ∧ k = i)) (N + 1) (G.set j (rsL fl x i, ms ++ [(x : Int)])) := by
  have hjl := (List.getElem?_eq_some_iff.1 hj).1
  have hm0 : (rsL fl x i, ms) ∈ G := List.mem_of_getElem? hj
  have hfst : (G.set j (rsL fl x i, ms ++ [(x : Int)])).map Prod.fst = G.map Prod.fst := by
    rw [List.map_set]
    apply List.ext_getElem?
    intro t
    rw [List.getElem?_set]
    by_cases e : j = t
    · subst e
      rw [if_pos rfl, if_pos (by simpa using hjl), List.getElem?_map, hj]; rfl
    · rw [if_neg e]
  have cases_ : ∀ g ∈ G.set j (rsL fl x i, ms ++ [(x : Int)]), g = (rsL fl x i, ms ++ [(x : Int)]) ∨ (g ∈ G ∧ g.1 ≠ rsL fl x i) := fun g hg => by
    obtain ⟨t, ht⟩ := List.mem_iff_getElem?.1 hg
    rw [List.getElem?_set] at ht
    by_cases e : j = t
    · subst e
      rw [if_pos rfl, if_pos hjl] at ht
      exact .inl (Option.some.inj ht).symm
    · rw [if_neg e] at ht
      refine .inr ⟨List.mem_of_getElem? ht, fun e2 => e ?_⟩
      have htl := (List.getElem?_eq_some_iff.1 ht).1
      have h1 : (G.map Prod.fst)[j]? = some (rsL fl x i) := by rw [List.getElem?_map, hj]; rfl
      have h2 : (G.map Prod.fst)[t]? = some (rsL fl x i) := by rw [List.getElem?_map, ht]; simp [e2]
      have hp := List.pairwise_iff_getElem.1 (List.nodup_iff_pairwise_ne.1 h.nd)
      obtain ⟨q1, r1⟩ := List.getElem?_eq_some_iff.1 h1
      obtain ⟨q2, r2⟩ := List.getElem?_eq_some_iff.1 h2
      rcases Nat.lt_trichotomy j t with hlt | hlt | hlt
      · exact absurd (r1.trans r2.symm) (hp j t q1 q2 hlt)
      · exact hlt
      · exact absurd (r2.trans r1.symm) (hp t j q2 q1 hlt)
  refine ⟨fun y k hy => ?_, by rw [hfst]; exact h.nd, fun g hg => ?_, fun g hg z => ?_, fun y k hy => ?_, by rw [List.length_set]; exact Nat.le_succ_of_le h.len, fun g hg => ?_⟩
  · rcases hy with hy | ⟨rfl, rfl⟩
    · exact h.prb y k hy
    · exact ⟨hx, hi⟩
  · rcases cases_ g hg with rfl | ⟨hg2, _⟩
    · exact ⟨x, i, .inr ⟨rfl, rfl⟩, rfl⟩
    · obtain ⟨y, k, hy, e⟩ := h.src g hg2
      exact ⟨y, k, .inl hy, e⟩
  · rcases cases_ g hg with rfl | ⟨hg2, hne⟩
    · show z ∈ ms ++ [(x : Int)] ↔ _
      rw [List.mem_append, h.mem _ hm0 z]
      constructor
      · rintro (⟨y, k, hy, e, rfl⟩ | hz)
        · exact ⟨y, k, .inl hy, e, rfl⟩
        · simp at hz; exact ⟨x, i, .inr ⟨rfl, rfl⟩, rfl, hz⟩
      · rintro ⟨y, k, hy | ⟨rfl, rfl⟩, e, rfl⟩
        · exact .inl ⟨y, k, hy, e, rfl⟩
        · exact .inr (by simp)
    · rw [h.mem g hg2 z]
      constructor
      · rintro ⟨y, k, hy, e, rfl⟩; exact ⟨y, k, .inl hy, e, rfl⟩
      · rintro ⟨y, k, hy | ⟨rfl, rfl⟩, e, rfl⟩
        · exact ⟨y, k, hy, e, rfl⟩
        · exact absurd e hne
  · have hin : (rsL fl x i, ms ++ [(x : Int)]) ∈ G.set j (rsL fl x i, ms ++ [(x : Int)]) := List.mem_of_getElem? (i := j) (by rw [List.getElem?_set, if_pos rfl, if_pos hjl])
    rcases hy with hy | ⟨rfl, rfl⟩
    · obtain ⟨g, hg, e⟩ := h.all y k hy
      obtain ⟨t, ht⟩ := List.mem_iff_getElem?.1 hg
      by_cases e2 : j = t
      · subst e2
        rw [hj] at ht
        have := Option.some.inj ht
        subst this
        exact ⟨_, hin, e⟩
      · exact ⟨g, List.mem_of_getElem? (i := t) (by rw [List.getElem?_set, if_neg e2]; exact ht), e⟩
    · exact ⟨_, hin, rfl⟩
  · rcases cases_ g hg with rfl | ⟨hg2, _⟩
    · have := h.mlen _ hm0
      show (ms ++ [(x : Int)]).length ≤ N + 1
      rw [List.length_append, List.length_singleton]
      have h9 : ms.length ≤ N := this
      omega
    · exact Nat.le_succ_of_le (h.mlen g hg2)
/-- one more pair: its group is new -/
theorem Grps.new {pr : Nat → Nat → Prop} {N : Nat} {G : List (List Int × List Int)} (h : Grps fl R pr N G) {x i : Nat} (hx : x < fl.length) (hi : i < R) (hn : ∀ g ∈ G, g.1 ≠ rsL fl x i) : Grps fl R (fun y k => pr y k ∨ (y = x ∧ k = i)) (N + 1) (G ++ [(rsL fl x i, [(x : Int)])]) := by
  refine ⟨fun y k hy => ?_, ?_, fun g hg => ?_, fun g hg z => ?_, fun y k hy => ?_, ?_, fun g hg => ?_⟩
  · rcases hy with hy | ⟨rfl, rfl⟩
    · exact h.prb y k hy
    · exact ⟨hx, hi⟩
  · rw [List.map_append, List.nodup_append]
    refine ⟨h.nd, by simp, fun u hu v hv e => ?_⟩
    obtain ⟨g, hg, rfl⟩ := List.mem_map.1 hu
    simp at hv
    exact hn g hg (e.trans hv)
  · rcases List.mem_append.1 hg with hg | hg
    · obtain ⟨y, k, hy, e⟩ := h.src g hg
      exact ⟨y, k, .inl hy, e⟩
    · simp at hg; subst hg
      exact ⟨x, i, .inr ⟨rfl, rfl⟩, rfl⟩
  · rcases List.mem_append.1 hg with hg1 | hg1
    · rw [h.mem g hg1 z]
      constructor
      · rintro ⟨y, k, hy, e, rfl⟩; exact ⟨y, k, .inl hy, e, rfl⟩
      · rintro ⟨y, k, hy | ⟨rfl, rfl⟩, e, rfl⟩
        · exact ⟨y, k, hy, e, rfl⟩
        · exact absurd e (hn g hg1)
    · simp at hg1; subst hg1
      constructor
      · intro hz
        simp at hz
        exact ⟨x, i, .inr ⟨rfl, rfl⟩, rfl, hz⟩
      · rintro ⟨y, k, hy | ⟨rfl, rfl⟩, e, rfl⟩
        · obtain ⟨g, hg, e2⟩ := h.all y k hy
          exact absurd (e2.trans e.symm) (hn g hg)
        · simp
  · rcases hy with hy | ⟨rfl, rfl⟩
    · obtain ⟨g, hg, e⟩ := h.all y k hy
      exact ⟨g, List.mem_append_left _ hg, e⟩
    · exact ⟨(rsL fl y k, [(y : Int)]), List.mem_append_right _ (by simp), rfl⟩
  · rw [List.length_append, List.length_singleton]; have := h.len; omega
  · rcases List.mem_append.1 hg with hg | hg
    · exact Nat.le_succ_of_le (h.mlen g hg)
    · simp at hg; subst hg; simp
end
end Go.Proofs.YtebdfhkimnlglaaDoor
/- Bag -/
namespace Go.Proofs.YtebdfhkimnlglaaDoor
open Go.RowKit
set_option linter.unusedVariables false
set_option maxRecDepth 100000
/-- one row: its element type, the slice, its length, what it holds -/
structure Ent where
  T : TypeId
  v : Value
  n : Nat
  xs : List Value
/-- the rows lie in blocks from lo on, below hi, each in a block of its own -/
structure Bag (w : World) (lo hi : Nat) (L : List Ent) : Prop where
  own : ∀ e ∈ L, w.ownsRow lo e.T 1 e.v e.n e.xs
  lt : ∀ e ∈ L, ∀ z, e.v.ownBlock = some z → z < hi
  ap : L.Pairwise (fun a b => Apart a.v b.v)
section
variable {w w' : World} {lo hi hi' : Nat} {L L' P Q : List Ent} {e e' : Ent}
theorem row_same {T : TypeId} {v : Value} {n : Nat} {xs : List Value} (h : w.ownsRow lo T 1 v n xs) (hl : ∀ z, v.ownBlock = some z → z < hi) (hs : Same lo hi w w') : w'.ownsRow lo T 1 v n xs := by
  refine ⟨h.1, ?_⟩
  rcases h.2 with hn | ⟨g, cap, cur, hv, hb, hg, rest⟩
  · exact .inl hn
  · refine .inr ⟨g, cap, cur, hv, hb, ?_, rest⟩
    rw [hs g hb (hl g (by rw [hv]; rfl))]
    exact hg
theorem row_lower {T : TypeId} {v : Value} {n : Nat} {xs : List Value} {lo' : Nat} (h : w.ownsRow lo T 1 v n xs) (hl : lo' ≤ lo) : w.ownsRow lo' T 1 v n xs := by
  refine ⟨h.1, ?_⟩
  rcases h.2 with hn | ⟨g, cap, cur, hv, hb, hg, rest⟩
  · exact .inl hn
  · exact .inr ⟨g, cap, cur, hv, by omega, hg, rest⟩
theorem Bag.nil : Bag w lo hi [] := ⟨fun e h => absurd h (by simp), fun e h => absurd h (by simp), List.Pairwise.nil⟩
theorem Bag.keep (h : Bag w lo hi L) (hs : Same lo hi w w') : Bag w' lo hi L := ⟨fun e he => row_same (h.own e he) (h.lt e he) hs, h.lt, h.ap⟩
theorem Bag.below {B : Nat} (h : Bag w lo hi L) (hb : Below B w w') (hB : hi ≤ B) : Bag w' lo hi L := h.keep (Same.of_below hb hB)
theorem Bag.more (h : Bag w lo hi L) (h2 : hi ≤ hi') : Bag w lo hi' L := ⟨h.own, fun e he z hz => by have := h.lt e he z hz; omega, h.ap⟩
theorem Bag.perm (h : Bag w lo hi L) (hp : L.Perm L') : Bag w lo hi L' :=
  ⟨fun e he => h.own e (hp.mem_iff.2 he), fun e he => h.lt e (hp.mem_iff.2 he), (hp.pairwise_iff (fun {a b} hab z h1 h2 => hab z h2 h1)).1 h.ap⟩
theorem Bag.sub (h : Bag w lo hi L) (hs : L'.Sublist L) : Bag w lo hi L' := ⟨fun e he => h.own e (hs.mem he), fun e he => h.lt e (hs.mem he), h.ap.sublist hs⟩
theorem Bag.tail (h : Bag w lo hi (e :: L)) : Bag w lo hi L := h.sub (List.sublist_cons_self e L)
theorem Bag.get {j : Nat} (h : Bag w lo hi L) (hj : L[j]? = some e) : w.ownsRow lo e.T 1 e.v e.n e.xs := h.own e (mem_of_get? hj)
theorem Bag.getO {j : Nat} {T : TypeId} {A : Option Addr} {n c : Nat} {xs : List Value} (h : Bag w lo hi L) (hj : L[j]? = some ⟨T, .slice A n c, n, xs⟩) : Own w lo hi T A n c xs :=
  ⟨h.get hj, fun a ha => h.lt _ (mem_of_get? hj) a.block (by simp [Value.ownBlock, ha])⟩
theorem Bag.apart {i j : Nat} {a b : Ent} (h : Bag w lo hi L) (hi' : L[i]? = some a) (hj : L[j]? = some b) (hne : i ≠ j) : Apart a.v b.v := by
  obtain ⟨h1, rfl⟩ := List.getElem?_eq_some_iff.1 hi'
  obtain ⟨h2, rfl⟩ := List.getElem?_eq_some_iff.1 hj
  have hp := List.pairwise_iff_getElem.1 h.ap
  rcases Nat.lt_or_gt_of_ne hne with g | g
  · exact hp i j h1 h2 g
  · intro z z1 z2
    exact hp j i h2 h1 g z z2 z1
/-- a new row -/
theorem Bag.ins (h : Bag w lo hi (P ++ Q)) (hlo : lo ≤ hi) (hh : hi ≤ hi') (ho : w.ownsRow hi e.T 1 e.v e.n e.xs) (hl : ∀ z, e.v.ownBlock = some z → z < hi') : Bag w lo hi' (P ++ e :: Q) := by
  have h0 : Bag w lo hi' (e :: (P ++ Q)) := by
    refine ⟨fun x hx => ?_, fun x hx z hz => ?_, ?_⟩
    · rcases List.mem_cons.1 hx with rfl | hx
      · exact row_lower ho hlo
      · exact h.own x hx
    · rcases List.mem_cons.1 hx with rfl | hx
      · exact hl z hz
      · have := h.lt x hx z hz; omega
    · rw [List.pairwise_cons]
      refine ⟨fun x hx z h1 h2 => ?_, h.ap⟩
      have := (ho.lt z h1).1
      have := h.lt x hx z h2
      omega
  exact h0.perm List.perm_middle.symm
/-- one row has grown, or was written -/
theorem Bag.set {j : Nat} (h : Bag w lo hi L) (hj : L[j]? = some e) (hhi : hi ≤ w.heap.size) (ho : w'.ownsRow lo e'.T 1 e'.v e'.n e'.xs) (hg : w.grownBy w' e.v.ownBlock) (hor : ∀ z, e'.v.ownBlock = some z → e.v.ownBlock = some z ∨ hi ≤ z) : Bag w' lo w'.heap.size (L.set j e') := by
  have hjl : j < L.length := (List.getElem?_eq_some_iff.1 hj).1
  have hsz := hg.size
  have hother : ∀ (k : Nat) (x : Ent), (L.set j e')[k]? = some x → (k = j ∧ x = e') ∨ (k ≠ j ∧ L[k]? = some x) := by
    intro k x hk
    rw [List.getElem?_set] at hk
    by_cases q : j = k
    · rw [if_pos q, if_pos hjl] at hk
      exact .inl ⟨q.symm, (Option.some.inj hk).symm⟩
    · rw [if_neg q] at hk
      exact .inr ⟨fun g => q g.symm, hk⟩
  have hcr : ∀ (k : Nat) (x : Ent), k ≠ j → L[k]? = some x → ∀ z, e'.v.ownBlock = some z → x.v.ownBlock ≠ some z := by
    intro k x hk hx z hz hxz
    rcases hor z hz with g | g
    · exact h.apart hx hj hk z hxz g
    · have := h.lt x (mem_of_get? hx) z hxz; omega
  refine ⟨fun x hx => ?_, fun x hx z hz => ?_, ?_⟩
  · obtain ⟨k, hk⟩ := List.mem_iff_getElem?.1 hx
    rcases hother k x hk with ⟨_, rfl⟩ | ⟨hne, hk2⟩
    · exact ho
    · refine (h.get hk2).kept hg ?_
      cases hq : x.v.ownBlock with
      | none => exact .inl rfl
      | some z => exact .inr fun g => h.apart hk2 hj hne z hq g.symm
  · obtain ⟨k, hk⟩ := List.mem_iff_getElem?.1 hx
    rcases hother k x hk with ⟨_, rfl⟩ | ⟨hne, hk2⟩
    · exact (ho.lt z hz).2
    · have := h.lt x (mem_of_get? hk2) z hz; omega
  · rw [List.pairwise_iff_getElem]
    intro a b ha hb hab
    have h1 := hother a _ (List.getElem?_eq_getElem ha)
    have h2 := hother b _ (List.getElem?_eq_getElem hb)
    rcases h1 with ⟨e1, e2⟩ | ⟨n1, k1⟩
    · rcases h2 with ⟨e3, _⟩ | ⟨n2, k2⟩
      · omega
      · rw [e2]; exact fun z hz => hcr b _ n2 k2 z hz
    · rcases h2 with ⟨_, e4⟩ | ⟨n2, k2⟩
      · rw [e4]; exact fun z hz hz2 => hcr a _ n1 k1 z hz2 hz
      · exact h.apart k1 k2 (by omega)
/-- a store into the row j -/
theorem Bag.store {j k n c g : Nat} {T : TypeId} {xs : List Value} (h : Bag w lo hi L) (hj : L[j]? = some ⟨T, .slice (some ⟨g, 0, none⟩) n c, n, xs⟩) (hhi : hi ≤ w.heap.size) (u : Value) :
    Bag (w.setCell ⟨g, k, none⟩ u) lo hi (L.set j ⟨T, .slice (some ⟨g, 0, none⟩) n c, n, xs.set k u⟩) := by
  have hs := (h.get hj).stored k u
  have h2 := h.set (e' := ⟨T, .slice (some ⟨g, 0, none⟩) n c, n, xs.set k u⟩) hj hhi hs.1 hs.2 (fun z hz => .inl hz)
  refine ⟨h2.own, fun x hx z hz => ?_, h2.ap⟩
  rcases List.mem_or_eq_of_mem_set hx with hx | rfl
  · exact h.lt x hx z hz
  · exact h.lt _ (mem_of_get? hj) z hz
/-- the rows vs with the numbers xss -/
def rowsE (T : TypeId) (vs : List Value) (xss : List (List Int)) : List Ent := List.zipWith (fun v xs => ⟨T, v, xs.length, xs.map (Value.int .i64)⟩) vs xss
variable {T : TypeId} {vs : List Value} {xss : List (List Int)}
theorem rowsE_get {k : Nat} {v : Value} {ys : List Int} (h1 : vs[k]? = some v) (h2 : xss[k]? = some ys) : (rowsE T vs xss)[k]? = some ⟨T, v, ys.length, ys.map (Value.int .i64)⟩ := by
  unfold rowsE
  rw [List.getElem?_zipWith, h1, h2]
theorem rowsE_set {k : Nat} {v' : Value} {ys' : List Int} : rowsE T (vs.set k v') (xss.set k ys') = (rowsE T vs xss).set k ⟨T, v', ys'.length, ys'.map (Value.int .i64)⟩ := by
  unfold rowsE
  apply List.ext_getElem?
  intro i
  rw [List.getElem?_zipWith, List.getElem?_set, List.getElem?_set, List.getElem?_set, List.getElem?_zipWith]
  by_cases e : k = i
  · subst e
    rw [if_pos rfl, if_pos rfl, if_pos rfl]
    by_cases h1 : k < vs.length
    · by_cases h2 : k < xss.length
      · rw [if_pos h1, if_pos h2, if_pos (by simp; omega)]
      · rw [if_pos h1, if_neg h2, if_neg (by simp; omega)]
    · rw [if_neg h1, if_neg (show ¬ k < (List.zipWith (fun (v : Value) (xs : List Int) => (⟨T, v, xs.length, xs.map (Value.int .i64)⟩ : Ent)) vs xss).length by simp; omega)]
  · rw [if_neg e, if_neg e, if_neg e]
theorem rowsE_snoc {v : Value} {ys : List Int} (h : vs.length = xss.length) : rowsE T (vs ++ [v]) (xss ++ [ys]) = rowsE T vs xss ++ [⟨T, v, ys.length, ys.map (Value.int .i64)⟩] := by
  unfold rowsE
  rw [List.zipWith_append h]
  rfl
theorem rowsE_length (h : vs.length = xss.length) : (rowsE T vs xss).length = vs.length := by unfold rowsE; simp [h]
/-- the row k -/
theorem Bag.row {k : Nat} {v : Value} {ys : List Int} (h : Bag w lo hi L) (hm : ∀ e ∈ rowsE T vs xss, e ∈ L) (h1 : vs[k]? = some v) (h2 : xss[k]? = some ys) : ∃ A n c, v = .slice A n c ∧ Own w lo hi T A n c (ys.map (Value.int .i64)) := by
  have hk := rowsE_get (T := T) h1 h2
  have hin := hm _ (mem_of_get? hk)
  have ho := h.own _ hin
  obtain ⟨A, c, hv⟩ := slice_of_own' ho
  have hv' : v = .slice A ys.length c := hv
  subst hv'
  exact ⟨A, ys.length, c, rfl, ho, fun a ha => h.lt _ hin a.block (by simp [Value.ownBlock, ha])⟩
theorem Bag.rs {T2 : TypeId} {A : Option Addr} {n c : Nat} (h : Bag w lo hi L) (hm : ∀ e ∈ rowsE T vs xss, e ∈ L) (ho : (⟨T2, .slice A n c, n, vs⟩ : Ent) ∈ L) (hl : vs.length = xss.length) : RS w lo hi A n xss := by
  have o1 : Own w lo hi T2 A n c vs := ⟨h.own _ ho, fun a ha => h.lt _ ho a.block (by simp [Value.ownBlock, ha])⟩
  refine ⟨vs, o1.rd, hl, fun k v xs h1 h2 => ?_⟩
  obtain ⟨A1, n1, c1, e, o⟩ := h.row hm h1 h2
  exact ⟨A1, n1, c1, e, o.ri⟩
/-- one of the last rows has grown -/
theorem Bag.grow {j : Nat} {v v' : Value} {ys ys' : List Int} (h : Bag w lo hi (P ++ rowsE T vs xss)) (h1 : vs[j]? = some v) (h2 : xss[j]? = some ys) (hhi : hi ≤ w.heap.size) (ho : w'.ownsRow lo T 1 v' ys'.length (ys'.map (Value.int .i64))) (hg : w.grownBy w' v.ownBlock) (hor : ∀ z, v'.ownBlock = some z → v.ownBlock = some z ∨ hi ≤ z) :
    Bag w' lo w'.heap.size (P ++ rowsE T (vs.set j v') (xss.set j ys')) := by
  have hk := rowsE_get (T := T) h1 h2
  have hk2 : (P ++ rowsE T vs xss)[P.length + j]? = some ⟨T, v, ys.length, ys.map (Value.int .i64)⟩ := by
    rw [List.getElem?_append_right (by omega), Nat.add_sub_cancel_left]
    exact hk
  have := h.set (e' := ⟨T, v', ys'.length, ys'.map (Value.int .i64)⟩) hk2 hhi ho hg hor
  rw [rowsE_set]
  rwa [List.set_append_right _ _ (by omega), Nat.add_sub_cancel_left] at this
theorem RowsOwn.bag (h : RowsOwn w lo hi T vs xss) : Bag w lo hi (rowsE T vs xss) := by
  have hget : ∀ (k : Nat) (x : Ent), (rowsE T vs xss)[k]? = some x → ∃ v ys, vs[k]? = some v ∧ xss[k]? = some ys ∧ x = ⟨T, v, ys.length, ys.map (Value.int .i64)⟩ := by
    intro k x hk
    unfold rowsE at hk
    rw [List.getElem?_zipWith] at hk
    cases h1 : vs[k]? with
    | none => rw [h1] at hk; simp at hk
    | some v =>
      cases h2 : xss[k]? with
      | none => rw [h1, h2] at hk; simp at hk
      | some ys => rw [h1, h2] at hk; exact ⟨v, ys, rfl, rfl, (Option.some.inj hk).symm⟩
  refine ⟨fun e he => ?_, fun e he z hz => ?_, ?_⟩
  · obtain ⟨k, hk⟩ := List.mem_iff_getElem?.1 he
    obtain ⟨v, ys, h1, h2, rfl⟩ := hget k e hk
    obtain ⟨A, n, c, rfl, o⟩ := h.2.2 k v ys h1 h2
    have hn : ys.length = n := by have := o.len; simpa using this
    subst hn
    exact o.1
  · obtain ⟨k, hk⟩ := List.mem_iff_getElem?.1 he
    obtain ⟨v, ys, h1, h2, rfl⟩ := hget k e hk
    exact h.block_lt (mem_of_get? h1) hz
  · rw [List.pairwise_iff_getElem]
    intro a b ha hb hab
    obtain ⟨v, ys, h1, h2, e1⟩ := hget a _ (List.getElem?_eq_getElem ha)
    obtain ⟨v', ys', h1', h2', e2⟩ := hget b _ (List.getElem?_eq_getElem hb)
    rw [e1, e2]
    obtain ⟨p1, rfl⟩ := List.getElem?_eq_some_iff.1 h1
    obtain ⟨p2, rfl⟩ := List.getElem?_eq_some_iff.1 h1'
    exact List.pairwise_iff_getElem.1 h.2.1 a b p1 p2 hab
theorem Bag.rowsOwn (h : Bag w lo hi (rowsE T vs xss)) (hl : vs.length = xss.length) : RowsOwn w lo hi T vs xss := by
  refine ⟨hl, ?_, fun k v xs h1 h2 => h.row (fun e he => he) h1 h2⟩
  rw [List.pairwise_iff_getElem]
  intro a b ha hb hab
  have h1 := rowsE_get (T := T) (List.getElem?_eq_getElem ha) (List.getElem?_eq_getElem (show a < xss.length by omega))
  have h2 := rowsE_get (T := T) (List.getElem?_eq_getElem hb) (List.getElem?_eq_getElem (show b < xss.length by omega))
  exact h.apart h1 h2 (by omega)
end
end Go.Proofs.YtebdfhkimnlglaaDoor
/- MapB -/
namespace Go.Proofs.YtebdfhkimnlglaaDoor
open Go.Maps (Keyed)
set_option linter.unusedVariables false
theorem plainElem_bool_inv {H : Type} {P : Program} {e : TypeId} (he : P.underlying e = some .bool) {v : Value} {z : DataW H × List MemPlace} (h : plainElem P e v = some z) : ∃ x, v = .bool x ∧ z = (.lit (.bool x), []) := by
  unfold plainElem at h
  rw [he] at h
  cases v <;> simp at h
  exact ⟨_, rfl, h.symm⟩
theorem lookup_bool {H : Type} {P : Program} {w : World} {k t e : TypeId} {b n : Nat} {D : DataW H} (h : w.ownsMap P k (plainElem P e) b n D) (K : Keyed P k) (ht : P.underlying t = some (.map k e)) (he : P.underlying e = some .bool) (hz : (zeroValue e).run P w = .ok (.bool false) w)
    {key : Value} {kl : Lit} (hkey : keyOf P k key = some kl) : ∃ c, (Instr.lookup t (.map (some b)) key false).run P w = .ok (.bool c) w ∧ D.atKey kl (.lit (.bool false)) = .lit (.bool c) := by
  obtain ⟨v, ps, hrun, hv⟩ := h.lookup K ht hz (plainElem_bool he false) hkey
  obtain ⟨c, rfl, hc⟩ := plainElem_bool_inv he hv
  simp only [Prod.mk.injEq] at hc
  exact ⟨c, hrun, hc.1⟩
theorem wpList_lookup_own_bool {H : Type} {P : Program} (w : World) {ops : Array Oper} {rest : List Oper} {o : Oper} {a : Act} {Q : Exit → Act → World → Prop}
    (hg : o.guard = none) (m x : Operand) (t : TypeId) (hop : o.op = Op.lookup t m x false)
    (k e : TypeId) (K : Keyed P k) (ht : P.underlying t = some (.map k e)) (he : P.underlying e = some .bool) (hz : (zeroValue e).run P w = .ok (.bool false) w) (b n : Nat) (D : DataW H)
    (hm : a.eval m = .map (some b)) (hown : w.ownsMap P k (plainElem P e) b n D) (key : Value) (kl : Lit) (hx : a.eval x = key) (hkey : keyOf P k key = some kl) (c : Bool) (hc : D.atKey kl (.lit (.bool false)) = .lit (.bool c))
    (hK : True → wpList P ops Q rest (a.put o.dst (.bool c)) w) :
    wpList P ops Q (o :: rest) a w := by
  refine wpList_plain hg fun K' hK' => ?_
  obtain ⟨c', hrun, hat⟩ := lookup_bool hown K ht he hz hkey
  have : c' = c := by rw [hat] at hc; simpa using hc
  subst this
  unfold Oper.wp
  simp [execOp, hop, hm, hx, hrun, Result.andThen]
  exact hK' _ _ (hK trivial)
/-- block b is a map of at most n entries, in which the keys of the list are true, all others false -/
def SetM (P : Program) (k e : TypeId) (w : World) (b n : Nat) (ks : List (List UInt8)) : Prop :=
  ∃ D : DataW Unit, w.ownsMap P k (plainElem P e) b n D ∧ Go.Maps.IsMap D ∧ ∀ s, D.atKey (.string s) (.lit (.bool false)) = .lit (.bool (decide (s ∈ ks)))
theorem SetM.made (w : World) (P : Program) (k e : TypeId) : SetM P k e (w.alloc (.map #[] 0)) w.heap.size 0 [] :=
  ⟨.map [], World.ownsMap_made w P k _, Go.Maps.isMap_empty, fun s => by simp [DataW.atKey]⟩
theorem SetM.lt {P : Program} {k e : TypeId} {w : World} {b n : Nat} {ks : List (List UInt8)} (h : SetM P k e w b n ks) : b < w.heap.size := by
  obtain ⟨D, h1, _⟩ := h
  exact h1.lt
theorem SetM.kept {P : Program} {k e : TypeId} {w w' : World} {b n : Nat} {ks : List (List UInt8)} (h : SetM P k e w b n ks) (hb : w'.heap[b]? = w.heap[b]?) : SetM P k e w' b n ks := by
  obtain ⟨D, ⟨es, clock, h1, F, hs, hD⟩, h2, h3⟩ := h
  exact ⟨D, ⟨es, clock, hb.trans h1, F, hs, hD⟩, h2, h3⟩
theorem SetM.put {P : Program} {k e : TypeId} {w' : World} {b n : Nat} {ks : List (List UInt8)} {D : DataW Unit} (h2 : Go.Maps.IsMap D) (h3 : ∀ s, D.atKey (.string s) (.lit (.bool false)) = .lit (.bool (decide (s ∈ ks)))) (s : List UInt8)
    (h : w'.ownsMap P k (plainElem P e) b (n + 1) (D.put (.string s) (.lit (.bool true)))) : SetM P k e w' b (n + 1) (ks ++ [s]) := by
  refine ⟨_, h, h2.put _ _, fun u => ?_⟩
  by_cases hu : u = s
  · subst hu
    rw [Go.Maps.atKey_put_same h2 (by trivial)]
    simp
  · rw [Go.Maps.atKey_put_other (by simpa using hu), h3]
    simp [hu]
end Go.Proofs.YtebdfhkimnlglaaDoor
/- BgM -/
namespace Go.Proofs.YtebdfhkimnlglaaDoor
open Go.RowKit
open Go.Maps (Keyed)
set_option linter.unusedVariables false
set_option maxRecDepth 100000
/-- 'map[K]V{k: v}' at the operation: as a store -/
theorem wpList_insert_own {H : Type} {P : Program} (w : World) {ops : Array Oper} {rest : List Oper} {o : Oper} {a : Act} {Q : Exit → Act → World → Prop}
    (hg : o.guard = none) (m x v : Operand) (t : TypeId) (hop : o.op = Op.insert t m x v)
    (k e : TypeId) (K : Keyed P k) (ht : P.underlying t = some (.map k e)) (R : Value → Option (DataW H × List MemPlace)) (b n : Nat) (D : DataW H)
    (hm : a.eval m = .map (some b)) (hown : w.ownsMap P k R b n D) (hn : n < maxLen) (key val : Value) (kl : Lit) (hx : a.eval x = key) (hv : a.eval v = val) (hkey : keyOf P k key = some kl)
    (d : DataW H) (ps : List MemPlace) (hval : R val = some (d, ps))
    (hK : ∀ w', w'.ownsMap P k R b (n + 1) (D.put kl d) → w.grownBy w' (some b) → wpList P ops Q rest (a.put o.dst undef) w') :
    wpList P ops Q (o :: rest) a w := by
  refine wpList_plain hg fun K' hK' => ?_
  obtain ⟨w', hrun, r1, r2⟩ := hown.update K ht hn hkey hval
  unfold Oper.wp
  simp [execOp, hop, hm, hx, hv, hrun, Result.andThen]
  exact hK' _ _ (hK w' r1 r2)
theorem row_not_map {w : World} {lo : Nat} {T : TypeId} {v : Value} {n : Nat} {xs : List Value} {z : Nat} {es : Array MapEntry} {clock : Nat} (h : w.ownsRow lo T 1 v n xs) (hz : v.ownBlock = some z) (hb : w.heap[z]? = some (.map es clock)) : False := by
  rcases h.2 with ⟨hv, _⟩ | ⟨g, cap, cur, hv, _, hg, _⟩
  · rw [hv] at hz; simp [Value.ownBlock] at hz
  · rw [hv] at hz
    simp [Value.ownBlock] at hz
    subst hz
    rw [hg] at hb
    cases hb
theorem SetM.blk {P : Program} {k e : TypeId} {w : World} {b n : Nat} {ks : List (List UInt8)} (h : SetM P k e w b n ks) : ∃ es clock, w.heap[b]? = some (.map es clock) := by
  obtain ⟨D, ⟨es, clock, h1, _⟩, _⟩ := h
  exact ⟨es, clock, h1⟩
theorem Bag.grown {w w' : World} {lo hi : Nat} {L : List Ent} {row : Option Nat} (h : Bag w lo hi L) (hg : w.grownBy w' row) (hne : ∀ e ∈ L, ∀ z, e.v.ownBlock = some z → row ≠ some z) : Bag w' lo hi L :=
  ⟨fun e he => (h.own e he).kept hg (by
    cases hq : e.v.ownBlock with
    | none => exact .inl rfl
    | some z => exact .inr fun g => hne e he z hq g.symm), h.lt, h.ap⟩
/-- a map beside a bag of rows: the one is written, the other stays -/
theorem Bag.grown_map {w w' : World} {lo hi b : Nat} {L : List Ent} {es : Array MapEntry} {clock : Nat} (h : Bag w lo hi L) (hb : w.heap[b]? = some (.map es clock)) (hg : w.grownBy w' (some b)) : Bag w' lo hi L :=
  h.grown hg fun e he z hz hx => by
    injection hx with hx
    subst hx
    exact row_not_map (h.own e he) hz hb
theorem SetM.grown_row {P : Program} {k e : TypeId} {w w' : World} {lo b n m : Nat} {T : TypeId} {v : Value} {xs : List Value} {ks : List (List UInt8)} (h : SetM P k e w b n ks) (ho : w.ownsRow lo T 1 v m xs) (hg : w.grownBy w' v.ownBlock) : SetM P k e w' b n ks := by
  obtain ⟨es, clock, hb⟩ := h.blk
  exact h.kept (hg.block b h.lt fun e => row_not_map ho e.symm hb)
theorem SetM.below {P : Program} {k e : TypeId} {w w' : World} {b n B : Nat} {ks : List (List UInt8)} (h : SetM P k e w b n ks) (hb : Below B w w') (hB : b < B) : SetM P k e w' b n ks := h.kept (hb.block b hB)
theorem SetM.mono {P : Program} {k e : TypeId} {w : World} {b n n' : Nat} {ks : List (List UInt8)} (h : SetM P k e w b n ks) (hn : n ≤ n') : SetM P k e w b n' ks := by
  obtain ⟨D, h1, h2, h3⟩ := h
  exact ⟨D, h1.mono hn, h2, h3⟩
end Go.Proofs.YtebdfhkimnlglaaDoor
/- ConD -/
namespace Go.Proofs.YtebdfhkimnlglaaDoor
open Go.RowKit
open Go.Maps (Keyed)
set_option linter.unusedVariables false
set_option maxRecDepth 100000
/-- an element is read as it stands -/
def heldV (v : Value) : Option (DataW Value × List MemPlace) := some (.held v, [])
def putV (f : List UInt8 → Option Value) (s : List UInt8) (v : Value) (u : List UInt8) : Option Value := if u = s then some v else f u
def delV (f : List UInt8 → Option Value) (s : List UInt8) (u : List UInt8) : Option Value := if u = s then none else f u
theorem putV_same {f : List UInt8 → Option Value} {s : List UInt8} {v : Value} : putV f s v s = some v := if_pos rfl
theorem putV_other {f : List UInt8 → Option Value} {s u : List UInt8} {v : Value} (h : u ≠ s) : putV f s v u = f u := if_neg h
theorem delV_same {f : List UInt8 → Option Value} {s : List UInt8} : delV f s s = none := if_pos rfl
theorem delV_other {f : List UInt8 → Option Value} {s u : List UInt8} (h : u ≠ s) : delV f s u = f u := if_neg h
/-- block b is a map of at most n entries: s holds f s -/
def MapV (P : Program) (k : TypeId) (w : World) (b n : Nat) (f : List UInt8 → Option Value) : Prop :=
  ∃ D : DataW Value, w.ownsMap P k heldV b n D ∧ Go.Maps.IsMap D ∧ (∀ s, Go.Maps.has D (.string s) = (f s).isSome) ∧ ∀ s z, D.atKey (.string s) (.held z) = .held ((f s).getD z)
section
variable {P : Program} {k e t : TypeId} {w w' : World} {b n : Nat} {f : List UInt8 → Option Value}
theorem MapV.made (w : World) (P : Program) (k : TypeId) : MapV P k (w.alloc (.map #[] 0)) w.heap.size 0 (fun _ => none) :=
  ⟨.map [], World.ownsMap_made w P k _, Go.Maps.isMap_empty, fun s => rfl, fun s z => by simp [DataW.atKey]⟩
theorem MapV.lt (h : MapV P k w b n f) : b < w.heap.size := by
  obtain ⟨D, h1, _⟩ := h
  exact h1.lt
theorem MapV.mono {n' : Nat} (h : MapV P k w b n f) (hn : n ≤ n') : MapV P k w b n' f := by
  obtain ⟨D, h1, h2⟩ := h
  exact ⟨D, h1.mono hn, h2⟩
theorem MapV.kept (h : MapV P k w b n f) (hb : w'.heap[b]? = w.heap[b]?) : MapV P k w' b n f := by
  obtain ⟨D, ⟨es, clock, h1, F, hs, hD⟩, h2⟩ := h
  exact ⟨D, ⟨es, clock, hb.trans h1, F, hs, hD⟩, h2⟩
theorem MapV.below {B : Nat} (h : MapV P k w b n f) (hb : Below B w w') (hB : b < B) : MapV P k w' b n f := h.kept (hb.block b hB)
theorem MapV.blk (h : MapV P k w b n f) : ∃ es clock, w.heap[b]? = some (.map es clock) := by
  obtain ⟨D, ⟨es, clock, h1, _⟩, _⟩ := h
  exact ⟨es, clock, h1⟩
theorem MapV.grown_row {lo m : Nat} {T : TypeId} {v : Value} {xs : List Value} (h : MapV P k w b n f) (ho : w.ownsRow lo T 1 v m xs) (hg : w.grownBy w' v.ownBlock) : MapV P k w' b n f := by
  obtain ⟨es, clock, hb⟩ := h.blk
  exact h.kept (hg.block b h.lt fun e => row_not_map ho e.symm hb)
theorem MapV.set_row {lo m : Nat} {T : TypeId} {g j : Nat} {c : Nat} {xs : List Value} (h : MapV P k w b n f) (ho : w.ownsRow lo T 1 (.slice (some ⟨g, 0, none⟩) m c) m xs) (u : Value) : MapV P k (w.setCell ⟨g, j, none⟩ u) b n f := by
  obtain ⟨es, clock, hb⟩ := h.blk
  refine h.kept (Below.heap_setCell w ⟨g, j, none⟩ u b fun e => row_not_map ho (z := b) ?_ hb)
  simp [Value.ownBlock]
  simpa using e.symm
theorem MapV.put {D : DataW Value} (h2 : Go.Maps.IsMap D) (h3 : ∀ s, Go.Maps.has D (.string s) = (f s).isSome) (h4 : ∀ s z, D.atKey (.string s) (.held z) = .held ((f s).getD z)) (s : List UInt8) (v : Value)
    (h : w'.ownsMap P k heldV b (n + 1) (D.put (.string s) (.held v))) : MapV P k w' b (n + 1) (putV f s v) := by
  refine ⟨_, h, h2.put _ _, fun u => ?_, fun u z => ?_⟩
  · by_cases hu : u = s
    · subst hu
      rw [Go.Maps.has_put_same h2 (by trivial), putV_same]
      rfl
    · rw [Go.Maps.has_put_other (by simpa using hu), h3, putV_other hu]
  · by_cases hu : u = s
    · subst hu
      rw [Go.Maps.atKey_put_same h2 (by trivial), putV_same]
      rfl
    · rw [Go.Maps.atKey_put_other (by simpa using hu), h4, putV_other hu]
theorem MapV.del {D : DataW Value} (h2 : Go.Maps.IsMap D) (h3 : ∀ s, Go.Maps.has D (.string s) = (f s).isSome) (h4 : ∀ s z, D.atKey (.string s) (.held z) = .held ((f s).getD z)) (s : List UInt8)
    (h : w'.ownsMap P k heldV b n (D.del (.string s))) : MapV P k w' b n (delV f s) := by
  refine ⟨_, h, h2.del _, fun u => ?_, fun u z => ?_⟩
  · by_cases hu : u = s
    · subst hu
      rw [Go.Maps.has_del_same, delV_same]
      rfl
    · rw [Go.Maps.has_del_other (by simpa using hu), h3, delV_other hu]
  · by_cases hu : u = s
    · subst hu
      rw [Go.Maps.atKey_del_same, delV_same]
      rfl
    · rw [Go.Maps.atKey_del_other (by simpa using hu), h4, delV_other hu]
end
section
variable {P : Program} {w : World} {ops : Array Oper} {rest : List Oper} {o : Oper} {a : Act} {Q : Exit → Act → World → Prop}
/-- 'm[s]' -/
theorem wpList_lookup_V (hg : o.guard = none) (m x : Operand) (t : TypeId) (hop : o.op = Op.lookup t m x false)
    (k e : TypeId) (K : Keyed P k) (ht : P.underlying t = some (.map k e)) {z : Value} (hz : (zeroValue e).run P w = .ok z w) (b n : Nat) (f : List UInt8 → Option Value)
    (hm : a.eval m = .map (some b)) (hown : MapV P k w b n f) (key : Value) (s : List UInt8) (hx : a.eval x = key) (hkey : keyOf P k key = some (.string s))
    (hK : wpList P ops Q rest (a.put o.dst ((f s).getD z)) w) :
    wpList P ops Q (o :: rest) a w := by
  refine wpList_plain hg fun K' hK' => ?_
  obtain ⟨D, hD, _, _, h4⟩ := hown
  obtain ⟨v, ps, hrun, hv⟩ := hD.lookup K ht hz (show heldV z = some (.held z, []) from rfl) hkey
  rw [h4] at hv
  have hv2 : v = (f s).getD z := by
    simp only [heldV, Option.some.injEq, Prod.mk.injEq, DataW.held.injEq] at hv
    exact hv.1
  subst hv2
  unfold Oper.wp
  simp [execOp, hop, hm, hx, hrun, Result.andThen]
  exact hK' _ _ hK
/-- 'v, ok := m[s]' -/
theorem wpList_lookok_V (hg : o.guard = none) (m x : Operand) (t : TypeId) (hop : o.op = Op.lookup t m x true)
    (k e : TypeId) (K : Keyed P k) (ht : P.underlying t = some (.map k e)) {z : Value} (hz : (zeroValue e).run P w = .ok z w) (b n : Nat) (f : List UInt8 → Option Value)
    (hm : a.eval m = .map (some b)) (hown : MapV P k w b n f) (key : Value) (s : List UInt8) (hx : a.eval x = key) (hkey : keyOf P k key = some (.string s))
    (hK : wpList P ops Q rest (a.put o.dst (.tuple #[(f s).getD z, .bool (f s).isSome])) w) :
    wpList P ops Q (o :: rest) a w := by
  refine wpList_plain hg fun K' hK' => ?_
  obtain ⟨D, hD, _, h3, h4⟩ := hown
  obtain ⟨v, ps, hrun, hv⟩ := hD.look_ok K ht hz (show heldV z = some (.held z, []) from rfl) hkey
  rw [h4] at hv
  rw [h3] at hrun
  have hv2 : v = (f s).getD z := by
    simp only [heldV, Option.some.injEq, Prod.mk.injEq, DataW.held.injEq] at hv
    exact hv.1
  subst hv2
  unfold Oper.wp
  simp [execOp, hop, hm, hx, hrun, Result.andThen]
  exact hK' _ _ hK
/-- 'm[s] = v' -/
theorem wpList_put_V (hg : o.guard = none) (m x v : Operand) (t : TypeId) (hop : o.op = Op.mapUpdate t m x v)
    (k e : TypeId) (K : Keyed P k) (ht : P.underlying t = some (.map k e)) (b n : Nat) (f : List UInt8 → Option Value)
    (hm : a.eval m = .map (some b)) (hown : MapV P k w b n f) (hn : n < maxLen) (key val : Value) (s : List UInt8) (hx : a.eval x = key) (hv : a.eval v = val) (hkey : keyOf P k key = some (.string s))
    (hK : ∀ w', MapV P k w' b (n + 1) (putV f s val) → w.grownBy w' (some b) → wpList P ops Q rest (a.put o.dst undef) w') :
    wpList P ops Q (o :: rest) a w := by
  obtain ⟨D, hD, h2, h3, h4⟩ := hown
  exact wpList_mapUpdate_own w hg m x v t hop k e K ht heldV b n D hm hD hn key val (.string s) hx hv hkey (.held val) [] rfl (fun w' ho hgr => hK w' (MapV.put h2 h3 h4 s val ho) hgr)
/-- 'delete(m, s)' -/
theorem wpList_del_V (hg : o.guard = none) (m x : Operand) (t k : TypeId) (hop : o.op = Op.call { callee := Callee.builtin Builtin.delete, args := #[m, x], argTypes := #[t, k] })
    (e : TypeId) (K : Keyed P k) (ht : P.underlying t = some (.map k e)) (b n : Nat) (f : List UInt8 → Option Value)
    (hm : a.eval m = .map (some b)) (hown : MapV P k w b n f) (key : Value) (s : List UInt8) (hx : a.eval x = key) (hkey : keyOf P k key = some (.string s))
    (hK : ∀ w', MapV P k w' b n (delV f s) → w.grownBy w' (some b) → wpList P ops Q rest (a.put o.dst (.tuple #[])) w') :
    wpList P ops Q (o :: rest) a w := by
  obtain ⟨D, hD, h2, h3, h4⟩ := hown
  refine wpList_plain hg fun K' hK' => ?_
  obtain ⟨w', hrun, r1, r2⟩ := hD.drop K ht hkey o.type
  unfold Oper.wp execOp
  simp only [hop, resolve, invoke, builtin, Sem.run_bind, Sem.run_pure, Result.andThen_ok, List.map_toArray, List.map_cons, List.map_nil, hm, hx, hrun]
  exact hK' _ _ (hK w' (MapV.del h2 h3 h4 s r1) r2.grown)
end
end Go.Proofs.YtebdfhkimnlglaaDoor
/- ConH -/
namespace Go.Proofs.YtebdfhkimnlglaaDoor
open Go.RowKit
set_option linter.unusedVariables false
set_option maxRecDepth 100000
/-- the row of the flags in common, the rows of the groups, the map of the groups -/
structure PB (w wq : World) (MB : Nat) (A : Option Addr) (n c : Nat) (al : List Int) (vs : List Value) (G : List (List Int × List Int)) (f : List UInt8 → Option Value) (N : Nat) : Prop where
  bag : Bag wq w.heap.size wq.heap.size (⟨2, .slice A n c, n, al.map (Value.int .i64)⟩ :: rowsE 2 vs (G.map Prod.snd))
  map : MapV Tryd.prog 9 wq MB N f
  vl : vs.length = G.length
  hit : ∀ (j : Nat) (g : List Int × List Int) (v : Value), G[j]? = some g → vs[j]? = some v → f (keyB g.1) = some v
  miss : ∀ s, (∀ g ∈ G, keyB g.1 ≠ s) → f s = none
  bel : Below w.heap.size w wq
  mb : w.heap.size ≤ MB
section
variable {w wq w5 w6 : World} {MB : Nat} {A : Option Addr} {n c : Nat} {al : List Int} {vs : List Value} {G : List (List Int × List Int)} {f : List UInt8 → Option Value} {N : Nat}
theorem PB.hdr (b : PB w wq MB A n c al vs G f N) : Own wq w.heap.size wq.heap.size 2 A n c (al.map (Value.int .i64)) := b.bag.getO (j := 0) rfl
theorem PB.below (b : PB w wq MB A n c al vs G f N) (h : Below wq.heap.size wq w5) : PB w w5 MB A n c al vs G f N :=
  ⟨(b.bag.below h (Nat.le_refl _)).more h.size, b.map.below h b.map.lt, b.vl, b.hit, b.miss, b.bel.trans (h.mono b.bel.size), b.mb⟩
theorem PB.row (b : PB w wq MB A n c al vs G f N) {j : Nat} {v : Value} {g : List Int × List Int} (h1 : vs[j]? = some v) (h2 : G[j]? = some g) : ∃ A1 n1 c1, v = .slice A1 n1 c1 ∧ Own wq w.heap.size wq.heap.size 2 A1 n1 c1 (g.2.map (Value.int .i64)) :=
  b.bag.row (fun e he => List.mem_cons_of_mem _ he) h1 (by rw [List.getElem?_map, h2]; rfl)
/-- one more flag that has what is common -/
theorem PB.flag (b : PB w wq MB A n c al vs G f N) {g6 c6 : Nat} {x : Int} (ho : w6.ownsRow w.heap.size 2 1 (.slice (some ⟨g6, 0, none⟩) (n + 1) c6) (n + 1) (al.map (Value.int .i64) ++ [.int .i64 x])) (hg : wq.grownBy w6 (Value.slice A n c).ownBlock) (hor : A = some ⟨g6, 0, none⟩ ∨ wq.heap.size ≤ g6) :
    PB w w6 MB (some ⟨g6, 0, none⟩) (n + 1) c6 (al ++ [x]) vs G f N := by
  have b4 := b.bag.set (j := 0) (e := ⟨2, .slice A n c, n, al.map (Value.int .i64)⟩) (e' := ⟨2, .slice (some ⟨g6, 0, none⟩) (n + 1) c6, n + 1, al.map (Value.int .i64) ++ [.int .i64 x]⟩) rfl (Nat.le_refl _) ho hg (fun y hy => by
    have hy' : g6 = y := by simpa [Value.ownBlock] using hy
    subst hy'
    rcases hor with h | h
    · left; rw [h]; rfl
    · exact .inr h)
  refine ⟨?_, b.map.grown_row b.hdr.1 hg, b.vl, b.hit, b.miss, b.bel.grown hg b.bel.size (fun y hy => (b.hdr.1.lt y hy).1), b.mb⟩
  rw [List.map_append]
  simpa using b4
/-- a group has got one more flag: its row was appended to, and put into the map -/
theorem PB.app (b : PB w wq MB A n c al vs G f N) {j : Nat} {rest ms : List Int} {A1 : Option Addr} {n1 c1 : Nat} {x : Int} (h1 : vs[j]? = some (.slice A1 n1 c1)) (h2 : G[j]? = some (rest, ms)) (hk : ∀ (t : Nat) (g : List Int × List Int), G[t]? = some g → keyB g.1 = keyB rest → t = j)
    {g5 c5 : Nat} (ho : w5.ownsRow w.heap.size 2 1 (.slice (some ⟨g5, 0, none⟩) (n1 + 1) c5) (n1 + 1) (ms.map (Value.int .i64) ++ [.int .i64 x])) (hg : wq.grownBy w5 (Value.slice A1 n1 c1).ownBlock) (hor : A1 = some ⟨g5, 0, none⟩ ∨ wq.heap.size ≤ g5)
    (hm : MapV Tryd.prog 9 w6 MB (N + 1) (putV f (keyB rest) (.slice (some ⟨g5, 0, none⟩) (n1 + 1) c5))) (hg6 : w5.grownBy w6 (some MB)) :
    PB w w6 MB A n c al (vs.set j (.slice (some ⟨g5, 0, none⟩) (n1 + 1) c5)) (G.set j (rest, ms ++ [x])) (putV f (keyB rest) (.slice (some ⟨g5, 0, none⟩) (n1 + 1) c5)) (N + 1) := by
  have hjl := (List.getElem?_eq_some_iff.1 h2).1
  have h3 : (G.map Prod.snd)[j]? = some ms := by rw [List.getElem?_map, h2]; rfl
  obtain ⟨A2, n2, c2, e, o1⟩ := b.row h1 h2
  injection e with e1 e2 e3
  subst e1 e2 e3
  have hml : ms.length = n1 := by have := o1.lenI; simpa using this
  have b4 := b.bag.set (j := 1 + j) (e := ⟨2, .slice A1 n1 c1, ms.length, ms.map (Value.int .i64)⟩) (e' := ⟨2, .slice (some ⟨g5, 0, none⟩) (n1 + 1) c5, (ms ++ [x]).length, (ms ++ [x]).map (Value.int .i64)⟩) (by rw [Nat.add_comm 1 j, List.getElem?_cons_succ]; exact rowsE_get h1 h3) (Nat.le_refl _) (by rw [List.length_append, List.length_singleton, hml, List.map_append]; exact ho) hg (fun y hy => by
    have hy' : g5 = y := by simpa [Value.ownBlock] using hy
    subst hy'
    rcases hor with h | h
    · left; rw [h]; rfl
    · exact .inr h)
  rw [Nat.add_comm 1 j, List.set_cons_succ, ← rowsE_set] at b4
  have m5 := b.map.grown_row o1.1 hg
  obtain ⟨es, cl, hb⟩ := m5.blk
  have b5 := (b4.grown_map hb hg6).more hg6.size
  have hB := (b.bel.grown hg b.bel.size (fun y hy => (o1.1.lt y hy).1)).grown hg6 (by have := b.bel.size; have := hg.size; omega) (fun y hy => by cases hy; exact b.mb)
  refine ⟨?_, hm, by rw [List.length_set, List.length_set]; exact b.vl, fun t g u ht hu => ?_, fun s hs => ?_, hB, b.mb⟩
  · rw [List.map_set]
    exact b5
  · rw [List.getElem?_set] at ht hu
    by_cases e : j = t
    · subst e
      rw [if_pos rfl, if_pos hjl] at ht
      rw [if_pos rfl, if_pos (by rw [b.vl]; exact hjl)] at hu
      rw [← Option.some.inj ht, ← Option.some.inj hu]
      exact putV_same
    · rw [if_neg e] at ht hu
      rw [putV_other (fun q => e (hk t g ht q).symm)]
      exact b.hit t g u ht hu
  · have hin : (rest, ms ++ [x]) ∈ G.set j (rest, ms ++ [x]) := List.mem_of_getElem? (i := j) (by rw [List.getElem?_set, if_pos rfl, if_pos hjl])
    rw [putV_other (fun q => hs _ hin q.symm)]
    refine b.miss s fun g hgm hq => ?_
    obtain ⟨t, ht⟩ := List.mem_iff_getElem?.1 hgm
    by_cases e : j = t
    · subst e
      rw [h2] at ht
      have := Option.some.inj ht
      subst this
      exact hs _ hin hq
    · exact hs g (List.mem_of_getElem? (i := t) (by rw [List.getElem?_set, if_neg e]; exact ht)) hq
/-- a new group of one flag -/
theorem PB.new (b : PB w wq MB A n c al vs G f N) {rest : List Int} {x : Int} (hk : ∀ g ∈ G, keyB g.1 ≠ keyB rest)
    {g5 c5 : Nat} (ho : w5.ownsRow wq.heap.size 2 1 (.slice (some ⟨g5, 0, none⟩) 1 c5) 1 [.int .i64 x]) (hg : Below wq.heap.size wq w5)
    (hm : MapV Tryd.prog 9 w6 MB (N + 1) (putV f (keyB rest) (.slice (some ⟨g5, 0, none⟩) 1 c5))) (hg6 : w5.grownBy w6 (some MB)) :
    PB w w6 MB A n c al (vs ++ [.slice (some ⟨g5, 0, none⟩) 1 c5]) (G ++ [(rest, [x])]) (putV f (keyB rest) (.slice (some ⟨g5, 0, none⟩) 1 c5)) (N + 1) := by
  have m5 := b.map.below hg b.map.lt
  obtain ⟨es, cl, hb⟩ := m5.blk
  have b2 := b.bag.below hg (Nat.le_refl _)
  have b3 := Bag.ins (P := ⟨2, .slice A n c, n, al.map (Value.int .i64)⟩ :: rowsE 2 vs (G.map Prod.snd)) (Q := []) (e := ⟨2, .slice (some ⟨g5, 0, none⟩) 1 c5, 1, [.int .i64 x]⟩) (hi' := w5.heap.size) (by simpa using b2) b.bel.size hg.size ho (fun z hz => (ho.lt z hz).2)
  have b4 := (b3.grown_map hb hg6).more hg6.size
  have hB := (b.bel.trans (hg.mono b.bel.size)).grown hg6 (by have := b.bel.size; have := hg.size; omega) (fun y hy => by cases hy; exact b.mb)
  have hvl := b.vl
  refine ⟨?_, hm, by simp [hvl], fun t g u ht hu => ?_, fun s hs => ?_, hB, b.mb⟩
  · rw [List.map_append, List.map_cons, List.map_nil, rowsE_snoc (by simpa using hvl)]
    simpa using b4
  · by_cases e : t < G.length
    · rw [List.getElem?_append_left e] at ht
      rw [List.getElem?_append_left (by omega)] at hu
      rw [putV_other (hk g (List.mem_of_getElem? ht))]
      exact b.hit t g u ht hu
    · rw [List.getElem?_append_right (by omega)] at ht
      rw [List.getElem?_append_right (by omega)] at hu
      have ht0 : t - G.length = 0 := by
        rcases Nat.eq_zero_or_pos (t - G.length) with h | h
        · exact h
        · rw [List.getElem?_eq_none (by simp; omega)] at ht; cases ht
      have hu0 : t - vs.length = 0 := by omega
      rw [ht0] at ht
      rw [hu0] at hu
      have ht2 : (rest, [x]) = g := by simpa using ht
      have hu2 : Value.slice (some ⟨g5, 0, none⟩) 1 c5 = u := by simpa using hu
      subst ht2
      subst hu2
      exact putV_same
  · rw [putV_other (fun q => hs (rest, [x]) (by simp) q.symm)]
    exact b.miss s fun g hgm => hs g (List.mem_append_left _ hgm)
end
/-- keys of groups are apart -/
theorem Grps.keys {fl : List (List Int)} {R : Nat} (hf : FlOk R fl) {pr : Nat → Nat → Prop} {N : Nat} {G : List (List Int × List Int)} (h : Grps fl R pr N G) {x i j : Nat} (hx : x < fl.length) {g0 : List Int × List Int} (hj : G[j]? = some g0) (h0 : g0.1 = rsL fl x i) (t : Nat) (g : List Int × List Int) (ht : G[t]? = some g) (e : keyB g.1 = keyB (rsL fl x i)) : t = j := by
  have e2 := (h.key hf (List.mem_of_getElem? ht) hx).1 e
  have h1 : (G.map Prod.fst)[j]? = some (rsL fl x i) := by rw [List.getElem?_map, hj]; simp [h0]
  have h2 : (G.map Prod.fst)[t]? = some (rsL fl x i) := by rw [List.getElem?_map, ht]; simp [e2]
  have hp := List.pairwise_iff_getElem.1 (List.nodup_iff_pairwise_ne.1 h.nd)
  obtain ⟨q1, r1⟩ := List.getElem?_eq_some_iff.1 h1
  obtain ⟨q2, r2⟩ := List.getElem?_eq_some_iff.1 h2
  rcases Nat.lt_trichotomy j t with hlt | hlt | hlt
  · exact absurd (r1.trans r2.symm) (hp j t q1 q2 hlt)
  · exact hlt.symm
  · exact absurd (r2.trans r1.symm) (hp t j q2 q1 hlt)
end Go.Proofs.YtebdfhkimnlglaaDoor
/- Que -/
namespace Go.Proofs.YtebdfhkimnlglaaDoor
open Go.RowKit
set_option linter.unusedVariables false
set_option maxRecDepth 100000
/-- '.slice A n c' holds vs; it lies in a block from lo on; what lies behind it, up to c, may be written -/
def Que (w : World) (lo : Nat) (A : Option Addr) (n c : Nat) (vs : List Value) : Prop :=
  vs.length = n ∧ n ≤ c ∧ c ≤ maxLen ∧ ∃ g o, A = some ⟨g, o, none⟩ ∧ lo ≤ g ∧ g < w.heap.size ∧ (∀ k v, vs[k]? = some v → w.cell? ⟨g, o + k, none⟩ = some v) ∧ (∀ k, k < c → (w.cell? ⟨g, o + k, none⟩).isSome = true) ∧ ∀ k, w.frozen? ⟨g, k, none⟩ = false
section
variable {w w' : World} {lo hi n c : Nat} {T : TypeId} {A : Option Addr} {vs : List Value}
theorem Que.keep (h : Que w lo A n c vs) (hs : ∀ k, lo ≤ k → k < w.heap.size → w'.heap[k]? = w.heap[k]?) (hz : w.heap.size ≤ w'.heap.size) : Que w' lo A n c vs := by
  obtain ⟨h1, h2, h3, g, o, e, h4, h5, h6, h7, h8⟩ := h
  refine ⟨h1, h2, h3, g, o, e, h4, by omega, fun k v hv => ?_, fun k hk => ?_, fun k => ?_⟩
  · exact (World.cell?_of_block (w := w) (a := ⟨g, o + k, none⟩) (hs g h4 h5)).trans (h6 k v hv)
  · rw [World.cell?_of_block (w := w) (a := ⟨g, o + k, none⟩) (hs g h4 h5)]; exact h7 k hk
  · rw [World.frozen?_of_block (w := w) (a := ⟨g, k, none⟩) (hs g h4 h5)]; exact h8 k
theorem Que.far (h : Que w lo A n c vs) {p : Addr} (hp : p.block < lo) (u : Value) : Que (w.setCell p u) lo A n c vs :=
  h.keep (fun k h1 h2 => Below.heap_setCell _ _ _ _ (by omega)) (by simp)
theorem Que.drewN (h : Que w lo A n c vs) (k : Nat) : Que (w.drewN k) lo A n c vs := h
theorem Que.len (h : Que w lo A n c vs) : vs.length = n := h.1
theorem Que.cap (h : Que w lo A n c vs) : n ≤ c := h.2.1
theorem Que.max (h : Que w lo A n c vs) : c ≤ 9223372036854775807 := by have := h.2.2.1; simp only [maxLen] at this; omega
theorem Que.more {lo' : Nat} (h : Que w lo A n c vs) (h' : lo' ≤ lo) : Que w lo' A n c vs := by
  obtain ⟨h1, h2, h3, g, o, e, h4, h5, h6, h7, h8⟩ := h
  exact ⟨h1, h2, h3, g, o, e, by omega, h5, h6, h7, h8⟩
theorem Que.addr (h : Que w lo A n c vs) : ∃ g o, A = some ⟨g, o, none⟩ ∧ lo ≤ g ∧ g < w.heap.size := by
  obtain ⟨_, _, _, g, o, e, h4, h5, _⟩ := h
  exact ⟨g, o, e, h4, h5⟩
theorem Que.cell {g o k : Nat} {v : Value} (h : Que w lo (some ⟨g, o, none⟩) n c vs) (hv : vs[k]? = some v) : w.cell? ⟨g, o + k, none⟩ = some v := by
  obtain ⟨_, _, _, g', o', e, _, _, h6, _⟩ := h
  injection e with e; injection e with e1 e2 _; subst e1; subst e2
  exact h6 k v hv
/-- the first element is cut away -/
theorem Que.pop {g o : Nat} {v : Value} {vs : List Value} {A' : Option Addr} (h : Que w lo (some ⟨g, o, none⟩) (n + 1) c (v :: vs)) (hA : A' = some ⟨g, o + 1, none⟩ ∨ (c = 1 ∧ A' = some ⟨g, o, none⟩)) : Que w lo A' n (c - 1) vs := by
  obtain ⟨h1, h2, h3, g', o', e, h4, h5, h6, h7, h8⟩ := h
  injection e with e; injection e with e1 e2 _; subst e1; subst e2
  simp at h1
  refine ⟨h1, by omega, by omega, ?_⟩
  rcases hA with rfl | ⟨rfl, rfl⟩
  · refine ⟨g, o + 1, rfl, h4, h5, fun k u hu => ?_, fun k hk => ?_, h8⟩
    · rw [show o + 1 + k = o + (k + 1) by omega]; exact h6 (k + 1) u (by simpa using hu)
    · rw [show o + 1 + k = o + (k + 1) by omega]; exact h7 (k + 1) (by omega)
  · have : vs = [] := List.eq_nil_of_length_eq_zero (by omega)
    subst this
    exact ⟨g, o, rfl, h4, h5, fun k u hu => by simp at hu, fun k hk => by omega, h8⟩
theorem Que.of_row {g : Nat} (h : w.ownsRow lo T 1 (.slice (some ⟨g, 0, none⟩) n c) n vs) : Que w lo (some ⟨g, 0, none⟩) n c vs := by
  have hl := h.1
  rcases h.2 with ⟨hv, _⟩ | ⟨g', cap, cur, hv, hb, hg, hnc, hcm, hcs, htake⟩
  · cases hv
  · injection hv with e1 _ e3
    injection e1 with e1
    injection e1 with e1 _ _
    subst e1; subst e3
    refine ⟨by omega, hnc, hcm, g, 0, rfl, hb, (Array.getElem?_eq_some_iff.1 hg).1, fun k v hv => ?_, fun k hk => ?_, fun k => frozen_of_row w g k cur T hg⟩
    · rw [Nat.zero_add, cell_of_row w g k cur T _ hg]
      have hk := (List.getElem?_eq_some_iff.1 hv).1
      rw [← htake, List.getElem?_take_of_lt (by omega)] at hv
      simpa using hv
    · rw [Nat.zero_add, cell_of_row w g k cur T _ hg]
      simp; omega
theorem Que.of_own {g : Nat} (h : Own w lo hi T (some ⟨g, 0, none⟩) n c vs) : Que w lo (some ⟨g, 0, none⟩) n c vs := Que.of_row h.1
end
section
variable {P : Program}
/-- 'append(s, x)' at a queue -/
theorem wpList_appendQ (w : World) {ops : Array Oper} {rest : List Oper} {o : Oper} {a : Act} {Q : Exit → Act → World → Prop} (hgd : o.guard = none) (s x : Operand) (t : TypeId)
    (ho : o.op = .call { callee := .builtin .append, args := #[s, x], argTypes := #[t, t] })
    (lo : Nat) (e : TypeId) (i : TypeInfo) (z : Value) (bytes : Nat) (ht : P.underlying t = some (.slice e)) (hi : P.info? e = some i) (hz : i.zero = some z)
    (hsize : i.size = 1) (hby : i.bytes = bytes) (hzs : z.cells.size = 1) (hbs : bytes ≤ 64)
    (A : Option Addr) (n c : Nat) (vs : List Value) (u : Value) (hs : a.eval s = .slice A n c) (hq : Que w lo A n c vs)
    (N : Nat) (hx : a.eval x = .slice (some ⟨N, 0, none⟩) 1 1) (hN : N = w.heap.size) (h1 : u.oneCell' = true) (h63 : n < 1099511627776) (hlo : lo ≤ w.heap.size)
    (h : ∀ A' c' w', Que w' lo A' (n + 1) c' (vs ++ [u]) → Below lo w w' → wpList P ops Q rest (a.put o.dst (.slice A' (n + 1) c')) w') :
    wpList P ops Q (o :: rest) a (w.alloc (.cells #[u] e)) := by
  subst hN
  refine wpList_plain hgd fun K hK => ?_
  have hnews : ∀ j v, [u][j]? = some v → (w.alloc (.cells #[u] e)).cell? ((⟨w.heap.size, 0, none⟩ : Addr).add j) = some v := by
    intro j v hv
    have : j = 0 := by have := (List.getElem?_eq_some_iff.1 hv).1; simp at this; omega
    subst this
    simp at hv
    subst hv
    simp [Addr.add_lit]
  have hq' : Que (w.alloc (.cells #[u] e)) lo A n c vs := hq.keep (fun k _ hk => Below.heap_alloc _ _ _ hk) (by simp)
  have hb' : Below lo w (w.alloc (.cells #[u] e)) := (Below.refl _ _).alloc hlo _
  obtain ⟨q1, q2, q3, g, off, rfl, q4, q5, q6, q7, q8⟩ := hq'
  by_cases hr : n + 1 ≤ c
  · have hrun := run_append_room_cells (P := P) (w.alloc (.cells #[u] e)) t o.type e i ht hi g off n c ⟨w.heap.size, 0, none⟩ 1 1 [u] (by simp [hsize]) hnews (by simpa using h1) hr
      (fun j hj => by simp at hj; subst hj; rw [hsize]; exact q7 _ (by omega)) (fun j hj => q8 _)
    rw [hsize, Nat.mul_one] at hrun
    unfold Oper.wp execOp
    simp only [ho, resolve, invoke, builtin, Sem.run_bind, Sem.run_pure, Result.andThen_ok, List.map_toArray, List.map_cons, List.map_nil, hs, hx, hrun]
    have hset : (w.alloc (.cells #[u] e)).setCells g (off + n) [u] = (w.alloc (.cells #[u] e)).setCell ⟨g, off + n, none⟩ u := by simp [World.setCells]
    rw [hset]
    have hsome : ((w.alloc (.cells #[u] e)).cell? ⟨g, off + n, none⟩).isSome = true := q7 n (by omega)
    refine hK _ _ (h _ c _ ⟨by simp [q1], hr, q3, g, off, rfl, q4, by simpa using q5, fun k v hv => ?_, fun k hk => ?_, fun k => ?_⟩ (hb'.setCell q4 _))
    · by_cases hk : k < n
      · rw [List.getElem?_append_left (by omega)] at hv
        exact (World.cell?_setCell_other _ _ _ _ (by intro e; injection e with _ e _; omega)).trans (q6 k v hv)
      · have hk2 := (List.getElem?_eq_some_iff.1 hv).1
        simp at hk2
        have e : k = n := by omega
        subst e
        rw [List.getElem?_append_right (by omega)] at hv
        simp [q1] at hv
        subst hv
        exact World.cell?_setCell_same _ _ _ (Option.isSome_iff_exists.1 hsome).choose_spec
    · by_cases e : k = n
      · subst e; rw [World.cell?_setCell_same _ _ _ (Option.isSome_iff_exists.1 hsome).choose_spec]; rfl
      · exact (congrArg Option.isSome (World.cell?_setCell_other _ _ _ _ (by intro e'; injection e' with _ e' _; omega))).trans (q7 k (by omega))
    · rw [World.frozen?_setCell]; exact q8 k
  · obtain ⟨v', w', hrun, r1, r2⟩ := run_append_arg_grows (P := P) (w.alloc (.cells #[u] e)) t o.type e i z 1 bytes ht hi hz hsize hby hzs (by omega) ⟨g, off, none⟩ n c vs (by omega) (fun j v hv => by rw [Addr.add_lit]; exact q6 j v hv)
      ⟨w.heap.size, 0, none⟩ 1 1 [u] rfl hnews (by omega) (by simp only [maxLen]; omega) (by have := Nat.mul_le_mul (show n + 1 ≤ 1099511627776 by omega) hbs; omega)
    obtain ⟨g', c', rfl, hg1, hg2⟩ := slice_of_own r1 (by omega)
    unfold Oper.wp execOp
    simp only [ho, resolve, invoke, builtin, Sem.run_bind, Sem.run_pure, Result.andThen_ok, List.map_toArray, List.map_cons, List.map_nil, hs, hx, hrun]
    refine hK _ _ (h _ c' w' ((Que.of_row r1).more (by simp; omega)) (hb'.grown r2 (by simp; omega) (fun q hq => by cases hq)))
end
end Go.Proofs.YtebdfhkimnlglaaDoor
/- ConI -/
namespace Go.Proofs.YtebdfhkimnlglaaDoor
open Go.RowKit
set_option linter.unusedVariables false
set_option maxRecDepth 100000
/-- a flag that has what is common, and a rank -/
def PrA (fl : List (List Int)) (R : Nat) (c : Nat → Bool) (a x i : Nat) : Prop := Vc fl R c a x ∧ i < R
/-- the flags of the group of x and i are labelled -/
def Rdy (fl : List (List Int)) (R : Nat) (c : Nat → Bool) (a x i : Nat) (ls : List Int) : Prop := ∀ y, Vc fl R c a y → Agr fl R i x y → ls[y]? ≠ some (-1)
/-- so are those of the ranks below k -/
def RdI (fl : List (List Int)) (R : Nat) (c : Nat → Bool) (a x k : Nat) (ls : List Int) : Prop := ∀ i, i < k → Rdy fl R c a x i ls
/-- each group is in the map, or its flags are labelled -/
def GSt (G : List (List Int × List Int)) (vs : List Value) (f : List UInt8 → Option Value) (ls : List Int) : Prop :=
  ∀ (j : Nat) (g : List Int × List Int) (v : Value), G[j]? = some g → vs[j]? = some v → f (keyB g.1) = some v ∨ (f (keyB g.1) = none ∧ ∀ y : Nat, (y : Int) ∈ g.2 → ls[y]? ≠ some (-1))
section
variable {fl : List (List Int)} {R a x i y : Nat} {c : Nat → Bool} {ls : List Int} {f0 : Nat} {G : List (List Int × List Int)} {vs : List Value} {f : List UInt8 → Option Value} {N : Nat}
theorem Rdy.set (h : Rdy fl R c a x i ls) (hy : y < ls.length) : Rdy fl R c a x i (ls.set y (f0 : Int)) := fun u hu ha => ne_set hy (h u hu ha)
theorem RdI.zero : RdI fl R c a x 0 ls := fun i hi => by omega
theorem RdI.set {k : Nat} (h : RdI fl R c a x k ls) (hy : y < ls.length) : RdI fl R c a x k (ls.set y (f0 : Int)) := fun i hi => (h i hi).set hy
theorem RdI.succ {k : Nat} (h : RdI fl R c a x k ls) (h2 : Rdy fl R c a x k ls) : RdI fl R c a x (k + 1) ls := fun i hi => by
  by_cases e : i = k
  · subst e; exact h2
  · exact h i (by omega)
theorem GSt.set (h : GSt G vs f ls) (hy : y < ls.length) : GSt G vs f (ls.set y (f0 : Int)) := fun j g v h1 h2 => by
  rcases h j g v h1 h2 with e | ⟨e, hm⟩
  · exact .inl e
  · exact .inr ⟨e, fun u hu => ne_set hy (hm u hu)⟩
theorem GSt.del (h : GSt G vs f ls) (hf : FlOk R fl) (hG : Grps fl R (PrA fl R c a) N G) (hx : Vc fl R c a x) (hi : i < R) (hr : Rdy fl R c a x i ls) : GSt G vs (delV f (keyB (rsL fl x i))) ls := fun j g v h1 h2 => by
  by_cases e : keyB g.1 = keyB (rsL fl x i)
  · refine .inr ⟨by rw [e]; exact delV_same, fun y hy => ?_⟩
    have hg := List.mem_of_getElem? h1
    have e1 := (hG.key hf hg hx.1).1 e
    obtain ⟨u, k, ⟨hu, hk⟩, e2, e3⟩ := (hG.mem g hg _).1 hy
    obtain rfl : y = u := by omega
    obtain ⟨rfl, hag⟩ := (rsL_eq hf hx.1 hu.1 hi hk).1 (e1.symm.trans e2)
    exact hr y hu hag
  · rw [delV_other e]
    exact h j g v h1 h2
/-- the state of the search amid a part -/
structure PkW (fl : List (List Int)) (R : Nat) (c : Nat → Bool) (a f : Nat) (P : List Nat) (ls : List Int) : Prop where
  lab : LabW (Sc fl R c) (Vc fl R c a) fl.length f P ls
  cnt : wantN ls + P.length ≤ fl.length
theorem PkW.start (d : LabD (Sc fl R c) (Vc fl R c a) fl.length f0 ls) (hv : Vc fl R c a f0) (h : ls[f0]? = some (-1)) : PkW fl R c a f0 [f0] (ls.set f0 (f0 : Int)) := by
  refine ⟨d.start (sv_com fl R c a) hv h, ?_⟩
  have h1 := wantN_set (f := f0) h
  have h2 : wantN ls ≤ ls.length := List.count_le_length
  have h3 := d.len
  simp
  omega
theorem PkW.add {P : List Nat} (hf : FlOk R fl) (w : PkW fl R c a f0 (x :: P) ls) (hi : i < R) (hy : Vc fl R c a y) (hag : Agr fl R i x y) (hl : ls[y]? = some (-1)) : PkW fl R c a f0 (x :: (P ++ [y])) (ls.set y (f0 : Int)) := by
  obtain ⟨p1, p2, p3⟩ := w.lab.pend x (by simp)
  have hc : c i = false := by
    cases hc : c i with
    | false => rfl
    | true =>
      have e := agr_com hf hi hc p1 hy hag
      subst e
      rw [p3] at hl
      injection hl with hl
      omega
  refine ⟨?_, ?_⟩
  · have := w.lab.add (sv_com fl R c a) p1 p2 ⟨p1.1, hy.1, i, hi, hc, hag⟩ hl
    simpa using this
  · have h1 := wantN_set (f := f0) hl
    have := w.cnt
    simp at this ⊢
    omega
theorem PkW.pop {P : List Nat} (w : PkW fl R c a f0 (x :: P) ls) (h : RdI fl R c a x R ls) : PkW fl R c a f0 P ls := by
  obtain ⟨p1, _, _⟩ := w.lab.pend x (by simp)
  refine ⟨w.lab.pop fun y hs => ?_, by have := w.cnt; simp at this; omega⟩
  have hy := (sv_com fl R c a).inn x y p1 hs
  obtain ⟨_, _, i, hi, _, hag⟩ := hs
  exact h i hi y hy hag
theorem PkW.fin (w : PkW fl R c a f0 [] ls) : LabD (Sc fl R c) (Vc fl R c a) fl.length (f0 + 1) ls := w.lab.fin
theorem PkW.head {P : List Nat} (w : PkW fl R c a f0 (x :: P) ls) : Vc fl R c a x := (w.lab.pend x (by simp)).1
/-- what the map gives for a flag and a rank -/
theorem look {wq : World} {lo hi : Nat} {L : List Ent} (hb : Bag wq lo hi L) (hm : ∀ e ∈ rowsE 2 vs (G.map Prod.snd), e ∈ L) (hvl : vs.length = G.length) (hf : FlOk R fl) (hG : Grps fl R (PrA fl R c a) N G) (hS : GSt G vs f ls) (hx : Vc fl R c a x) (hi' : i < R) :
    ∃ A1 n1 c1 ms, (f (keyB (rsL fl x i))).getD (.slice none 0 0) = .slice A1 n1 c1 ∧ RI wq lo hi A1 n1 ms ∧ (∀ z ∈ ms, ∃ y : Nat, z = (y : Int) ∧ Vc fl R c a y ∧ Agr fl R i x y) ∧ ∀ y, Vc fl R c a y → Agr fl R i x y → (y : Int) ∈ ms ∨ ls[y]? ≠ some (-1) := by
  obtain ⟨g, hg, e1⟩ := hG.all x i ⟨hx, hi'⟩
  obtain ⟨j, hj⟩ := List.mem_iff_getElem?.1 hg
  have hjl := (List.getElem?_eq_some_iff.1 hj).1
  have hv : vs[j]? = some (vs[j]'(by omega)) := List.getElem?_eq_getElem _
  have hmem : ∀ y : Nat, (y : Int) ∈ g.2 ↔ Vc fl R c a y ∧ Agr fl R i x y := fun y => by
    rw [hG.mem g hg]
    constructor
    · rintro ⟨u, k, ⟨hu, hk⟩, e2, e3⟩
      obtain rfl : y = u := by omega
      obtain ⟨rfl, hag⟩ := (rsL_eq hf hx.1 hu.1 hi' hk).1 (e1.symm.trans e2)
      exact ⟨hu, hag⟩
    · rintro ⟨hy, hag⟩
      exact ⟨y, i, ⟨hy, hi'⟩, e1.trans ((rsL_eq hf hx.1 hy.1 hi' hi').2 ⟨rfl, hag⟩), rfl⟩
  rcases hS j g _ hj hv with e | ⟨e, hl⟩
  · obtain ⟨A1, n1, c1, e3, o⟩ := hb.row (ys := g.2) hm hv (by rw [List.getElem?_map, hj]; rfl)
    rw [← e1, e]
    refine ⟨A1, n1, c1, g.2, by rw [Option.getD_some]; exact e3, o.ri, fun z hz => ?_, fun y hy hag => .inl ((hmem y).2 ⟨hy, hag⟩)⟩
    obtain ⟨u, k, ⟨hu, hk⟩, e2, e3⟩ := (hG.mem g hg z).1 hz
    subst e3
    exact ⟨u, rfl, (hmem u).1 hz⟩
  · rw [← e1, e]
    exact ⟨none, 0, 0, [], rfl, RI.nil, fun z hz => by simp at hz, fun y hy hag => .inr (hl y ((hmem y).2 ⟨hy, hag⟩))⟩
/-- the members of a group are labelled one by one; behind the last one the group is -/
theorem rdy_of {ms : List Int} {n1 : Nat} (hn : ms.length = n1) (hJ : StJ ms n1 ls) (hall : ∀ y, Vc fl R c a y → Agr fl R i x y → (y : Int) ∈ ms ∨ ls[y]? ≠ some (-1)) : Rdy fl R c a x i ls := fun y hy hag => by
  rcases hall y hy hag with h | h
  · have := hJ _ (by rw [List.take_of_length_le (by omega)]; exact h)
    rwa [Int.toNat_natCast] at this
  · exact h
end
/-- the memory of the search: the rows of the build, the map, the row of the labels -/
structure SB (w0 wq : World) (lo B hi MB lb n cl : Nat) (ls : List Int) (L : List Ent) (N : Nat) (f : List UInt8 → Option Value) : Prop where
  bag : Bag wq B hi L
  map : MapV Tryd.prog 9 wq MB N f
  lab : Own wq lo B 2 (some ⟨lb, 0, none⟩) n cl (ls.map (Value.int .i64))
  bel : Below w0.heap.size w0 wq
  o1 : w0.heap.size ≤ lo
  o2 : B ≤ MB
  o3 : MB < hi
  o4 : hi ≤ wq.heap.size
  o5 : lo ≤ lb
  o6 : lb < B
section
variable {w0 wq w2 : World} {lo B hi MB lb n cl : Nat} {ls : List Int} {L : List Ent} {N : Nat} {f f2 : List UInt8 → Option Value}
theorem SB.below {S : Nat} (s : SB w0 wq lo B hi MB lb n cl ls L N f) (h : Below S wq w2) (hS : hi ≤ S) : SB w0 w2 lo B hi MB lb n cl ls L N f :=
  ⟨s.bag.below h hS, s.map.below h (by have := s.o3; omega), s.lab.below h (by have := s.o2; have := s.o3; omega), s.bel.trans (h.mono (by have := s.o1; have := s.o2; have := s.o3; have := s.o5; have := s.o6; omega)), s.o1, s.o2, s.o3, Nat.le_trans s.o4 h.size, s.o5, s.o6⟩
theorem SB.store (s : SB w0 wq lo B hi MB lb n cl ls L N f) (x : Nat) (u : Int) : SB w0 (wq.setCell ⟨lb, x, none⟩ (.int .i64 u)) lo B hi MB lb n cl (ls.set x u) L N f :=
  ⟨s.bag.keep (same_set _ _ _ _ _ (.inl s.o6)), s.map.kept (Below.heap_setCell _ _ _ _ (by have := s.o2; have := s.o6; show MB ≠ lb; omega)), s.lab.setI u, s.bel.setCell (p := ⟨lb, x, none⟩) (by have := s.o1; have := s.o5; show w0.heap.size ≤ lb; omega) _, s.o1, s.o2, s.o3, by rw [World.size_setCell]; exact s.o4, s.o5, s.o6⟩
theorem SB.del (s : SB w0 wq lo B hi MB lb n cl ls L N f) (hm : MapV Tryd.prog 9 w2 MB N f2) (hg : wq.grownBy w2 (some MB)) : SB w0 w2 lo B hi MB lb n cl ls L N f2 := by
  obtain ⟨es, cl, hb⟩ := s.map.blk
  have h1 := s.o1
  have h2 := s.o2
  have h3 := s.o3
  have h4 := s.o4
  have h5 := s.o5
  have h6 := s.o6
  refine ⟨s.bag.grown_map hb hg, hm, s.lab.keep (same_grown hg (by omega) (fun y hy => by cases hy; right; exact h2)), s.bel.grown hg (by omega) (fun y hy => by cases hy; omega), h1, h2, h3, Nat.le_trans h4 hg.size, h5, h6⟩
theorem que_del {lo' : Nat} {A : Option Addr} {m c' : Nat} {vs : List Value} (q : Que wq lo' A m c' vs) (hg : wq.grownBy w2 (some MB)) (h : MB < lo') : Que w2 lo' A m c' vs :=
  q.keep (fun k h1 h2 => hg.block k h2 (by intro e; cases e; omega)) hg.size
end
end Go.Proofs.YtebdfhkimnlglaaDoor
/- DfP -/
namespace Go.Proofs.YtebdfhkimnlglaaDoor
set_option linter.unusedVariables false
set_option maxRecDepth 100000
def ofRk (r : Int) (ps : List Int) (i : Int) : List Int := if inR 0 (r - 1) i = true then plc ps i ps.length else [-1]
def inBl (xss : List (List Int)) (e f : Int) : Bool := decide (e ∈ xss.getD f.toNat [])
def skipEF (xss : List (List Int)) (e f : Int) : Bool := decide (0 ≤ e) && (decide (0 ≤ f) && !inBl xss e f)
def midB (xss : List (List Int)) (e f d : Int) : Bool := (decide (e < 0) || inBl xss e d) && (decide (f < 0) || inBl xss d f)
def cntM (xss : List (List Int)) (e f : Int) (mid : List Int) : Nat := (mid.filter (midB xss e f)).length
def dfAt (xss : List (List Int)) (mid : List Int) (i e f : Int) : Option (List Int) := if skipEF xss e f = true then none else if cntM xss e f mid = 2 then none else some [i, e, f]
def dfE (r : Int) (ps : List Int) (xss : List (List Int)) (i e : Int) : Option (List Int) := (ofRk r ps (i + 1)).findSome? (dfAt xss (ofRk r ps i) i e)
def dfI (r : Int) (ps : List Int) (xss : List (List Int)) (i : Int) : Option (List Int) := (ofRk r ps (i - 1)).findSome? (dfE r ps xss i)
def rngI (k : Nat) : List Int := (List.range k).map Int.ofNat
def df (r : Int) (ps : List Int) (xss : List (List Int)) : Option (List Int) := (rngI r.toNat).findSome? (dfI r ps xss)
noncomputable def dfF (r : Int) (ps : List Int) (xss : List (List Int)) : List Int × Int := if isPosB r ps xss = true then ((df r ps xss).getD [], if (df r ps xss).isNone = true then 4 else 0) else ([], 1)
theorem rngI_succ (k : Nat) : rngI (k + 1) = rngI k ++ [(k : Int)] := by unfold rngI; rw [List.range_succ, List.map_append]; rfl
theorem rngI_mem {k : Nat} {x : Int} : x ∈ rngI k ↔ 0 ≤ x ∧ x < k := by
  unfold rngI
  simp only [List.mem_map, List.mem_range]
  constructor
  · rintro ⟨j, hj, rfl⟩
    constructor
    · exact Int.natCast_nonneg j
    · exact Int.ofNat_lt.2 hj
  · rintro ⟨h0, h1⟩
    exact ⟨x.toNat, by omega, Int.toNat_of_nonneg h0⟩
section
variable {α β : Type}
theorem fs_snoc {f : α → Option β} {l : List α} {x : α} (h : l.findSome? f = none) : (l ++ [x]).findSome? f = f x := by
  rw [List.findSome?_append, h]
  simp
theorem fs_take {f : α → Option β} {l : List α} {k : Nat} {x : α} (h : (l.take k).findSome? f = none) (hx : l[k]? = some x) : (l.take (k + 1)).findSome? f = f x := by
  rw [take_succ_of hx]
  exact fs_snoc h
theorem fs_pre {f : α → Option β} {a b : List α} {y : β} (h : a.findSome? f = some y) : (a ++ b).findSome? f = some y := by
  rw [List.findSome?_append, h]
  rfl
theorem fs_hit {f : α → Option β} {l : List α} {k : Nat} {x : α} {y : β} (h : (l.take k).findSome? f = none) (hx : l[k]? = some x) (hy : f x = some y) : l.findSome? f = some y := by
  rw [← List.take_append_drop (k + 1) l]
  exact fs_pre ((fs_take h hx).trans hy)
theorem fs_filter {f : α → Option β} {p : α → Bool} : ∀ l : List α, (l.filter p).findSome? f = l.findSome? fun x => if p x = true then f x else none
  | [] => rfl
  | x :: l => by
    rw [List.filter_cons]
    by_cases h : p x = true
    · rw [if_pos h, List.findSome?_cons, List.findSome?_cons, if_pos h, fs_filter l]
    · rw [if_neg h, List.findSome?_cons, if_neg h, fs_filter l]
end
theorem rngI_hit {f : Int → Option (List Int)} {k n : Nat} {y : List Int} (h : (rngI k).findSome? f = none) (hk : k < n) (hy : f k = some y) : (rngI n).findSome? f = some y := by
  refine fs_hit (k := k) (x := (k : Int)) ?_ ?_ hy
  · unfold rngI at *
    rw [← List.map_take, List.take_range, Nat.min_eq_left (by omega)]
    exact h
  · unfold rngI
    simp [hk]
theorem ofRk_rng {r : Int} {ps : List Int} {i x : Int} (h : x ∈ ofRk r ps i) : x = -1 ∨ (0 ≤ x ∧ x < (ps.length : Nat) ∧ ps.getD x.toNat 0 = i) := by
  unfold ofRk at h
  split at h
  · right
    obtain ⟨h0, h1, h2⟩ := plc_mem.1 h
    exact ⟨h0, h1, h2.symm⟩
  · left
    simpa using h
theorem ofRk_le (r : Int) (ps : List Int) (i : Int) : (ofRk r ps i).length ≤ ps.length + 1 := by
  unfold ofRk
  split
  · have := plc_le ps i ps.length; omega
  · simp
/-- the numbers from -1 on -/
def rngM (k : Nat) : List Int := (List.range k).map fun (s : Nat) => (s : Int) - 1
theorem rngM_succ (k : Nat) : rngM (k + 1) = rngM k ++ [(k : Int) - 1] := by unfold rngM; rw [List.range_succ, List.map_append]; rfl
theorem rngM_hit {f : Int → Option (List Int)} {k n : Nat} {y : List Int} (h : (rngM k).findSome? f = none) (hk : k < n) (hy : f ((k : Int) - 1) = some y) : (rngM n).findSome? f = some y := by
  refine fs_hit (k := k) (x := (k : Int) - 1) ?_ ?_ hy
  · unfold rngM at *
    rw [← List.map_take, List.take_range, Nat.min_eq_left (by omega)]
    exact h
  · unfold rngM
    simp [hk]
def gE (ps : List Int) (z j e : Int) : Bool := !((decide (e < 0) != decide (z = 0)) || (decide (0 ≤ e) && !decide (ps.getD e.toNat 0 = j)))
theorem rngM_cons (n : Nat) : rngM (n + 1) = -1 :: rngI n := by
  unfold rngM rngI
  rw [List.range_succ_eq_map, List.map_cons, List.map_map]
  congr 1
  refine List.map_congr_left (fun s _ => ?_)
  simp
/-- the candidates of the reference: z is 0 exactly if the rank j is none -/
theorem cand_eq {r : Int} {ps : List Int} {z j : Int} (hz : z = 0 ↔ ¬ (0 ≤ j ∧ j ≤ r - 1)) : (rngM (ps.length + 1)).filter (gE ps z j) = ofRk r ps j := by
  rw [rngM_cons]
  unfold ofRk
  by_cases h0 : z = 0
  · have hj := hz.1 h0
    rw [if_neg (by rw [inR_iff]; exact hj), List.filter_cons, if_pos (by simp [gE, h0])]
    congr 1
    rw [List.filter_eq_nil_iff]
    intro x hx
    have := (rngI_mem.1 hx).1
    simp only [gE, h0]
    have : ¬ x < 0 := by omega
    simp [this]
  · have hj : 0 ≤ j ∧ j ≤ r - 1 := by
      rcases Classical.em (0 ≤ j ∧ j ≤ r - 1) with h | h
      · exact h
      · exact absurd (hz.2 h) h0
    rw [if_pos (by rw [inR_iff]; exact hj), List.filter_cons, if_neg (by simp [gE, h0])]
    unfold rngI plc
    rw [List.filter_map]
    congr 1
    refine List.filter_congr (fun s _ => ?_)
    simp only [Function.comp, gE, h0]
    have h1 : ¬ (Int.ofNat s < 0) := by have := Int.natCast_nonneg s; simp; 
    have h2 : (0 : Int) ≤ Int.ofNat s := Int.natCast_nonneg s
    rw [decide_eq_false h1, decide_eq_true h2]
    simp [eq_comm]
end Go.Proofs.YtebdfhkimnlglaaDoor
/- CntP -/
namespace Go.Proofs.YtebdfhkimnlglaaDoor
set_option linter.unusedVariables false
set_option maxRecDepth 100000
open Classical
theorem list_rev {P : List Int → Prop} (h0 : P []) (hs : ∀ t x, P t → P (t ++ [x])) : ∀ l, P l := by
  have key : ∀ (n : Nat) (l : List Int), l.length = n → P l := by
    intro n
    induction n with
    | zero => intro l hl; rw [List.eq_nil_of_length_eq_zero hl]; exact h0
    | succ n ih =>
      intro l hl
      rcases List.eq_nil_or_concat l with rfl | ⟨t, x, rfl⟩
      · exact h0
      · rw [List.concat_eq_append] at hl ⊢
        exact hs t x (ih t (by simpa using hl))
  exact fun l => key l.length l rfl
/-- one more than the greatest of some numbers -/
def grt (l : List Int) : Int := l.foldl (fun m x => if m ≤ x then x + 1 else m) 0
theorem grt_snoc (l : List Int) (x : Int) : grt (l ++ [x]) = if grt l ≤ x then x + 1 else grt l := by unfold grt; rw [List.foldl_append]; rfl
theorem grt_nonneg (l : List Int) : (∀ x ∈ l, 0 ≤ x) → 0 ≤ grt l := by
  refine list_rev (P := fun l => (∀ x ∈ l, 0 ≤ x) → 0 ≤ grt l) (fun _ => Int.le_refl _) (fun t x ih h => ?_) l
  have := ih (fun y hy => h y (by simp [hy]))
  have := h x (by simp)
  rw [grt_snoc]
  split <;> omega
theorem grt_lt (l : List Int) : ∀ x ∈ l, x < grt l := by
  refine list_rev (P := fun l => ∀ x ∈ l, x < grt l) (fun x hx => by simp at hx) (fun t y ih x hx => ?_) l
  rw [grt_snoc]
  rcases List.mem_append.1 hx with hx | hx
  · have := ih x hx
    split <;> omega
  · simp at hx
    subst hx
    split <;> omega
theorem grt_mem (l : List Int) : grt l = 0 ∨ grt l - 1 ∈ l := by
  refine list_rev (P := fun l => grt l = 0 ∨ grt l - 1 ∈ l) (.inl rfl) (fun t y ih => ?_) l
  rw [grt_snoc]
  split
  · right; simp
  · rcases ih with ih | ih
    · exact .inl ih
    · right; simp [ih]
theorem lab_lt {list : List (List Int)} {n x : Nat} (hs : SysOf list n) (hx : x < n) : labOf list x < cntR list n := by
  have hr := rootB_rootOf hs hx
  have hle := rootOf_le list x
  have h1 := cntR_mono list (show rootOf list x + 1 ≤ n by omega)
  rw [cntR_succ, if_pos hr] at h1
  unfold labOf
  omega
theorem lab_top {list : List (List Int)} : ∀ n : Nat, cntR list n = 0 ∨ ∃ x : Nat, x < n ∧ labOf list x = (cntR list n : Int) - 1 := by
  intro n
  induction n with
  | zero => left; simp [cntR]
  | succ n ih =>
    rw [cntR_succ]
    by_cases hr : rootB list n = true
    · rw [if_pos hr]
      right
      refine ⟨n, by omega, ?_⟩
      have hroot : rootOf list n = n := rootOf_eq Rch.refl (fun j hj hh => root_iff.1 hr ⟨j, hj, hh⟩)
      unfold labOf
      rw [hroot]
      omega
    · rw [if_neg hr, Nat.add_zero]
      rcases ih with ih | ⟨x, h1, h2⟩
      · exact .inl ih
      · exact .inr ⟨x, by omega, h2⟩
/-- the greatest label and one -/
theorem grt_lab {list : List (List Int)} {n : Nat} (hs : SysOf list n) : grt (labL list n) = (cntR list n : Int) := by
  have hmem : ∀ v ∈ labL list n, ∃ x : Nat, x < n ∧ v = labOf list x := by
    intro v hv
    obtain ⟨x, hx, rfl⟩ := List.mem_map.1 hv
    exact ⟨x, List.mem_range.1 hx, rfl⟩
  have h0 := grt_nonneg (labL list n) (fun v hv => by obtain ⟨x, _, rfl⟩ := hmem v hv; exact labOf_nonneg list x)
  have hle : grt (labL list n) ≤ (cntR list n : Int) := by
    rcases grt_mem (labL list n) with e | e
    · rw [e]; omega
    · obtain ⟨x, hx, e⟩ := hmem _ e
      have := lab_lt hs hx
      omega
  have hge : (cntR list n : Int) ≤ grt (labL list n) := by
    rcases lab_top (list := list) n with e | ⟨x, hx, e⟩
    · rw [e]; exact h0
    · have := grt_lt (labL list n) (labOf list x) (List.mem_map.2 ⟨x, List.mem_range.2 hx, rfl⟩)
      omega
  omega
/-- the numbers of faces -/
noncomputable def cntsL (xss : List (List Int)) (n : Nat) : List Int := (List.range xss.length).map fun i => (cntR (xss.eraseIdx i) n : Int)
theorem cntsL_length (xss : List (List Int)) (n : Nat) : (cntsL xss n).length = xss.length := by simp [cntsL]
theorem cntsL_get {xss : List (List Int)} {n k : Nat} (h : k < xss.length) : (cntsL xss n)[k]? = some (cntR (xss.eraseIdx k) n : Int) := by simp [cntsL, h]
/-- the alternating sum -/
def eulGo (l : List Int) (k : Nat) : Int := (List.range k).foldl (fun (s : Int) (i : Nat) => if i % 2 = 0 then s + l.getD i 0 else s - l.getD i 0) (0 : Int)
theorem eulGo_succ (l : List Int) (k : Nat) : eulGo l (k + 1) = if k % 2 = 0 then eulGo l k + l.getD k 0 else eulGo l k - l.getD k 0 := by unfold eulGo; rw [List.range_succ, List.foldl_append]; rfl
theorem eulGo_bound {l : List Int} {B : Int} (hB : 0 ≤ B) (h : ∀ x ∈ l, -B ≤ x ∧ x ≤ B) : ∀ k : Nat, -(B * k) ≤ eulGo l k ∧ eulGo l k ≤ B * k := by
  intro k
  induction k with
  | zero => simp [eulGo]
  | succ k ih =>
    have hx : -B ≤ l.getD k 0 ∧ l.getD k 0 ≤ B := by
      by_cases hk : k < l.length
      · exact h _ (mem_of_get? (get?_getD 0 hk))
      · rw [show l.getD k 0 = 0 by simp [List.getD, show l.length ≤ k by omega]]; omega
    rw [eulGo_succ]
    have e : B * ((k + 1 : Nat) : Int) = B * k + B := by rw [Int.natCast_add, Int.mul_add]; simp
    rw [e]
    split <;> omega
theorem cntR_le_n {list : List (List Int)} (n : Nat) : cntR list n ≤ n := by
  unfold cntR
  have := List.length_filter_le (rootB list) (List.range n)
  simpa using this
end Go.Proofs.YtebdfhkimnlglaaDoor
/- TwP -/
namespace Go.Proofs.YtebdfhkimnlglaaDoor
set_option linter.unusedVariables false
set_option maxRecDepth 100000
noncomputable def offs (xss : List (List Int)) (N : Nat) : Nat → Nat
  | 0 => 0
  | i + 1 => offs xss N i + cntR (xss.eraseIdx i) N
noncomputable def labI (xss : List (List Int)) (i f : Nat) : Int := labOf (xss.eraseIdx i) f
/-- the elements of the face poset that the flag f has, of the ranks below k -/
noncomputable def allF (xss : List (List Int)) (N k f : Nat) : List Int := (List.range k).map fun i => ((offs xss N i : Nat) : Int) + labI xss i f
theorem allF_succ (xss : List (List Int)) (N k f : Nat) : allF xss N (k + 1) f = allF xss N k f ++ [((offs xss N k : Nat) : Int) + labI xss k f] := by unfold allF; rw [List.range_succ, List.map_append]; rfl
theorem allF_length (xss : List (List Int)) (N k f : Nat) : (allF xss N k f).length = k := by simp [allF]
theorem allF_get {xss : List (List Int)} {N k f i : Nat} (h : i < k) : (allF xss N k f)[i]? = some (((offs xss N i : Nat) : Int) + labI xss i f) := by simp [allF, h]
theorem offs_le (xss : List (List Int)) (N : Nat) : ∀ k, offs xss N k ≤ k * N := by
  intro k
  induction k with
  | zero => simp [offs]
  | succ k ih =>
    have := cntR_le (xss.eraseIdx k) N
    simp only [offs, Nat.succ_mul]
    omega
noncomputable def midF (xss : List (List Int)) (N i f j : Nat) : List Int := if j < f then allF xss N (i + 1) j else allF xss N i j
theorem midF_set {xss : List (List Int)} {N i f : Nat} (hf : f < N) : ((List.range N).map (midF xss N i f)).set f (allF xss N (i + 1) f) = (List.range N).map (midF xss N i (f + 1)) := by
  apply List.ext_getElem?
  intro j
  rw [List.getElem?_set]
  by_cases e : f = j
  · subst e
    rw [if_pos rfl, if_pos (by simpa using hf)]
    simp [hf, midF]
  · rw [if_neg e]
    by_cases hj : j < N
    · simp only [List.getElem?_map, List.getElem?_range hj, Option.map_some]
      congr 1
      unfold midF
      by_cases h : j < f
      · rw [if_pos h, if_pos (by omega)]
      · rw [if_neg h, if_neg (by omega)]
    · rw [List.getElem?_eq_none (by simp; omega), List.getElem?_eq_none (by simp; omega)]
noncomputable def sameF (xss : List (List Int)) (k f g : Nat) : Bool := (List.range k).all fun i => decide (labI xss i f = labI xss i g)
theorem sameF_iff {xss : List (List Int)} {k f g : Nat} : sameF xss k f g = true ↔ ∀ i, i < k → labI xss i f = labI xss i g := by
  unfold sameF
  rw [List.all_eq_true]
  constructor
  · intro h i hi; exact of_decide_eq_true (h i (List.mem_range.2 hi))
  · intro h i hi; exact decide_eq_true (h i (List.mem_range.1 hi))
theorem sameF_succ (xss : List (List Int)) (k f g : Nat) : sameF xss (k + 1) f g = (sameF xss k f g && decide (labI xss k f = labI xss k g)) := by
  unfold sameF
  rw [List.range_succ, List.all_append]
  simp
theorem allF_eq (xss : List (List Int)) (N k f g : Nat) : decide (allF xss N k f = allF xss N k g) = sameF xss k f g := by
  cases h : sameF xss k f g with
  | true =>
    apply decide_eq_true
    unfold allF
    refine List.map_congr_left (fun i hi => ?_)
    rw [sameF_iff.1 h i (List.mem_range.1 hi)]
  | false =>
    apply decide_eq_false
    intro he
    have : sameF xss k f g = true := sameF_iff.2 (fun i hi => by
      have h1 := allF_get (xss := xss) (N := N) (f := f) hi
      rw [he, allF_get hi] at h1
      have := Option.some.inj h1
      omega)
    rw [h] at this
    cases this
noncomputable def twG (xss : List (List Int)) (k : Nat) (f g : Int) : Option (List Int) := if f < g ∧ sameF xss k f.toNat g.toNat = true then some [f, g] else none
noncomputable def twR (xss : List (List Int)) (k N : Nat) (f : Int) : Option (List Int) := (rngI N).findSome? (twG xss k f)
noncomputable def tw (xss : List (List Int)) (k N : Nat) : Option (List Int) := (rngI N).findSome? (twR xss k N)
noncomputable def twF (xss : List (List Int)) : List Int × Int := if isManB xss = true then ((tw xss xss.length (flg xss)).getD [], if (tw xss xss.length (flg xss)).isNone = true then 4 else 0) else ([], 1)
theorem twG_start (xss : List (List Int)) (k : Nat) (f : Nat) : (rngI (f + 1)).findSome? (twG xss k (f : Int)) = none := by
  rw [List.findSome?_eq_none_iff]
  intro x hx
  have := rngI_mem.1 hx
  unfold twG
  rw [if_neg]
  rintro ⟨h, _⟩
  omega
theorem twG_step {xss : List (List Int)} {k f g : Nat} (h : (rngI g).findSome? (twG xss k (f : Int)) = none) (hfg : f < g) (hs : sameF xss k f g = false) : (rngI (g + 1)).findSome? (twG xss k (f : Int)) = none := by
  rw [rngI_succ, fs_snoc h]
  unfold twG
  rw [if_neg]
  rintro ⟨_, h2⟩
  rw [Int.toNat_natCast, Int.toNat_natCast, hs] at h2
  cases h2
theorem tw_hit {xss : List (List Int)} {k N f g : Nat} (h : (rngI f).findSome? (twR xss k N) = none) (h2 : (rngI g).findSome? (twG xss k (f : Int)) = none) (hfg : f < g) (hg : g < N) (hs : sameF xss k f g = true) : tw xss k N = some [(f : Int), (g : Int)] := by
  unfold tw
  refine rngI_hit h (by omega) ?_
  unfold twR
  refine rngI_hit h2 hg ?_
  unfold twG
  rw [if_pos ⟨by omega, by rw [Int.toNat_natCast, Int.toNat_natCast]; exact hs⟩]
theorem tw_next {xss : List (List Int)} {k N f : Nat} (h : (rngI f).findSome? (twR xss k N) = none) (h2 : (rngI N).findSome? (twG xss k (f : Int)) = none) : (rngI (f + 1)).findSome? (twR xss k N) = none := by
  rw [rngI_succ, fs_snoc h]
  exact h2
end Go.Proofs.YtebdfhkimnlglaaDoor
/- Tw -/
namespace Go.Proofs.YtebdfhkimnlglaaDoor
open Go.RowKit
set_option linter.unusedVariables false
set_option maxRecDepth 100000
set_option maxHeartbeats 400000 in
theorem equal_q (A : Option Addr) (n c : Nat) (xs : List Int) (A' : Option Addr) (n' c' : Nat) (ys : List Int) (w : World) (lo hi lo' hi' : Nat) (h : RI w lo hi A n xs) (h' : RI w lo' hi' A' n' ys) (hhi : hi ≤ w.heap.size) (hhi' : hi' ≤ w.heap.size) :
    Calls Tryd.prog 48 #[.slice A n c, .slice A' n' c'] w fun e w' => e = .returned (.bool (decide (xs = ys))) ∧ ∃ m, w' = w.drewN m := by
  have hm := h.max
  have hm' := h'.max
  have hl := h.len
  have hl' := h'.len
  replace hl := Lib.hid hl
  replace hl' := Lib.hid hl'
  by_cases hne : n = n'
  · subst hne
    go_enter Tryd.func48, Tryd.ntmps48
    go_wp2
    go_loopw [13] (fun i wr => ∃ k : Nat, k ≤ n ∧ i = .int .i64 k ∧ (∀ j, j < k → xs[j]? = ys[j]?) ∧ (∃ m, wr = w.drewN m)) (fun i wr => n - (intOf i).toNat)
    case atStart => exact ⟨0, by omega, rfl, fun j hj => absurd hj (by omega), 0, rfl⟩
    case round =>
      obtain ⟨k, hk, rfl, hys, md, hmd⟩ := hrel
      have hb : Below w.heap.size w wr := by rw [hmd]; exact below_drewN (Below.refl _ _) _
      replace hmd := Lib.hid hmd
      replace hys := Lib.hid hys
      by_cases hlt : k < n
      · obtain ⟨b, o, x, rfl, _, _, hx, hc⟩ := (h.below hb hhi).at_ hlt
        obtain ⟨b', o', y, rfl, _, _, hy, hc'⟩ := (h'.below hb hhi').at_ hlt
        replace hx := Lib.hid hx
        replace hy := Lib.hid hy
        by_cases hxy : x = y
        · subst hxy
          go_wp2
          go_quiet (fail)
          go_wp2
          go_roundw
          case rel =>
            refine ⟨k + 1, by omega, by go_num, fun j hj => ?_, md + nq, by rw [hmd.out, World.drewN_drewN]⟩
            by_cases e : j = k
            · subst e; rw [hx.out, hy.out]
            · exact hys.out j (by omega)
          case measure => simp [intOf]; omega
        · have hxy' : (x != y) = true := by simpa using hxy
          go_wp2
          go_quiet (fail)
          go_wp2
          go_ret
          refine ⟨ret_bool ?_, md + nq, by rw [hmd.out, World.drewN_drewN]⟩
          have hx := hx.out
          have hy := hy.out
          symm
          apply decide_eq_false
          rintro rfl
          rw [hx] at hy
          exact hxy (Option.some.inj hy)
      · go_wp2
        go_ret
        refine ⟨ret_bool ?_, md, hmd.out⟩
        have hl := hl.out
        have hl' := hl'.out
        symm
        apply decide_eq_true
        exact list_ext_upto k (by omega) (by omega) hys.out
  · have hne' : ((n : Int) != (n' : Int)) = true := by simp; omega
    go_enter Tryd.func48, Tryd.ntmps48
    go_wp2
    go_ret
    refine ⟨ret_bool ?_, 0, rfl⟩
    have hl := hl.out
    have hl' := hl'.out
    symm
    apply decide_eq_false
    rintro rfl
    omega

theorem equal_any (A : Option Addr) (n c : Nat) (xs : List Int) (A' : Option Addr) (n' c' : Nat) (ys : List Int) (w : World) (lo hi lo' hi' : Nat) (h : RI w lo hi A n xs) (h' : RI w lo' hi' A' n' ys) (hhi : hi ≤ w.heap.size) (hhi' : hi' ≤ w.heap.size) :
    Calls Tryd.prog 48 #[.slice A n c, .slice A' n' c'] w fun e w' => e = .returned (.bool (decide (xs = ys))) ∧ Below w.heap.size w w' :=
  (equal_q A n c xs A' n' c' ys w lo hi lo' hi' h h' hhi hhi').mono fun e w' ⟨he, m, hm⟩ => ⟨he, by rw [hm]; exact below_drewN (Below.refl _ _) _⟩

end Go.Proofs.YtebdfhkimnlglaaDoor
/- ConJ -/
namespace Go.Proofs.YtebdfhkimnlglaaDoor
open Go.RowKit
open Go.Maps (Keyed string_keyed)
set_option linter.unusedVariables false
set_option maxRecDepth 100000
theorem keyM : Keyed Tryd.prog 9 := string_keyed Tryd.underlying9
theorem keyM_of (L : List UInt8) (h : L.length ≤ 1099511627776) : keyOf Tryd.prog 9 (.string (strB L)) = some (.string L) := by
  have := Go.WideMaps.keyOf_string_mk (P := Tryd.prog) (k := 9) Tryd.underlying9 (s := strB L) (by rw [strB_size]; unfold maxLen; omega)
  rwa [strB_data] at this
/-- a queue of flags as values -/
def qvL (P : List Nat) : List Value := (ptsL P).map (Value.int .i64)
theorem qvL_snoc (P : List Nat) (u : Nat) : qvL P ++ [.int .i64 (u : Int)] = qvL (P ++ [u]) := by simp [qvL]
theorem qvL_one (u : Nat) : [Value.int .i64 (u : Int)] = qvL [u] := rfl
theorem StJ.set {ms ls : List Int} {t y : Nat} {f : Nat} (h : StJ ms t ls) (hy : y < ls.length) : StJ ms t (ls.set y (f : Int)) := fun z hz => ne_set hy (h z hz)
theorem StJ.succ {ms ls : List Int} {t y : Nat} (h : StJ ms t ls) (ht : ms[t]? = some (y : Int)) (hy : ls[y]? ≠ some (-1)) : StJ ms (t + 1) ls := fun z hz => by
  rw [List.take_add_one, ht] at hz
  rcases List.mem_append.1 hz with hz | hz
  · exact h z hz
  · have e : z = (y : Int) := by simpa using hz
    subst e
    rwa [Int.toNat_natCast]
theorem set_ne {ls : List Int} {y f : Nat} (hy : y < ls.length) : (ls.set y (f : Int))[y]? ≠ some (-1) := by
  rw [set_get hy, if_pos rfl]
  intro e
  injection e with e
  omega
theorem zeroS (w : World) : (zeroValue 22).run Tryd.prog w = .ok (.slice none 0 0) w := by kernel_rfl
section
variable {P : Program} {w : World} {ops : Array Oper} {rest : List Oper} {o : Oper} {a : Act} {Q : Exit → Act → World → Prop}
/-- 'm[s]', its value known -/
theorem wpList_lookup_Vv (hg : o.guard = none) (m x : Operand) (t : TypeId) (hop : o.op = Op.lookup t m x false)
    (k e : TypeId) (K : Keyed P k) (ht : P.underlying t = some (.map k e)) {z : Value} (hz : (zeroValue e).run P w = .ok z w) (b n : Nat) (f : List UInt8 → Option Value)
    (hm : a.eval m = .map (some b)) (hown : MapV P k w b n f) (key : Value) (s : List UInt8) (hx : a.eval x = key) (hkey : keyOf P k key = some (.string s)) (v : Value) (hv : (f s).getD z = v)
    (hK : wpList P ops Q rest (a.put o.dst v) w) :
    wpList P ops Q (o :: rest) a w := by
  subst hv
  exact wpList_lookup_V hg m x t hop k e K ht hz b n f hm hown key s hx hkey hK
end
theorem PB.start (w : World) : PB w (w.alloc (.map #[] 0)) w.heap.size none 0 0 [] [] [] (fun _ => none) 0 := by
  refine ⟨?_, MapV.made w _ _, rfl, fun j g v h1 h2 => by simp at h1, fun s h => rfl, (Below.refl _ _).alloc (Nat.le_refl _) _, Nat.le_refl _⟩
  refine ⟨fun e he => ?_, fun e he z hz => ?_, ?_⟩
  · simp [rowsE] at he
    subst he
    exact World.ownsRow_nil _ _ _ _
  · simp [rowsE] at he
    subst he
    simp [Value.ownBlock] at hz
  · simp [rowsE]
theorem bag_rows {L : List Ent} {vs : List Value} {G : List (List Int × List Int)} {e0 : Ent} (e : L = e0 :: rowsE 2 vs (G.map Prod.snd)) : ∀ e ∈ rowsE 2 vs (G.map Prod.snd), e ∈ L := fun x hx => by rw [e]; exact List.mem_cons_of_mem _ hx
set_option maxHeartbeats 16000000 in
theorem partsWith_any (fl : List (List Int)) (R : Nat) (hf : FlOk R fl) (cf : Nat → Bool) (a : Nat) (ha : a < fl.length) (cm : List Int) (hcm : IsCom fl R cf a cm) (A : Option Addr) (c : Nat) (A' : Option Addr) (c' : Nat) (w : World) {lo hi lo' hi' : Nat} (h : RS w lo hi A fl.length fl) (hhi : hi ≤ w.heap.size) (h' : RI w lo' hi' A' R cm) (hhi' : hi' ≤ w.heap.size) {B : Nat} (hT : T10 B w) (hB : B ≤ w.heap.size) :
    Calls Tryd.prog 35 #[.slice A fl.length c, .slice A' R c'] w fun e w' => ∃ (A1 : Option Addr) (c1 : Nat) (ls : List Int), e = .returned (.slice A1 fl.length c1) ∧ Hid (LabD (Sc fl R cf) (Vc fl R cf a) fl.length fl.length ls) ∧ Own w' w.heap.size w'.heap.size 2 A1 fl.length c1 (ls.map (Value.int .i64)) ∧ Below w.heap.size w w' := by
  obtain ⟨j0, hj0, hy0, hy1, hy2⟩ := info_parts infoI
  obtain ⟨n, hnn⟩ : ∃ n, fl.length = n := ⟨_, rfl⟩
  have hn4 := hf.n4
  have hR5 := hf.r5
  have hmm := @run_makeMap Tryd.prog
  have hlen : ∀ t ∈ fl, t.length = R := hf.len
  have hRest := fun (x i : Nat) (W : World) (hx : x < fl.length) (hi1 : i < R) (hBW : Below w.heap.size w W) (hCW : W.cell? ⟨w.heap.size, 0, none⟩ = some (.slice A fl.length c)) => restOf_any fl R hf x i hx hi1 w.heap.size A c W (h.below hBW hhi) (Nat.le_trans hhi hBW.size) hCW (hT.on (hBW.mono hB)) (Nat.le_trans hB hBW.size)
  have hKy := fun (x i : Nat) (hx : x < fl.length) => keyM_of (keyB (rsL fl x i)) (by have h1 := keyB_len (rsL_small hf i hx); rw [rsL_len hf i hx] at h1; omega)
  have hVc := fun (x : Nat) (hx : x < fl.length) => com_iff hf hcm ha hx
  have hm := h.max
  have hg0 : Grps fl R (fun x i => x < 0 ∧ PrA fl R cf a x i) 0 [] := (Grps.nil fl R).congr fun x i => ⟨fun h => h.elim, fun h => absurd h.1 (by omega)⟩
  have ha0 : ([] : List Nat) = allN fl R cf a 0 := by simp [allN]
  have hd0 := (LabD.zero (sv_com fl R cf a)).up (f' := nxN fl R cf a 0) fun x hx hlt => (nxN_zero hx hlt).elim
  rw [hnn] at ha hn4 hm h hRest hKy hVc hd0 ⊢
  have hR' : cm.length = R := hcm.1
  replace hf := Lib.hid hf
  replace hnn := Lib.hid hnn
  replace hlen := Lib.hid hlen
  replace hVc := Lib.hid hVc
  replace hRest := Lib.hid hRest
  replace hKy := Lib.hid hKy
  replace hg0 := Lib.hid hg0
  replace ha0 := Lib.hid ha0
  replace hd0 := Lib.hid hd0
  replace hR' := Lib.hid hR'
  replace hcm := Lib.hid hcm
  have hm' := h'.max
  go_enter Tryd.func35, Tryd.ntmps35
  go_wp2_with fail
  have hC0 : (w.alloc (.cells #[.slice A n c] 23)).cell? ⟨w.heap.size, 0, none⟩ = some (.slice A n c) := al_new _ _ _ _ rfl
  have hB0 : Below w.heap.size w (w.alloc (.cells #[.slice A n c] 23)) := (Below.refl _ _).alloc (Nat.le_refl _) _
  obtain ⟨W1, hW⟩ : ∃ W1 : World, w.alloc (.cells #[.slice A n c] 23) = W1 := ⟨_, rfl⟩
  have zE : W1.heap.size = w.heap.size + 1 := by rw [← hW]; simp
  have zW : w.heap.size < W1.heap.size := by omega
  have hri := ri_lit1 W1 2 (-1)
  rw [zE] at hri
  have hrs : w.heap.size + 1 + 1 ≤ (W1.alloc (.cells #[.int .i64 (-1)] 2)).heap.size := by simp [zE]
  rw [hW] at hC0 hB0 ⊢
  clear hW zE
  ((with_reducible refine (repeat_any _ _ n (-1) _ hri hrs (by omega)).mono ?_); rintro e w1 ⟨A1, rfl, o1, f1⟩)
  clear hri hrs
  have f1' : Below W1.heap.size W1 w1 := ((Below.refl _ _).alloc (Nat.le_refl _) _).trans (f1.mono (by simp))
  have hB1 : Below w.heap.size w w1 := hB0.trans (f1'.mono (by omega))
  replace o1 : Own w1 W1.heap.size w1.heap.size 2 A1 n n ((List.replicate n (-1 : Int)).map (Value.int .i64)) := o1.more (by simp) (Nat.le_refl _)
  have zz1 := f1'.size
  have zz2 : w.heap.size ≤ w1.heap.size := by omega
  have hC1 : w1.cell? ⟨w.heap.size, 0, none⟩ = some (.slice A n c) := (f1'.cell (p := ⟨w.heap.size, 0, none⟩) (by simp; omega)).trans hC0
  clear f1
  have st0 := PB.start w1
  have hC2 := (st0.bel.cell (p := ⟨w.heap.size, 0, none⟩) (by simp; omega)).trans hC1
  go_wp2_with fail
  obtain ⟨W2, hW⟩ : ∃ W2 : World, w1.alloc (.map #[] 0) = W2 := ⟨_, rfl⟩
  rw [hW] at st0 hC2 ⊢
  clear hW
  have yb2 := st0.bel.size
  ((with_reducible refine (sizeS_any A n c _ (by omega)).mono ?_); rintro e wz ⟨rfl, rfl⟩)
  go_wp2_with fail
  clear hC2
  go_loopw [8, 27] (fun av fv wq => ∃ (m : Nat) (A3 : Option Addr) (c3 : Nat) (al : List Nat) (vs : List Value) (G : List (List Int × List Int)) (f : List UInt8 → Option Value) (N : Nat), av = .slice A3 al.length c3 ∧ fv = .int .i64 m ∧ m ≤ n ∧ N ≤ 5 * m ∧ al.length ≤ m ∧ Hid (al = allN fl R cf a m) ∧ Hid (Grps fl R (fun x i => x < m ∧ PrA fl R cf a x i) N G) ∧ PB w1 wq w1.heap.size A3 al.length c3 (ptsL al) vs G f N) (fun _ fv _ => n - (intOf fv).toNat)
  case atStart => exact ⟨0, none, 0, [], [], [], _, 0, rfl, rfl, by omega, by omega, by simp, ha0, hg0, st0⟩
  case round =>
    clear st0 ha0 hg0 yb2
    obtain ⟨m, A3, c3, al, vs, G, f, N, rfl, rfl, hmn, hN5, hal, hA, hG, hP⟩ := hrel
    have yq := hP.bel.size
    have hBw := hB1.trans (hP.bel.mono zz2)
    have hCw := (hP.bel.cell (p := ⟨w.heap.size, 0, none⟩) (by simp; omega)).trans hC1
    by_cases hlt : m < n
    · obtain ⟨b, o, Am, nm, cm2, t, rfl, _, hbo, ht, htc, htr⟩ := (h.below hBw hhi).at_ hlt
      have hnm : R = nm := by have := htr.len; have := hlen.out t (mem_of_get? ht); omega
      subst hnm
      have hgd : fl.getD m [] = t := by rw [List.getD_eq_getElem?_getD, ht]; rfl
      have hcv := hVc.out m hlt
      rw [hgd] at hcv
      have m0 : (0 : Int) ≤ (m : Int) := by omega
      have m1 : (m : Int) < (n : Int) := by omega
      have hCo := commonOf_any A' R c' cm Am cm2 t wr (h'.below hBw hhi') (by omega) htr (by omega) (by omega)
      replace ht := Lib.hid ht
      replace hgd := Lib.hid hgd
      go_wp2_with fail
      ((with_reducible refine hCo.mono ?_); rintro e w5 ⟨A5, c5, rfl, o5, f5⟩)
      clear hCo
      have y5 := f5.size
      have hP5 := hP.below f5
      have hE := equal_any A5 R c5 (cmL cm t) A' R c' cm w5 _ _ _ _ o5.ri (h'.below (hBw.trans (f5.mono (by omega))) hhi') (Nat.le_refl _) (by omega)
      clear o5 f5
      go_wp2_with fail
      ((with_reducible refine hE.mono ?_); rintro e w6 ⟨rfl, f6⟩)
      clear hE
      have hP6 := hP5.below f6
      have y6 := f6.size
      clear hP hP5 f6 htc htr
      by_cases hv : Vc fl R cf a m
      · rw [decide_eq_true (hcv.2 hv)]
        have hz6 : w1.heap.size ≤ w6.heap.size := hP6.bel.size
        have hG7 : Hid (Grps fl R (fun x k => (x < m ∧ PrA fl R cf a x k) ∨ (x = m ∧ k < 0)) N G) := Lib.hid (hG.out.congr fun x i => ⟨fun q => .inl q, fun q => q.elim id (fun q => absurd q.2 (by omega))⟩)
        replace hcv := Lib.hid hcv
        replace hv := Lib.hid hv
        clear hG
        go_wp2_with (at_builtin; refine wpList_append1 w6 rfl (.tmp 39) (.tmp 41) 22 rfl w1.heap.size 2 j0 (.int .i64 0) 8 Tryd.underlying22 hj0 hy0 hy1 hy2 rfl (by omega) A3 al.length c3 _ (.int .i64 m) rfl hP6.hdr.1 _ rfl rfl rfl (by omega) hz6 ?_)
        intro g7 c7 w7 ho7 hg7 hlo7 hlt7 hor7
        rw [← List.map_map] at ho7
        have hP7 := hP6.flag (x := (m : Int)) ho7 hg7 hor7
        clear hP6 ho7 hg7 hor7 hlo7
        have hA2 : Hid (al ++ [m] = allN fl R cf a (m + 1)) := Lib.hid (by rw [(allN_succ m).1 hv.out, hA.out])
        clear hA hCw hBw yq
        rename World => v8
        go_wp2_with fail
        go_loopw [45] (fun iv wq => ∃ (i : Nat) (vs : List Value) (G : List (List Int × List Int)) (f : List UInt8 → Option Value) (N : Nat), iv = .int .i64 i ∧ i ≤ R ∧ N ≤ 5 * m + i ∧ Hid (Grps fl R (fun x k => (x < m ∧ PrA fl R cf a x k) ∨ (x = m ∧ k < i)) N G) ∧ PB w1 wq w1.heap.size (some ⟨g7, 0, none⟩) (al.length + 1) c7 (ptsL al ++ [(m : Int)]) vs G f N) (fun iv _ => R - (intOf iv).toNat)
        case atStart => exact ⟨0, vs, G, f, N, rfl, by omega, by omega, hG7, hP7⟩
        case round =>
          clear hP7 hG7 hN5
          obtain ⟨i, vs, G, f, N, rfl, hiR, hN5, hG, hP⟩ := hrel
          have yq := hP.bel.size
          have hBw := hB1.trans (hP.bel.mono zz2)
          have hCw := (hP.bel.cell (p := ⟨w.heap.size, 0, none⟩) (by simp; omega)).trans hC1
          by_cases hi : i < R
          · have hltf : m < fl.length := by rw [hnn.out]; exact hlt
            have hK := hKy.out m i hlt
            have hRs := hRest.out m i wr hlt hi hBw hCw
            obtain ⟨ky, hky⟩ : ∃ ky, keyB (rsL fl m i) = ky := ⟨_, rfl⟩
            rw [hky] at hK hRs
            have i0 : (0 : Int) ≤ (i : Int) := by omega
            have i1 : (i : Int) < (R : Int) := by omega
            replace hky := Lib.hid hky
            replace hltf := Lib.hid hltf
            go_wp2_with fail
            ((with_reducible refine hRs.mono ?_); rintro e w5 ⟨rfl, f5⟩)
            clear hRs
            have hP5 := hP.below f5
            have y5 := f5.size
            have z5 := hP5.bel.size
            clear hP f5 hCw hBw
            have hNm : N < maxLen := by unfold maxLen; omega
            by_cases hit : ∃ g ∈ G, g.1 = rsL fl m i
            · obtain ⟨⟨g1, ms⟩, hg, hg1⟩ := hit
              obtain ⟨j, hj⟩ := List.mem_iff_getElem?.1 hg
              obtain rfl : g1 = rsL fl m i := hg1
              have hjl := (List.getElem?_eq_some_iff.1 hj).1
              obtain ⟨vj, hvj⟩ : ∃ v, vs[j]? = some v := ⟨vs[j]'(by have := hP5.vl; omega), List.getElem?_eq_getElem _⟩
              obtain ⟨A9, n9, c9, e9, o9⟩ := hP5.row hvj hj
              rw [e9] at hvj
              have hml : ms.length ≤ N := hG.out.mlen _ hg
              have hn9 : ms.length = n9 := o9.lenI
              have hlk : (f ky).getD (.slice none 0 0) = .slice A9 n9 c9 := by rw [← hky.out, hP5.hit j _ _ hj hvj]; rfl
              have hks := Lib.hid (hG.out.keys hf.out hltf.out hj rfl)
              have hG2 : Hid (Grps fl R (fun x k => (x < m ∧ PrA fl R cf a x k) ∨ (x = m ∧ k < i + 1)) (N + 1) (G.set j (rsL fl m i, ms ++ [(m : Int)]))) := Lib.hid ((hG.out.app hltf.out hi hj).congr fun x k => by
                constructor
                · rintro ((q | ⟨q1, q2⟩) | ⟨q1, q2⟩)
                  · exact .inl q
                  · exact .inr ⟨q1, by omega⟩
                  · exact .inr ⟨q1, by omega⟩
                · rintro (q | ⟨q1, q2⟩)
                  · exact .inl (.inl q)
                  · by_cases e : k = i
                    · exact .inr ⟨q1, e⟩
                    · exact .inl (.inr ⟨q1, by omega⟩))
              have hn9b : n9 < 1099511627776 := by omega
              replace hj := Lib.hid hj
              replace hvj := Lib.hid hvj
              replace hg := Lib.hid hg
              replace hn9 := Lib.hid hn9
              clear e9 hjl hml hG
              go_wp2_with (first | (at_lookup; refine wpList_lookup_Vv rfl _ _ 54 rfl 9 22 keyM Tryd.underlying54 (zeroS _) w1.heap.size N f rfl hP5.map _ ky rfl hK _ hlk ?_) | (at_builtin; refine wpList_append1 w5 rfl (.tmp 56) (.tmp 58) 22 rfl w1.heap.size 2 j0 (.int .i64 0) 8 Tryd.underlying22 hj0 hy0 hy1 hy2 rfl (by omega) A9 n9 c9 _ (.int .i64 m) rfl o9.1 _ rfl rfl rfl hn9b z5 ?_))
              intro g9 c10 w9 ho9 hg9 hlo9 hlt9 hor9
              have hm9 := hP5.map.grown_row o9.1 hg9
              go_wp2_with (at_mapUpdate; refine wpList_put_V rfl _ _ _ 54 rfl 9 22 keyM Tryd.underlying54 w1.heap.size N f rfl hm9 hNm _ _ ky rfl rfl hK ?_)
              intro w10 hm10 hg10
              rw [← hky.out] at hm10
              have hP10 := hP5.app hvj.out hj.out hks.out ho9 hg9 hor9 hm10 hg10
              clear hP5 ho9 hg9 hor9 hm9 hm10 hg10 hlk o9 hlo9
              go_wp2_with fail
              go_roundw
              case measure => simp [intOf] <;> omega
              case rel => exact ⟨i + 1, _, _, _, N + 1, by go_num, by omega, by omega, hG2, hP10⟩
            · have hno : ∀ g ∈ G, g.1 ≠ rsL fl m i := fun g hg e => hit ⟨g, hg, e⟩
              have hnk : ∀ g ∈ G, keyB g.1 ≠ keyB (rsL fl m i) := fun g hg e => hno g hg ((hG.out.key hf.out hg hltf.out).1 e)
              have hlk : (f ky).getD (.slice none 0 0) = .slice none 0 0 := by rw [← hky.out, hP5.miss _ hnk]; rfl
              have hG2 : Hid (Grps fl R (fun x k => (x < m ∧ PrA fl R cf a x k) ∨ (x = m ∧ k < i + 1)) (N + 1) (G ++ [(rsL fl m i, [(m : Int)])])) := Lib.hid ((hG.out.new hltf.out hi hno).congr fun x k => by
                constructor
                · rintro ((q | ⟨q1, q2⟩) | ⟨q1, q2⟩)
                  · exact .inl q
                  · exact .inr ⟨q1, by omega⟩
                  · exact .inr ⟨q1, by omega⟩
                · rintro (q | ⟨q1, q2⟩)
                  · exact .inl (.inl q)
                  · by_cases e : k = i
                    · exact .inr ⟨q1, e⟩
                    · exact .inl (.inr ⟨q1, by omega⟩))
              have on := World.ownsRow_nil w5 w5.heap.size 2 1
              replace hno := Lib.hid hno
              replace hnk := Lib.hid hnk
              replace hit := Lib.hid hit
              clear hG
              go_wp2_with (first | (at_lookup; refine wpList_lookup_Vv rfl _ _ 54 rfl 9 22 keyM Tryd.underlying54 (zeroS _) w1.heap.size N f rfl hP5.map _ ky rfl hK _ hlk ?_) | (at_builtin; refine wpList_append1 w5 rfl (.tmp 56) (.tmp 58) 22 rfl w5.heap.size 2 j0 (.int .i64 0) 8 Tryd.underlying22 hj0 hy0 hy1 hy2 rfl (by omega) none 0 0 [] (.int .i64 m) rfl on _ rfl rfl rfl (by omega) (Nat.le_refl _) ?_))
              intro g9 c10 w9 ho9 hg9 hlo9 hlt9 hor9
              have f9 : Below w5.heap.size w5 w9 := below_of_grown hg9 (Nat.le_refl _) (fun k hk => by simp [Value.ownBlock] at hk)
              have hm9 := hP5.map.below f9 hP5.map.lt
              go_wp2_with (at_mapUpdate; refine wpList_put_V rfl _ _ _ 54 rfl 9 22 keyM Tryd.underlying54 w1.heap.size N f rfl hm9 hNm _ _ ky rfl rfl hK ?_)
              intro w10 hm10 hg10
              rw [← hky.out] at hm10
              have hP10 := hP5.new hnk.out ho9 f9 hm10 hg10
              clear hP5 ho9 hg9 hor9 hm9 hm10 hg10 hlk f9 on hlo9
              go_wp2_with fail
              go_roundw
              case measure => simp [intOf] <;> omega
              case rel => exact ⟨i + 1, _, _, _, N + 1, by go_num, by omega, by omega, hG2, hP10⟩
          · obtain rfl : i = R := by omega
            have hG2 : Hid (Grps fl i (fun x k => x < m + 1 ∧ PrA fl i cf a x k) N G) := Lib.hid (hG.out.congr fun x k => by
              constructor
              · rintro (⟨q1, q2⟩ | ⟨q1, q2⟩)
                · exact ⟨by omega, q2⟩
                · subst q1; exact ⟨by omega, hv.out, q2⟩
              · rintro ⟨q1, q2⟩
                by_cases e : x = m
                · exact .inr ⟨e, q2.2⟩
                · exact .inl ⟨by omega, q2⟩)
            have hP2 : PB w1 wr w1.heap.size (some ⟨g7, 0, none⟩) (al ++ [m]).length c7 (ptsL (al ++ [m])) vs G f N := by
              have e : ptsL (al ++ [m]) = ptsL al ++ [(m : Int)] := by simp
              rw [e, List.length_append, List.length_singleton]
              exact hP
            clear hG hP
            go_wp2_with fail
            go_roundw
            case measure => simp [intOf] <;> omega
            case rel => exact ⟨m + 1, _, c7, al ++ [m], vs, G, f, N, by simp, by go_num, by omega, by omega, by simp; omega, hA2, hG2, hP2⟩
      · rw [decide_eq_false (fun q => hv (hcv.1 q))]
        have hA2 : Hid (al = allN fl R cf a (m + 1)) := Lib.hid (by rw [(allN_succ m).2 hv]; exact hA.out)
        have hG2 : Hid (Grps fl R (fun x i => x < m + 1 ∧ PrA fl R cf a x i) N G) := Lib.hid (hG.out.congr fun x i => ⟨fun q => ⟨by omega, q.2⟩, fun q => ⟨by
          have : x ≠ m := fun e => hv (e ▸ q.2.1)
          omega, q.2⟩⟩)
        replace hcv := Lib.hid hcv
        clear hA hG
        go_wp2_with fail
        go_roundw
        case measure => simp [intOf] <;> omega
        case rel => exact ⟨m + 1, A3, c3, al, vs, G, f, N, rfl, by go_num, by omega, by omega, by omega, hA2, hG2, hP6⟩
    · obtain rfl : n = m := by omega
      have hGF : Hid (Grps fl R (PrA fl R cf a) N G) := Lib.hid (hG.out.congr fun x i => ⟨fun q => q.2, fun q => ⟨by have := q.1.1; have := hnn.out; omega, q⟩⟩)
      have hAL : Hid (al = allN fl R cf a fl.length) := Lib.hid (by rw [hnn.out]; exact hA.out)
      have o1w := o1.below hP.bel (Nat.le_refl _)
      obtain ⟨lb, v0, rfl, hlb0, hlb1, -, -, -, -, -⟩ := o1w.at_ (k := 0) (by omega)
      have s0 : SB W1 wr W1.heap.size w1.heap.size wr.heap.size w1.heap.size lb n n (List.replicate n (-1)) (⟨2, .slice A3 al.length c3, al.length, (ptsL al).map (Value.int .i64)⟩ :: rowsE 2 vs (G.map Prod.snd)) N f :=
        ⟨hP.bag, hP.map, o1w, f1'.trans (hP.bel.mono zz1), Nat.le_refl _, Nat.le_refl _, hP.map.lt, Nat.le_refl _, hlb0, hlb1⟩
      obtain ⟨L, hL⟩ : ∃ L : List Ent, ⟨2, .slice A3 al.length c3, al.length, (ptsL al).map (Value.int .i64)⟩ :: rowsE 2 vs (G.map Prod.snd) = L := ⟨_, rfl⟩
      have hL0 : Hid (L[0]? = some ⟨2, .slice A3 al.length c3, al.length, (ptsL al).map (Value.int .i64)⟩) := Lib.hid (by rw [← hL]; rfl)
      have hLr := Lib.hid (bag_rows hL.symm)
      have hvl := Lib.hid hP.vl
      have hS0 : Hid (GSt G vs f (List.replicate n (-1))) := Lib.hid (fun j g v h1 h2 => .inl (hP.hit j g v h1 h2))
      rw [hL] at s0
      obtain ⟨hiB, hhB⟩ : ∃ q, wr.heap.size = q := ⟨_, rfl⟩
      rw [hhB] at s0
      clear hL hP hA hG o1 o1w hhB hBw hCw yq hC1
      go_wp2_with fail
      go_loopw [64] (fun kv wq => ∃ (k : Nat) (ls : List Int) (f : List UInt8 → Option Value), kv = .int .i64 k ∧ k ≤ al.length ∧ Hid (LabD (Sc fl R cf) (Vc fl R cf a) n (nxN fl R cf a k) ls) ∧ Hid (GSt G vs f ls) ∧ SB W1 wq W1.heap.size w1.heap.size hiB w1.heap.size lb n n ls L N f) (fun kv _ => al.length - (intOf kv).toNat)
      case atStart => exact ⟨0, _, f, rfl, by omega, hd0, hS0, s0⟩
      case round =>
        clear hd0 hS0 s0
        obtain ⟨k, ls, f, rfl, hk, hD, hS, hSB⟩ := hrel
        have q4 := hSB.o4
        by_cases hkl : k < al.length
        · obtain ⟨x, hx⟩ : ∃ x, al[k]? = some x := ⟨al[k], List.getElem?_eq_getElem hkl⟩
          have hxA : (allN fl R cf a fl.length)[k]? = some x := by rw [← hAL.out]; exact hx
          have hxv : Vc fl R cf a x := (allN_mem.1 (List.mem_of_getElem? hxA)).2
          have hxn : x < n := by have := hxv.1; have := hnn.out; omega
          have hnx := nxN_at hxA
          have hdl := hD.out.len
          obtain ⟨v, hv⟩ : ∃ v, ls[x]? = some v := ⟨ls[x]'(by omega), List.getElem?_eq_getElem (by omega)⟩
          have hneg := hD.out.neg hxv hv
          obtain ⟨b3, v3, rfl, -, -, -, hv3, -, hc3, -⟩ := (hSB.bag.getO hL0.out).at_ (k := k) hkl
          obtain rfl : v3 = .int .i64 (x : Int) := by rw [List.getElem?_map, List.getElem?_map, hx] at hv3; exact (Option.some.inj hv3).symm
          have hcl := hSB.lab.cellI hv
          have hfz := hSB.lab.frz x
          have x0 : (0 : Int) ≤ (x : Int) := by omega
          have x1 : (x : Int) < (n : Int) := by omega
          have k0 : (0 : Int) ≤ (k : Int) := by omega
          have k1 : (k : Int) < (al.length : Int) := by omega
          replace hx := Lib.hid hx
          replace hxA := Lib.hid hxA
          replace hxv := Lib.hid hxv
          replace hnx := Lib.hid hnx
          clear hv3
          by_cases hv0 : 0 ≤ v
          · have hD2 : Hid (LabD (Sc fl R cf) (Vc fl R cf a) n (nxN fl R cf a (k + 1)) ls) := Lib.hid (by
              have h1 := hD.out
              rw [hnx.out] at h1
              exact (h1.skip (fun _ e => by have := hneg.2 e; omega)).up (fun y hy hl => nxN_step hxA.out hy hl))
            replace hneg := Lib.hid hneg
            replace hv := Lib.hid hv
            replace hdl := Lib.hid hdl
            clear hD
            go_wp2_with fail
            go_roundw
            case measure => simp [intOf] <;> omega
            case rel => exact ⟨k + 1, ls, f, by go_num, by omega, hD2, hS, hSB⟩
          · have hls := hneg.1 (by omega)
            have hxl : x < ls.length := by omega
            have hD1 := hD.out
            rw [hnx.out] at hD1
            have hW0 := PkW.start (by rw [hnn.out]; exact hD1) hxv.out hls
            have hS1 := Lib.hid (hS.out.set (y := x) (f0 := x) hxl)
            have s1 := hSB.store x (x : Int)
            have hcn := hW0.cnt
            rw [hnn.out] at hcn
            have hcn2 : Hid (wantN (ls.set x (x : Int)) + [x].length ≤ n) := Lib.hid hcn
            replace hW0 := Lib.hid hW0
            replace hls := Lib.hid hls
            replace hneg := Lib.hid hneg
            replace hv := Lib.hid hv
            replace hdl := Lib.hid hdl
            clear hD hD1 hcn hS hSB
            go_wp2_with fail
            have hzs : (wr.setCell ⟨lb, x, none⟩ (.int .i64 (x : Int))).heap.size = wr.heap.size := World.size_setCell _ _ _
            have q1 := Que.of_own (own_lit1 (wr.setCell ⟨lb, x, none⟩ (.int .i64 (x : Int))) 2 (x : Int) (lo := hiB) s1.o4)
            have s5 := s1.below ((Below.refl _ _).alloc (Nat.le_refl _) (.cells #[.int .i64 (x : Int)] 2)) s1.o4
            rw [hzs] at q1
            obtain ⟨W5, hW5⟩ : ∃ W5 : World, (wr.setCell ⟨lb, x, none⟩ (.int .i64 (x : Int))).alloc (.cells #[.int .i64 (x : Int)] 2) = W5 := ⟨_, rfl⟩
            rw [hW5] at q1 s5 ⊢
            (try rw [hzs])
            clear hW5 s1 hzs hcl hfz hc3
            go_wp2_with fail
            rename World => v7
            go_loopg [14] (n) (fun g ov wq => ∃ (P : List Nat) (ls : List Int) (f : List UInt8 → Option Value) (Aq : Option Addr) (cq : Nat), ov = .slice Aq P.length cq ∧ Hid (wantN ls + P.length ≤ g) ∧ P.length ≤ 400 ∧ Hid (PkW fl R cf a x P ls) ∧ Hid (GSt G vs f ls) ∧ SB W1 wq W1.heap.size w1.heap.size hiB w1.heap.size lb n n ls L N f ∧ Que wq hiB Aq P.length cq (qvL P))
            case atStart => exact ⟨[x], _, f, _, 1, rfl, hcn2, by simp, hW0, hS1, s5, q1⟩
            case round =>
              clear hcn2 hW0 hS1 s5 q1 q4
              obtain ⟨P, ls, f, Aq, cq, rfl, hgm, hPl, hW, hS, hSB, hQ⟩ := hrel
              have q4 := hSB.o4
              have hqm := hQ.max
              rcases P with _ | ⟨y, P⟩
              · have hF := hW.out.fin
                have hD2 : Hid (LabD (Sc fl R cf) (Vc fl R cf a) n (nxN fl R cf a (k + 1)) ls) := Lib.hid (by
                  rw [hnn.out] at hF
                  exact hF.up (fun y hy hl => nxN_step hxA.out hy hl))
                clear hF hW hgm hQ
                go_wp2_with fail
                go_roundw
                case measure => simp [intOf] <;> omega
                case rel => exact ⟨k + 1, ls, f, by go_num, by omega, hD2, hS, hSB⟩
              · rw [List.length_cons] at hPl hQ ⊢
                obtain ⟨cst, hcst⟩ : ∃ cst, wantN ls + (P.length + 1) = cst := ⟨_, rfl⟩
                have hcg : cst ≤ gk := by rw [← hcst]; exact hgm.out
                have hg1 : 1 ≤ gk := by omega
                have hcs4 : cst ≤ 400 := by have := hW.out.cnt; rw [hnn.out] at this; simp at this; omega
                have hR0 : Hid (RdI fl R cf a y 0 ls) := Lib.hid RdI.zero
                have hyv := hW.out.head
                have hyn : y < n := by have := hyv.1; have := hnn.out; omega
                replace hcst := Lib.hid hcst
                replace hyv := Lib.hid hyv
                clear hgm
                go_wp2_with fail
                go_loopw [14, 86] (fun ov iv wq => ∃ (i : Nat) (P : List Nat) (ls : List Int) (f : List UInt8 → Option Value) (Aq : Option Addr) (cq : Nat), ov = .slice Aq (P.length + 1) cq ∧ iv = .int .i64 i ∧ i ≤ R ∧ P.length + 1 ≤ 400 ∧ Hid (wantN ls + (P.length + 1) = cst) ∧ Hid (PkW fl R cf a x (y :: P) ls) ∧ Hid (RdI fl R cf a y i ls) ∧ Hid (GSt G vs f ls) ∧ SB W1 wq W1.heap.size w1.heap.size hiB w1.heap.size lb n n ls L N f ∧ Que wq hiB Aq (P.length + 1) cq (qvL (y :: P))) (fun _ iv _ => R - (intOf iv).toNat)
                case atStart => exact ⟨0, P, ls, f, Aq, cq, rfl, rfl, by omega, hPl, hcst, hW, hR0, hS, hSB, hQ⟩
                case round =>
                  clear hPl hcst hW hR0 hS hSB hQ q4 hqm
                  obtain ⟨i, P, ls, f, Aq, cq, rfl, rfl, hiR, hPl, hcst, hW, hRd, hS, hSB, hQ⟩ := hrel
                  have q4 := hSB.o4
                  have hqm := hQ.max
                  have hqc := hQ.cap
                  by_cases hi : i < R
                  · have hK := hKy.out y i hyn
                    have hBw := hB0.trans (hSB.bel.mono (by omega))
                    have hCw := (hSB.bel.cell (p := ⟨w.heap.size, 0, none⟩) (by simp; omega)).trans hC0
                    have hRs := hRest.out y i wr hyn hi hBw hCw
                    obtain ⟨A9, n9, c9, ms, hlk, hms, hmem, hall⟩ := look hSB.bag hLr.out hvl.out hf.out hGF.out hS.out hyv.out hi
                    obtain ⟨ky, hky⟩ : ∃ ky, keyB (rsL fl y i) = ky := ⟨_, rfl⟩
                    rw [hky] at hK hRs hlk
                    obtain ⟨gq, oq, rfl, -, -⟩ := hQ.addr
                    have hgc := hQ.cell (k := 0) (v := .int .i64 (y : Int)) rfl
                    rw [Nat.add_zero] at hgc
                    have i0 : (0 : Int) ≤ (i : Int) := by omega
                    have i1 : (i : Int) < (R : Int) := by omega
                    replace hky := Lib.hid hky
                    replace hmem := Lib.hid hmem
                    replace hall := Lib.hid hall
                    go_wp2_with fail
                    ((with_reducible refine hRs.mono ?_); rintro e w5 ⟨rfl, f5⟩)
                    clear hRs
                    have y5 := f5.size
                    have s5 := hSB.below f5 q4
                    have q5 : Que w5 hiB (some ⟨gq, oq, none⟩) (P.length + 1) cq (qvL (y :: P)) := hQ.keep (fun k _ hk => f5.block k hk) y5
                    have ms5 := hms.below f5 q4
                    have hml := Lib.hid ms5.len
                    have hmx := ms5.max
                    have hJ0 : Hid (StJ ms 0 ls) := Lib.hid (fun z hz => by simp at hz)
                    clear hSB hQ hms f5 hCw hBw hgc
                    go_wp2_with (at_lookup; refine wpList_lookup_Vv rfl _ _ 54 rfl 9 22 keyM Tryd.underlying54 (zeroS _) w1.heap.size N f rfl s5.map _ ky rfl hK _ hlk ?_)
                    go_loopw [14, 99] (fun ov tv wq => ∃ (t : Nat) (P : List Nat) (ls : List Int) (Aq : Option Addr) (cq : Nat), ov = .slice Aq (P.length + 1) cq ∧ tv = .int .i64 t ∧ t ≤ n9 ∧ P.length + 1 ≤ 400 ∧ Hid (wantN ls + (P.length + 1) = cst) ∧ Hid (PkW fl R cf a x (y :: P) ls) ∧ Hid (RdI fl R cf a y i ls) ∧ Hid (GSt G vs f ls) ∧ Hid (StJ ms t ls) ∧ Hid (∀ u, Vc fl R cf a u → Agr fl R i y u → (u : Int) ∈ ms ∨ ls[u]? ≠ some (-1)) ∧ SB W1 wq W1.heap.size w1.heap.size hiB w1.heap.size lb n n ls L N f ∧ Que wq hiB Aq (P.length + 1) cq (qvL (y :: P)) ∧ Same w1.heap.size hiB w5 wq) (fun _ tv _ => n9 - (intOf tv).toNat)
                    case atStart => exact ⟨0, P, ls, _, cq, rfl, rfl, by omega, hPl, hcst, hW, hRd, hS, hJ0, hall, s5, q5, Same.refl _ _ _⟩
                    case round =>
                      clear hPl hcst hW hRd hS hJ0 hall s5 q5 q4 hqm hqc
                      obtain ⟨t, P, ls, Aq, cq, rfl, rfl, htn, hPl, hcst, hW, hRd, hS, hJ, hall, hSB, hQ, hsm⟩ := hrel
                      have q4 := hSB.o4
                      have hqm := hQ.max
                      have zr := hsm
                      by_cases ht : t < n9
                      · obtain ⟨bz, oz, z, rfl, _, _, hzj, hcz⟩ := (ms5.keep hsm).at_ ht
                        obtain ⟨u, rfl, huv, hag⟩ := hmem.out z (List.mem_of_getElem? hzj)
                        have hun : u < n := by have := huv.1; have := hnn.out; omega
                        have hdl := hW.out.lab.len
                        rw [hnn.out] at hdl
                        obtain ⟨q, hq⟩ : ∃ q, ls[u]? = some q := ⟨ls[u]'(by omega), List.getElem?_eq_getElem (by omega)⟩
                        have hneg := hW.out.lab.neg huv hq
                        have hcl := hSB.lab.cellI hq
                        have hfz := hSB.lab.frz u
                        have u0' : (0 : Int) ≤ (u : Int) := by omega
                        have u1' : (u : Int) < (n : Int) := by omega
                        have t0' : (0 : Int) ≤ (t : Int) := by omega
                        have t1' : (t : Int) < (n9 : Int) := by omega
                        have hul : u < ls.length := by omega
                        replace huv := Lib.hid huv
                        replace hag := Lib.hid hag
                        by_cases hq0 : q < 0
                        · have hls := hneg.1 hq0
                          have hW2 := hW.out.add hf.out hi huv.out hag.out hls
                          have hcs2 : Hid (wantN (ls.set u (x : Int)) + ((P ++ [u]).length + 1) = cst) := Lib.hid (by
                            have h1 := wantN_set (f := x) hls
                            have h2 := hcst.out
                            rw [List.length_append, List.length_singleton]
                            omega)
                          have hPl2 : P.length + 1 + 1 ≤ 400 := by
                            have := hW2.cnt
                            rw [hnn.out] at this
                            simp at this
                            omega
                          have hRd2 := Lib.hid (hRd.out.set (f0 := x) hul)
                          have hS2 := Lib.hid (hS.out.set (f0 := x) hul)
                          have hJ2 := Lib.hid ((hJ.out.set (f := x) hul).succ hzj (set_ne hul))
                          have hall2 : Hid (∀ u', Vc fl R cf a u' → Agr fl R i y u' → (u' : Int) ∈ ms ∨ (ls.set u (x : Int))[u']? ≠ some (-1)) := Lib.hid (fun u' g1 g2 => (hall.out u' g1 g2).imp id (ne_set hul))
                          have s2 := hSB.store u (x : Int)
                          have hQ2 := hQ.far (p := ⟨lb, u, none⟩) (by have := hSB.o3; have := hSB.o6; show lb < hiB; omega) (.int .i64 (x : Int))
                          have hsm2 := hsm.trans (same_set wr ⟨lb, u, none⟩ (.int .i64 (x : Int)) w1.heap.size hiB (.inl hSB.o6))
                          have hss : (wr.setCell ⟨lb, u, none⟩ (.int .i64 (x : Int))).heap.size = wr.heap.size := World.size_setCell _ _ _
                          have hz8 : hiB ≤ (wr.setCell ⟨lb, u, none⟩ (.int .i64 (x : Int))).heap.size := by rw [hss]; exact q4
                          have hW3 := Lib.hid hW2
                          replace hss := Lib.hid hss
                          replace hls := Lib.hid hls
                          replace hq := Lib.hid hq
                          replace hzj := Lib.hid hzj
                          replace hneg := Lib.hid hneg
                          replace hdl := Lib.hid hdl
                          clear hW2 hW hcst hRd hS hJ hall hSB hQ hsm zr
                          go_wp2_with (at_builtin; refine wpList_appendQ (wr.setCell ⟨lb, u, none⟩ (.int .i64 (x : Int))) rfl (.tmp 112) (.tmp 114) 22 rfl hiB 2 j0 (.int .i64 0) 8 Tryd.underlying22 hj0 hy0 hy1 hy2 rfl (by omega) Aq (P.length + 1) cq _ (.int .i64 u) rfl hQ2 _ rfl (World.size_setCell _ _ _).symm rfl (by omega) hz8 ?_)
                          intro A6 c6 w6 hQ6 f6
                          rw [qvL_snoc] at hQ6
                          have hQ7 : Que w6 hiB A6 ((P ++ [u]).length + 1) c6 (qvL (y :: (P ++ [u]))) := by
                            rw [List.length_append, List.length_singleton]
                            exact hQ6
                          have s6 := s2.below f6 (Nat.le_refl _)
                          have hsm6 := hsm2.trans (Same.of_below f6 (Nat.le_refl _))
                          clear hQ6 s2 hsm2 hQ2 f6 hz8
                          go_wp2_with fail
                          go_roundw
                          case measure => simp [intOf] <;> omega
                          case rel => exact ⟨t + 1, P ++ [u], _, A6, c6, by simp, by go_num, by omega, by simp; omega, hcs2, hW3, hRd2, hS2, hJ2, hall2, s6, hQ7, hsm6⟩
                        · have hJ2 := Lib.hid (hJ.out.succ hzj (fun e => hq0 (hneg.2 e)))
                          replace hq := Lib.hid hq
                          replace hzj := Lib.hid hzj
                          replace hneg := Lib.hid hneg
                          replace hdl := Lib.hid hdl
                          clear hJ
                          go_wp2_with fail
                          go_roundw
                          case measure => simp [intOf] <;> omega
                          case rel => exact ⟨t + 1, P, ls, Aq, cq, rfl, by go_num, by omega, hPl, hcst, hW, hRd, hS, hJ2, hall, hSB, hQ, hsm⟩
                      · obtain rfl : t = n9 := by omega
                        have hrdy := rdy_of hml.out hJ.out hall.out
                        have hRd8 := Lib.hid (hRd.out.succ hrdy)
                        have hS8 := Lib.hid (hS.out.del hf.out hGF.out hyv.out hi hrdy)
                        replace hrdy := Lib.hid hrdy
                        clear hJ hall hS hRd zr
                        go_wp2_with (at_delete; refine wpList_del_V rfl _ _ 54 9 rfl 22 keyM Tryd.underlying54 w1.heap.size N f rfl hSB.map _ ky rfl hK ?_)
                        intro w8 hm8 hg8
                        rw [← hky.out] at hm8
                        have s8 := hSB.del hm8 hg8
                        have q8 := que_del hQ hg8 hSB.o3
                        clear hSB hQ hm8 hg8 hsm
                        go_wp2_with fail
                        go_roundw
                        case measure => simp [intOf] <;> omega
                        case rel => exact ⟨i + 1, P, ls, _, Aq, cq, rfl, by go_num, by omega, hPl, hcst, hW, hRd8, hS8, s8, q8⟩
                  · obtain rfl : i = R := by omega
                    have hW2 := Lib.hid (hW.out.pop hRd.out)
                    have hg2 : Hid (wantN ls + P.length ≤ gk - 1) := Lib.hid (by have := hcst.out; omega)
                    obtain ⟨gq, oq, rfl, -, -⟩ := hQ.addr
                    clear hW hRd hcst
                    by_cases hc1 : cq = 1
                    · go_wp2_with fail
                      go_roundg (gk - 1)
                      case measure => omega
                      case rel => exact ⟨P, ls, f, _, cq - 1, by rw [hc1], hg2, by omega, hW2, hS, hSB, hQ.pop (.inr ⟨hc1, rfl⟩)⟩
                    · go_wp2_with fail
                      go_roundg (gk - 1)
                      case measure => omega
                      case rel => exact ⟨P, ls, f, _, cq - 1, rfl, hg2, by omega, hW2, hS, hSB, hQ.pop (.inl rfl)⟩
        · obtain rfl : k = al.length := by omega
          have hD2 : Hid (LabD (Sc fl R cf) (Vc fl R cf a) n n ls) := Lib.hid (by
            have h1 := hD.out
            rw [nxN_end (by rw [← hAL.out]; exact Nat.le_refl _), hnn.out] at h1
            exact h1)
          have hBr := hB0.trans (hSB.bel.mono (by omega))
          have yr := hSB.bel.size
          have ol := hSB.lab
          have o3 := hSB.o3
          clear hD hS
          go_wp2_with fail
          go_ret
          exact ⟨_, n, ls, rfl, hD2, ol.more (by omega) (by omega), hBr⟩
end Go.Proofs.YtebdfhkimnlglaaDoor
/- ConQ -/
namespace Go.Proofs.YtebdfhkimnlglaaDoor
set_option linter.unusedVariables false
set_option maxRecDepth 100000
def mskN (fl : List (List Int)) (a b : Nat) : Nat → Nat
  | 0 => 0
  | k + 1 => mskN fl a b k + (if at2 fl a k = at2 fl b k then 2 ^ k else 0)
theorem mskN_lt (fl : List (List Int)) (a b : Nat) : ∀ k, mskN fl a b k < 2 ^ k
  | 0 => by simp [mskN]
  | k + 1 => by
    have := mskN_lt fl a b k
    unfold mskN
    rw [Nat.pow_succ]
    split <;> omega
theorem maskC_mskN (fl : List (List Int)) (a b : Nat) : ∀ {K k : Nat}, k < K → maskC (mskN fl a b K) k = comC fl a b k
  | 0, k, h => by omega
  | K + 1, k, h => by
    unfold mskN
    have hlt := mskN_lt fl a b K
    by_cases e : k = K
    · subst e
      unfold maskC comC
      by_cases h2 : at2 fl a k = at2 fl b k
      · rw [if_pos h2, Nat.add_div_right _ (Nat.two_pow_pos k), Nat.div_eq_of_lt hlt]; simp [h2]
      · rw [if_neg h2, Nat.add_zero, Nat.div_eq_of_lt hlt]; simp [h2]
    · rw [← maskC_mskN fl a b (show k < K by omega)]
      by_cases h2 : at2 fl a K = at2 fl b K
      · rw [if_pos h2]
        unfold maskC
        obtain ⟨d, rfl⟩ : ∃ d, K = k + (d + 1) := ⟨K - k - 1, by omega⟩
        rw [Nat.pow_add, Nat.add_mul_div_left _ _ (Nat.two_pow_pos k), Nat.pow_succ, Nat.mul_comm (2 ^ d) 2, Nat.add_mul_mod_self_left]
      · rw [if_neg h2, Nat.add_zero]
theorem Rc.congr {S S' : Nat → Nat → Prop} (h : ∀ x y, S x y → S' x y) {x y : Nat} (r : Rc S x y) : Rc S' x y := by
  induction r with
  | refl => exact .refl
  | step _ hs ih => exact ih.step (h _ _ hs)
theorem Sc.congr {fl : List (List Int)} {R : Nat} {c c' : Nat → Bool} (h : ∀ k, k < R → c k = c' k) {x y : Nat} (s : Sc fl R c x y) : Sc fl R c' x y := by
  obtain ⟨h1, h2, i, hi, hc, hs⟩ := s
  exact ⟨h1, h2, i, hi, by rw [← h i hi]; exact hc, hs⟩
/-- the labels tell whether two flags are linked -/
theorem lab_lnk {fl : List (List Int)} {R a b : Nat} {ls : List Int} (d : LabD (Sc fl R (maskC (mskN fl a b R))) (Va fl) fl.length fl.length ls) (ha : a < fl.length) (hb : b < fl.length) : ls[a]? = ls[b]? ↔ Lnk fl R a b := by
  rw [d.same (sv_all fl R _) ha hb]
  have hc : ∀ k, k < R → maskC (mskN fl a b R) k = comC fl a b k := fun k hk => maskC_mskN fl a b hk
  exact ⟨fun r => r.congr fun x y s => s.congr hc, fun r => r.congr fun x y s => s.congr fun k hk => (hc k hk).symm⟩
theorem FlOk.nil0 : FlOk 0 [] := ⟨by simp, fun t h => by simp at h, fun t h => by simp at h, by simp, by omega⟩
theorem parL_nil (R : Nat) : parL [] R = [] := ParI.none (a := 0) (b := 1) (ParI.zero [] R) (by simp)
theorem nearA_nil : nearA [] 0 = [] := by simp [nearA]
end Go.Proofs.YtebdfhkimnlglaaDoor
/- FaceS -/
namespace Go.Proofs.YtebdfhkimnlglaaDoor
open Go.RowKit
set_option linter.unusedVariables false
set_option maxRecDepth 100000
theorem erase_snoc {α : Type} {xs : List α} {k i : Nat} {x : α} (h : xs[k]? = some x) : (xs.take (k + 1)).eraseIdx i = if k = i then (xs.take k).eraseIdx i else (xs.take k).eraseIdx i ++ [x] := by
  have hk := (List.getElem?_eq_some_iff.1 h).1
  have hl : (xs.take k).length = k := by simp; omega
  rw [take_succ_of h]
  by_cases e : k = i
  · subst e
    rw [if_pos rfl, List.eraseIdx_append_of_length_le (by omega), hl, Nat.sub_self, List.eraseIdx_of_length_le (l := xs.take k) (by omega)]
    simp
  · rw [if_neg e]
    by_cases hlt : i < k
    · rw [List.eraseIdx_append_of_lt_length (by omega)]
    · rw [List.eraseIdx_append_of_length_le (by omega), hl, List.eraseIdx_of_length_le (l := [x]) (by simp; omega), List.eraseIdx_of_length_le (l := xs.take k) (by omega)]
end Go.Proofs.YtebdfhkimnlglaaDoor
/- TwX -/
namespace Go.Proofs.YtebdfhkimnlglaaDoor
open Go.RowKit
set_option linter.unusedVariables false
set_option maxRecDepth 100000
theorem own_lit2 (w : World) (T : TypeId) (x y : Int) {lo : Nat} (hlo : lo ≤ w.heap.size) : Own (w.alloc (.cells #[.int .i64 x, .int .i64 y] T)) lo (w.heap.size + 1) T (some ⟨w.heap.size, 0, none⟩) 2 2 ([x, y].map (Value.int .i64)) := by
  have h0 := World.ownsRow_lit (e := T) (base := lo) (size := 1) w #[.int .i64 x, .int .i64 y] 2 hlo (by simp only [maxLen]; omega) rfl
  have h1 := Own.of_row h0
  simpa using h1
end Go.Proofs.YtebdfhkimnlglaaDoor
/- ConK -/
namespace Go.Proofs.YtebdfhkimnlglaaDoor
open Go.RowKit
open Go.Maps (Keyed string_keyed)
set_option linter.unusedVariables false
set_option maxRecDepth 100000
/-- labels of the parts with what is common -/
def LabAll (fl : List (List Int)) (R : Nat) (cm ls : List Int) : Prop := ∀ (cf : Nat → Bool) (a : Nat), a < fl.length → IsCom fl R cf a cm → LabD (Sc fl R cf) (Vc fl R cf a) fl.length fl.length ls
section
variable {fl : List (List Int)} {R a b : Nat} {cf cf' : Nat → Bool} {cm ls : List Int}
theorem com_agree {a' : Nat} (hf : FlOk R fl) (ha : a < fl.length) (ha' : a' < fl.length) (h : IsCom fl R cf a cm) (h' : IsCom fl R cf' a' cm) {k : Nat} (hk : k < R) : cf k = cf' k ∧ (cf k = true → at2 fl a k = at2 fl a' k) := by
  have e := (h.2 k hk).symm.trans (h'.2 k hk)
  injection e with e
  have h1 := (at2_nn hf ha hk).1
  have h2 := (at2_nn hf ha' hk).1
  cases hc : cf k <;> cases hc' : cf' k <;> rw [hc, hc'] at e <;> simp at e ⊢
  · omega
  · omega
  · exact e
theorem labAll_of (hf : FlOk R fl) (ha : a < fl.length) (h : IsCom fl R cf a cm) (d : LabD (Sc fl R cf) (Vc fl R cf a) fl.length fl.length ls) : LabAll fl R cm ls := fun cf' a' ha' h' => by
  have hag := fun {k : Nat} (hk : k < R) => com_agree hf ha ha' h h' hk
  have e1 : Sc fl R cf = Sc fl R cf' := by
    funext x y
    exact propext ⟨fun s => s.congr fun k hk => (hag hk).1, fun s => s.congr fun k hk => (hag hk).1.symm⟩
  have e2 : Vc fl R cf a = Vc fl R cf' a' := by
    funext x
    refine propext ⟨fun v => ⟨v.1, fun k hk hc => ?_⟩, fun v => ⟨v.1, fun k hk hc => ?_⟩⟩
    · have h1 := (hag hk).1
      rw [← h1] at hc
      rw [v.2 k hk hc, (hag hk).2 hc]
    · have h1 := (hag hk).1
      rw [(hag hk).2 hc]
      exact v.2 k hk (by rw [← h1]; exact hc)
  rw [← e1, ← e2]
  exact d
theorem LabAll.lnk (h : LabAll fl R cm ls) (hc : IsCom fl R (comC fl a b) a cm) (ha : a < fl.length) (hb : b < fl.length) : ls[a]? = ls[b]? ↔ Lnk fl R a b :=
  (h _ a ha hc).same (sv_com fl R _ a) ⟨ha, fun _ _ _ => rfl⟩ ⟨hb, fun k hk hck => by
    unfold comC at hck
    exact (of_decide_eq_true hck).symm⟩
theorem LabAll.len (h : LabAll fl R cm ls) (ha : a < fl.length) (hc : IsCom fl R cf a cm) : ls.length = fl.length := (h _ a ha hc).len
theorem com_small (hf : FlOk R fl) (ha : a < fl.length) (h : IsCom fl R cf a cm) : ∀ x ∈ cm, SmallM x := fun x hx => by
  obtain ⟨k, hk⟩ := List.mem_iff_getElem?.1 hx
  have hkR : k < R := by have := (List.getElem?_eq_some_iff.1 hk).1; have := h.1; omega
  rw [h.2 k hkR] at hk
  injection hk with hk
  by_cases hc : cf k = true
  · rw [if_pos hc] at hk
    refine .inr (hf.rng (fl.getD a []) ?_ x ?_)
    · rw [List.getD_eq_getElem?_getD, List.getElem?_eq_getElem ha]; exact List.getElem_mem ha
    · rw [← hk]; exact List.mem_of_getElem? (at2_nn hf ha hkR).2
  · rw [if_neg hc] at hk
    exact .inl hk.symm
end
/-- the labels that are kept, each under the key of what is common -/
structure CF (fl : List (List Int)) (R : Nat) (w wq : World) (MB N : Nat) (f : List UInt8 → Option Value) : Prop where
  map : MapV Tryd.prog 9 wq MB N f
  row : ∀ s v, f s = some v → ∃ (cm ls : List Int) (A1 : Option Addr) (c1 : Nat), s = keyB cm ∧ (∀ x ∈ cm, SmallM x) ∧ v = .slice A1 fl.length c1 ∧ RI wq (MB + 1) wq.heap.size A1 fl.length ls ∧ LabAll fl R cm ls
  bel : Below w.heap.size w wq
  mb : w.heap.size ≤ MB
section
variable {fl : List (List Int)} {R : Nat} {w wq w2 : World} {MB N : Nat} {f : List UInt8 → Option Value}
theorem CF.start (w : World) : CF fl R w (w.alloc (.map #[] 0)) w.heap.size 0 (fun _ => none) :=
  ⟨MapV.made w _ _, fun s v h => (by cases h), (Below.refl _ _).alloc (Nat.le_refl _) _, Nat.le_refl _⟩
theorem CF.below (c : CF fl R w wq MB N f) (h : Below wq.heap.size wq w2) : CF fl R w w2 MB N f := by
  refine ⟨c.map.below h c.map.lt, fun s v hv => ?_, c.bel.trans (h.mono c.bel.size), c.mb⟩
  obtain ⟨cm, ls, A1, c1, e1, e2, e3, e4, e5⟩ := c.row s v hv
  exact ⟨cm, ls, A1, c1, e1, e2, e3, (e4.below h (Nat.le_refl _)).more (Nat.le_refl _) h.size, e5⟩
theorem CF.put (c : CF fl R w wq MB N f) {cm ls : List Int} {A1 : Option Addr} {c1 : Nat} (hs : ∀ x ∈ cm, SmallM x) (hr : RI wq (MB + 1) wq.heap.size A1 fl.length ls) (hl : LabAll fl R cm ls)
    (hm : MapV Tryd.prog 9 w2 MB (N + 1) (putV f (keyB cm) (.slice A1 fl.length c1))) (hg : wq.grownBy w2 (some MB)) : CF fl R w w2 MB (N + 1) (putV f (keyB cm) (.slice A1 fl.length c1)) := by
  have hsm : Same (MB + 1) wq.heap.size wq w2 := same_grown hg (Nat.le_refl _) (fun g e => by cases e; left; omega)
  refine ⟨hm, fun s v hv => ?_, c.bel.grown hg c.bel.size (fun y hy => by cases hy; exact c.mb), c.mb⟩
  by_cases e : s = keyB cm
  · subst e
    rw [putV_same] at hv
    injection hv with hv
    exact ⟨cm, ls, A1, c1, rfl, hs, hv.symm, (hr.keep hsm).more (Nat.le_refl _) hg.size, hl⟩
  · rw [putV_other e] at hv
    obtain ⟨cm', ls', A1', c1', e1, e2, e3, e4, e5⟩ := c.row s v hv
    exact ⟨cm', ls', A1', c1', e1, e2, e3, (e4.keep hsm).more (Nat.le_refl _) hg.size, e5⟩
theorem CF.hit (c : CF fl R w wq MB N f) {cm : List Int} {v : Value} (hs : ∀ x ∈ cm, SmallM x) (hv : f (keyB cm) = some v) : ∃ (ls : List Int) (A1 : Option Addr) (c1 : Nat), v = .slice A1 fl.length c1 ∧ RI wq (MB + 1) wq.heap.size A1 fl.length ls ∧ LabAll fl R cm ls := by
  obtain ⟨cm', ls, A1, c1, e1, e2, e3, e4, e5⟩ := c.row _ v hv
  have e := keyB_inj hs e2 e1
  subst e
  exact ⟨ls, A1, c1, e3, e4, e5⟩
end
section
variable {P : Program} {w : World} {ops : Array Oper} {rest : List Oper} {o : Oper} {a : Act} {Q : Exit → Act → World → Prop}
/-- 'v, ok := m[s]', both known -/
theorem wpList_lookok_Vv (hg : o.guard = none) (m x : Operand) (t : TypeId) (hop : o.op = Op.lookup t m x true)
    (k e : TypeId) (K : Keyed P k) (ht : P.underlying t = some (.map k e)) {z : Value} (hz : (zeroValue e).run P w = .ok z w) (b n : Nat) (f : List UInt8 → Option Value)
    (hm : a.eval m = .map (some b)) (hown : MapV P k w b n f) (key : Value) (s : List UInt8) (hx : a.eval x = key) (hkey : keyOf P k key = some (.string s)) (v : Value) (ok : Bool) (hv : (f s).getD z = v) (hok : (f s).isSome = ok)
    (hK : wpList P ops Q rest (a.put o.dst (.tuple #[v, .bool ok])) w) :
    wpList P ops Q (o :: rest) a w := by
  subst hv
  subst hok
  exact wpList_lookok_V hg m x t hop k e K ht hz b n f hm hown key s hx hkey hK
end
set_option maxHeartbeats 16000000 in
theorem connectionFault_any (fl : List (List Int)) (R : Nat) (hf : FlOk R fl) (A : Option Addr) (c : Nat) (w : World) {lo hi : Nat} (h : RS w lo hi A fl.length fl) (hhi : hi ≤ w.heap.size) {B : Nat} (hT : T10 B w) (hB : B ≤ w.heap.size) :
    Calls Tryd.prog 20 #[.slice A fl.length c] w fun e w' => ∃ v, e = .returned v ∧ Hid ((parL fl R = [] → v = .slice none 0 0) ∧ (parL fl R ≠ [] → ∃ g, v = .slice (some ⟨g, 0, none⟩) 2 2 ∧ Own w' w.heap.size w'.heap.size 2 (some ⟨g, 0, none⟩) 2 2 ((parL fl R).map (Value.int .i64)))) ∧ Below w.heap.size w w' := by
  obtain ⟨n, hnn⟩ : ∃ n, fl.length = n := ⟨_, rfl⟩
  have hn4 := hf.n4
  have hR5 := hf.r5
  have hmm := @run_makeMap Tryd.prog
  have hlen : ∀ t ∈ fl, t.length = R := hf.len
  have hm := h.max
  have hpz := Lib.hid (ParI.zero fl R)
  have hPw := fun (a b : Nat) (ha : a < fl.length) (cm : List Int) (hcm : IsCom fl R (comC fl a b) a cm) (A' : Option Addr) (c' : Nat) (W : World) (hBW : Below w.heap.size w W) (hri : RI W w.heap.size W.heap.size A' R cm) => partsWith_any fl R hf (comC fl a b) a ha cm hcm A c A' c' W (h.below hBW hhi) (Nat.le_trans hhi hBW.size) hri (Nat.le_refl _) (hT.on (hBW.mono hB)) (Nat.le_trans hB hBW.size)
  have hKf := fun (cm : List Int) (hs : ∀ x ∈ cm, SmallM x) (A' : Option Addr) (n' c' : Nat) (W : World) (hBW : Below w.heap.size w W) (hri : RI W w.heap.size W.heap.size A' n' cm) (hn' : n' ≤ 1048576) => keyOf_any A' n' c' cm W hri (Nat.le_refl _) hs hn' (hT.on (hBW.mono hB)) (Nat.le_trans hB hBW.size)
  rw [hnn] at hn4 hm h hPw ⊢
  replace hf := Lib.hid hf
  replace hnn := Lib.hid hnn
  replace hlen := Lib.hid hlen
  replace hPw := Lib.hid hPw
  replace hKf := Lib.hid hKf
  have st0 : CF fl R w (w.alloc (.map #[] 0)) w.heap.size 0 (fun _ => none) := CF.start w
  go_enter Tryd.func20, Tryd.ntmps20
  go_wp2_with fail
  obtain ⟨W1, hW⟩ : ∃ W1 : World, w.alloc (.map #[] 0) = W1 := ⟨_, rfl⟩
  rw [hW] at st0 ⊢
  clear hW
  ((with_reducible refine (sizeS_any A n c _ (by omega)).mono ?_); rintro e wz ⟨rfl, rfl⟩)
  go_wp2_with fail
  go_loopw [13] (fun av wq => ∃ (a N : Nat) (f : List UInt8 → Option Value), av = .int .i64 a ∧ a ≤ n ∧ N ≤ 400 * a ∧ Hid (ParI fl R a (a + 1)) ∧ CF fl R w wq w.heap.size N f) (fun av _ => n - (intOf av).toNat)
  case atStart => exact ⟨0, 0, _, rfl, by omega, by omega, hpz, st0⟩
  case round =>
    clear hpz st0
    obtain ⟨a, N, f, rfl, han, hN, hI, hC⟩ := hrel
    have yq := hC.bel.size
    by_cases ha : a < n
    · have a0 : (0 : Int) ≤ (a : Int) := by omega
      have a1 : (a : Int) < (n : Int) := by omega
      have hI1 := hI
      clear hI yq
      go_wp2_with fail
      rename World => v8
      go_loopw [5] (fun bv wq => ∃ (b N : Nat) (f : List UInt8 → Option Value), bv = .int .i64 b ∧ a < b ∧ b ≤ n ∧ N ≤ 400 * a + b ∧ Hid (ParI fl R a b) ∧ CF fl R w wq w.heap.size N f) (fun bv _ => n - (intOf bv).toNat)
      case atStart => exact ⟨a + 1, N, f, by go_num, by omega, by omega, by omega, hI1, hC⟩
      case round =>
        clear hI1 hC hN
        obtain ⟨b, N, f, rfl, hab, hbn, hN, hI, hC⟩ := hrel
        have yq := hC.bel.size
        go_wp2_with fail
        ((with_reducible refine (sizeS_any A n c _ (by omega)).mono ?_); rintro e wz ⟨rfl, rfl⟩)
        by_cases hb : b < n
        · have b0 : (0 : Int) ≤ (b : Int) := by omega
          have b1 : (b : Int) < (n : Int) := by omega
          have hF := h.below hC.bel hhi
          obtain ⟨bf, of_, Aa, na, ca, ta, rfl, _, _, hta, hca0, hra0⟩ := hF.at_ ha
          obtain ⟨bg, og, Ab, nb, cb, tb, e1, _, _, htb, hcb0, hrb0⟩ := hF.at_ hb
          injection e1 with e1
          injection e1 with e1 e2 _
          subst e1
          subst e2
          have hna : R = na := by have := hra0.len; have := hlen.out ta (mem_of_get? hta); omega
          have hnb : R = nb := by have := hrb0.len; have := hlen.out tb (mem_of_get? htb); omega
          subst hna
          subst hnb
          have haf : a < fl.length := by rw [hnn.out]; exact ha
          have hbf : b < fl.length := by rw [hnn.out]; exact hb
          have hcm : IsCom fl R (comC fl a b) a (cmL ta tb) := by
            have := isCom_of hf.out haf hbf
            rwa [getD_some hta, getD_some htb] at this
          have hsm := com_small hf.out haf hcm
          have hCo := commonOf_any Aa R ca ta Ab cb tb wr.drew (hra0.keep (fun _ _ _ => rfl)) (show _ ≤ wr.heap.size by omega) (hrb0.keep (fun _ _ _ => rfl)) (show _ ≤ wr.heap.size by omega) (by omega)
          obtain ⟨cm, hcm2⟩ : ∃ cm, cmL ta tb = cm := ⟨_, rfl⟩
          rw [hcm2] at hcm hsm hCo
          replace haf := Lib.hid haf
          replace hbf := Lib.hid hbf
          replace hta := Lib.hid hta
          replace htb := Lib.hid htb
          replace hcm := Lib.hid hcm
          replace hsm := Lib.hid hsm
          clear hcm2 hra0 hrb0 hF
          go_wp2_with fail
          go_region_with (go_at_call 33; (with_reducible refine hCo.mono ?_); rintro e w5 ⟨A5, c5, rfl, o5, f5⟩)
          all_goals
            have f5' : Below wr.heap.size wr w5 := ⟨f5.os, f5.tape, f5.output, f5.size, f5.block⟩
            have y5 := f5'.size
            clear hCo f5 hca0 hcb0
            have hC5 := hC.below f5'
            have oB : Own w5 wr.heap.size w5.heap.size 2 A5 R c5 (cm.map (Value.int .i64)) := o5
            have hKk := hKf.out cm hsm.out A5 R c5 w5 hC5.bel (oB.more yq (Nat.le_refl _)).ri (by omega)
            have hke := keyM_of (keyB cm) (by have h1 := keyB_len hsm.out; rw [hcm.out.1] at h1; omega)
            obtain ⟨ky, hky⟩ : ∃ ky, keyB cm = ky := ⟨_, rfl⟩
            rw [hky] at hke hKk
            replace hky := Lib.hid hky
            clear hC o5 f5'
            go_wp2_with fail
            ((with_reducible refine hKk.mono ?_); rintro e w6 ⟨rfl, f6⟩)
            clear hKk
            have y6 := f6.size
            have hC6 := hC5.below f6
            have o6 := oB.below f6 (Nat.le_refl _)
            have z6 := hC6.map.lt
            clear hC5 oB f6
            cases hfk : f ky with
            | some v =>
              obtain ⟨ls, A9, c9, rfl, hr9, hl9⟩ := hC6.hit hsm.out (by rw [hky.out]; exact hfk)
              have hlk : (f ky).getD (.slice none 0 0) = .slice A9 n c9 := by rw [hfk, ← hnn.out]; rfl
              have hok : (f ky).isSome = true := by rw [hfk]; rfl
              rw [hnn.out] at hr9
              replace hfk := Lib.hid hfk
              go_wp2_with (at_lookup; refine wpList_lookok_Vv rfl _ _ 54 rfl 9 22 keyM Tryd.underlying54 (zeroS _) w.heap.size N f rfl hC6.map _ ky rfl hke _ true hlk hok ?_)
              clear hlk hok o6
              have hsame := hl9.lnk hcm.out haf.out hbf.out
              obtain ⟨b6, o6', x, rfl, _, _, hx, hxc⟩ := hr9.at_ ha
              obtain ⟨b7, o7', y, e5, _, _, hy, hyc⟩ := hr9.at_ hb
              injection e5 with e5
              injection e5 with e5 e6 _
              subst e5
              subst e6
              rw [hx, hy] at hsame
              replace hx := Lib.hid hx
              replace hy := Lib.hid hy
              have hBf := hC6.bel
              have yf := hBf.size
              by_cases hxy : x = y
              · have hI2 : Hid (ParI fl R a (b + 1)) := Lib.hid (hI.out.step (hsame.1 (by rw [hxy])))
                have d0 : (x != y) = false := by simpa using hxy
                replace hxy := Lib.hid hxy
                replace hsame := Lib.hid hsame
                clear hI
                go_wp2_with fail
                go_quiet (fail)
                go_wp2_with fail
                go_roundw
                case measure => simp [intOf] <;> omega
                case rel => exact ⟨b + 1, N, _, by go_num, by omega, by omega, by omega, hI2, hC6.below (below_dn (Below.refl _ _) _)⟩
              · have hI2 : parL fl R = [(a : Int), (b : Int)] := hI.out.some_ hab hbf.out (fun hl => hxy (by have := hsame.2 hl; simpa using this))
                have d0 : (x != y) = true := by simpa using hxy
                replace hxy := Lib.hid hxy
                replace hsame := Lib.hid hsame
                replace hI2 := Lib.hid hI2
                clear hI
                go_wp2_with fail
                go_quiet (fail)
                go_wp2_with fail
                go_ret
                refine ⟨_, rfl, Lib.hid ⟨fun q => absurd q (by rw [hI2.out]; simp), fun _ => ⟨_, rfl, ?_⟩⟩, (below_dn hBf _).alloc (by simpa using yf) _⟩
                rw [hI2.out]
                exact (own_lit2 _ 2 _ _ (lo := w.heap.size) (by simpa using yf)).more (Nat.le_refl _) (by simp)
            | none =>
              have hlk : (f ky).getD (.slice none 0 0) = .slice none 0 0 := by rw [hfk]; rfl
              have hok : (f ky).isSome = false := by rw [hfk]; rfl
              have hPp := hPw.out a b ha cm hcm.out A5 c5 w6 hC6.bel (o6.more yq (by omega)).ri
              have hNm : N < maxLen := by unfold maxLen; omega
              replace hfk := Lib.hid hfk
              go_wp2_with (at_lookup; refine wpList_lookok_Vv rfl _ _ 54 rfl 9 22 keyM Tryd.underlying54 (zeroS _) w.heap.size N f rfl hC6.map _ ky rfl hke _ false hlk hok ?_)
              clear hlk hok o6
              ((with_reducible refine hPp.mono ?_); rintro e w7 ⟨A9, c9, ls, rfl, hD, o7, f7⟩)
              clear hPp
              have y7 := f7.size
              have hC7 := hC6.below f7
              have hl9 := labAll_of hf.out haf.out hcm.out (by rw [hnn.out]; exact hD.out)
              have r7 : RI w7 (w.heap.size + 1) w7.heap.size A9 n ls := (o7.more (by omega) (Nat.le_refl _)).ri
              clear hC6 f7 o7 hD
              go_wp2_with (at_mapUpdate; refine wpList_put_V rfl _ _ _ 54 rfl 9 22 keyM Tryd.underlying54 w.heap.size N f rfl hC7.map hNm _ _ ky rfl rfl hke ?_)
              intro w8 hm8 hg8
              have hC8 : CF fl R w w8 w.heap.size (N + 1) (putV f (keyB cm) (.slice A9 fl.length c9)) := hC7.put hsm.out (by rw [hnn.out]; exact r7) hl9 (by rw [hky.out, hnn.out]; exact hm8) hg8
              have hr9 := r7.keep (same_grown hg8 (Nat.le_refl _) (fun g e => by cases e; left; omega))
              clear hC7 r7 hm8 hg8
              have hsame := hl9.lnk hcm.out haf.out hbf.out
              obtain ⟨b6, o6', x, rfl, _, _, hx, hxc⟩ := hr9.at_ ha
              obtain ⟨b7, o7', y, e5, _, _, hy, hyc⟩ := hr9.at_ hb
              injection e5 with e5
              injection e5 with e5 e6 _
              subst e5
              subst e6
              rw [hx, hy] at hsame
              replace hx := Lib.hid hx
              replace hy := Lib.hid hy
              have hBf := hC8.bel
              have yf := hBf.size
              by_cases hxy : x = y
              · have hI2 : Hid (ParI fl R a (b + 1)) := Lib.hid (hI.out.step (hsame.1 (by rw [hxy])))
                have d0 : (x != y) = false := by simpa using hxy
                replace hxy := Lib.hid hxy
                replace hsame := Lib.hid hsame
                clear hI
                go_wp2_with fail
                go_quiet (fail)
                go_wp2_with fail
                go_roundw
                case measure => simp [intOf] <;> omega
                case rel => exact ⟨b + 1, N + 1, _, by go_num, by omega, by omega, by omega, hI2, hC8.below (below_dn (Below.refl _ _) _)⟩
              · have hI2 : parL fl R = [(a : Int), (b : Int)] := hI.out.some_ hab hbf.out (fun hl => hxy (by have := hsame.2 hl; simpa using this))
                have d0 : (x != y) = true := by simpa using hxy
                replace hxy := Lib.hid hxy
                replace hsame := Lib.hid hsame
                replace hI2 := Lib.hid hI2
                clear hI
                go_wp2_with fail
                go_quiet (fail)
                go_wp2_with fail
                go_ret
                refine ⟨_, rfl, Lib.hid ⟨fun q => absurd q (by rw [hI2.out]; simp), fun _ => ⟨_, rfl, ?_⟩⟩, (below_dn hBf _).alloc (by simpa using yf) _⟩
                rw [hI2.out]
                exact (own_lit2 _ 2 _ _ (lo := w.heap.size) (by simpa using yf)).more (Nat.le_refl _) (by simp)
        · have hI2 : Hid (ParI fl R (a + 1) (a + 2)) := Lib.hid (hI.out.next (by rw [hnn.out]; omega))
          clear hI
          go_wp2_with fail
          go_roundw
          case measure => simp [intOf] <;> omega
          case rel => exact ⟨a + 1, N, f, by go_num, by omega, by omega, hI2, hC⟩
    · have hI2 : parL fl R = [] := hI.out.none (by rw [hnn.out]; omega)
      have hBw := hC.bel
      replace hI2 := Lib.hid hI2
      clear hI hC
      go_wp2_with fail
      go_ret
      exact ⟨_, rfl, Lib.hid ⟨fun _ => rfl, fun q => absurd hI2.out q⟩, hBw⟩
end Go.Proofs.YtebdfhkimnlglaaDoor
/- ConN -/
namespace Go.Proofs.YtebdfhkimnlglaaDoor
open Go.RowKit
set_option linter.unusedVariables false
set_option maxRecDepth 100000
theorem flat_get {α : Type} {n : Nat} : ∀ {VS : List (List α)} {i a : Nat} {vs : List α} {v : α}, (∀ vs ∈ VS, vs.length = n) → VS[i]? = some vs → vs[a]? = some v → VS.flatten[i * n + a]? = some v
  | [], i, a, vs, v, _, h, _ => by simp at h
  | u :: VS, 0, a, vs, v, hl, h, hv => by
    simp at h
    subst h
    have := (List.getElem?_eq_some_iff.1 hv).1
    rw [List.flatten_cons, Nat.zero_mul, Nat.zero_add, List.getElem?_append_left this]
    exact hv
  | u :: VS, i + 1, a, vs, v, hl, h, hv => by
    have hu := hl u (by simp)
    rw [List.getElem?_cons_succ] at h
    have := flat_get (n := n) (VS := VS) (fun x hx => hl x (by simp [hx])) h hv
    rw [List.flatten_cons, List.getElem?_append_right (by rw [hu, Nat.succ_mul]; omega), hu, show (i + 1) * n + a - n = i * n + a by rw [Nat.succ_mul]; omega]
    exact this
theorem flat_set {α : Type} {n : Nat} : ∀ {VS : List (List α)} {i a : Nat} {vs : List α} {v : α}, (∀ vs ∈ VS, vs.length = n) → VS[i]? = some vs → a < n → (VS.set i (vs.set a v)).flatten = VS.flatten.set (i * n + a) v
  | [], i, a, vs, v, _, h, _ => by simp at h
  | u :: VS, 0, a, vs, v, hl, h, ha => by
    simp at h
    subst h
    have hu := hl u (by simp)
    rw [List.set_cons_zero, List.flatten_cons, List.flatten_cons, Nat.zero_mul, Nat.zero_add, List.set_append_left _ _ (by omega)]
  | u :: VS, i + 1, a, vs, v, hl, h, ha => by
    have hu := hl u (by simp)
    rw [List.getElem?_cons_succ] at h
    have := flat_set (n := n) (VS := VS) (v := v) (fun x hx => hl x (by simp [hx])) h ha
    rw [List.set_cons_succ, List.flatten_cons, List.flatten_cons, this, List.set_append_right _ _ (by rw [hu, Nat.succ_mul]; omega), hu, show (i + 1) * n + a - n = i * n + a by rw [Nat.succ_mul]; omega]
theorem flat_len {α : Type} {n : Nat} : ∀ {VS : List (List α)}, (∀ vs ∈ VS, vs.length = n) → VS.flatten.length = VS.length * n
  | [], _ => by simp
  | u :: VS, h => by rw [List.flatten_cons, List.length_append, h u (by simp), flat_len (fun x hx => h x (by simp [hx])), List.length_cons, Nat.succ_mul]; omega
/-- the rows of rows -/
def midsE (n : Nat) (vms : List Value) (VS : List (List Value)) : List Ent := List.zipWith (fun v vs => ⟨22, v, n, vs⟩) vms VS
theorem midsE_get {n i : Nat} {vms : List Value} {VS : List (List Value)} {v : Value} {vs : List Value} (h1 : vms[i]? = some v) (h2 : VS[i]? = some vs) : (midsE n vms VS)[i]? = some ⟨22, v, n, vs⟩ := by
  unfold midsE
  rw [List.getElem?_zipWith, h1, h2]
theorem midsE_len {n : Nat} {vms : List Value} {VS : List (List Value)} (h : vms.length = VS.length) : (midsE n vms VS).length = VS.length := by
  unfold midsE
  rw [List.length_zipWith]
  omega
theorem midsE_set {n i : Nat} {vms : List Value} {VS : List (List Value)} {v : Value} {vs : List Value} (h1 : vms[i]? = some v) : midsE n vms (VS.set i vs) = (midsE n vms VS).set i ⟨22, v, n, vs⟩ := by
  unfold midsE
  apply List.ext_getElem?
  intro j
  rw [List.getElem?_zipWith, List.getElem?_set, List.getElem?_set, List.getElem?_zipWith]
  by_cases e : i = j
  · subst e
    rw [if_pos rfl, if_pos rfl, h1]
    by_cases h2 : i < VS.length
    · rw [if_pos h2, if_pos (by have := (List.getElem?_eq_some_iff.1 h1).1; rw [List.length_zipWith]; omega)]
    · rw [if_neg h2, if_neg (by rw [List.length_zipWith]; omega)]
  · rw [if_neg e, if_neg e]
/-- the memory of a three-level slice -/
structure NB (w wq : World) (A : Option Addr) (r c n : Nat) (vms : List Value) (VS : List (List Value)) (ZS : List (List (List Int))) : Prop where
  bag : Bag wq w.heap.size wq.heap.size (⟨23, .slice A r c, r, vms⟩ :: (midsE n vms VS ++ rowsE 2 VS.flatten ZS.flatten))
  l1 : vms.length = r
  l2 : VS.length = r
  l3 : ZS.length = r
  l4 : ∀ vs ∈ VS, vs.length = n
  l5 : ∀ zs ∈ ZS, zs.length = n
  bel : Below w.heap.size w wq
section
variable {w wq w2 : World} {A : Option Addr} {r c n : Nat} {vms : List Value} {VS : List (List Value)} {ZS : List (List (List Int))}
theorem NB.below (b : NB w wq A r c n vms VS ZS) (f : Below wq.heap.size wq w2) : NB w w2 A r c n vms VS ZS :=
  ⟨(b.bag.below f (Nat.le_refl _)).more f.size, b.l1, b.l2, b.l3, b.l4, b.l5, b.bel.trans (f.mono b.bel.size)⟩
theorem NB.hdr (b : NB w wq A r c n vms VS ZS) : Own wq w.heap.size wq.heap.size 23 A r c vms := b.bag.getO (j := 0) rfl
/-- row of rows i -/
theorem NB.mid (b : NB w wq A r c n vms VS ZS) {i : Nat} (hi : i < r) : ∃ A1 c1 vs, vms[i]? = some (.slice A1 n c1) ∧ VS[i]? = some vs ∧ Own wq w.heap.size wq.heap.size 22 A1 n c1 vs := by
  have h1 : vms[i]? = some (vms[i]'(by have := b.l1; omega)) := List.getElem?_eq_getElem _
  have h2 : VS[i]? = some (VS[i]'(by have := b.l2; omega)) := List.getElem?_eq_getElem _
  have h3 := midsE_get (n := n) h1 h2
  have h4 : (⟨22, vms[i]'(by have := b.l1; omega), n, VS[i]'(by have := b.l2; omega)⟩ : Ent) ∈ (⟨23, .slice A r c, r, vms⟩ :: (midsE n vms VS ++ rowsE 2 VS.flatten ZS.flatten) : List Ent) := List.mem_cons_of_mem _ (List.mem_append_left _ (List.mem_of_getElem? h3))
  have h5 := b.bag.own _ h4
  obtain ⟨A1, c1, e⟩ := slice_of_own' h5
  have e' : vms[i]'(by have := b.l1; omega) = .slice A1 n c1 := e
  refine ⟨A1, c1, _, by rw [h1, e'], h2, by rw [← e']; exact h5, fun a ha => ?_⟩
  exact b.bag.lt _ h4 a.block (by show (vms[i]'(by have := b.l1; omega)).ownBlock = _; rw [e']; simp [Value.ownBlock, ha])
theorem NB.leaf (b : NB w wq A r c n vms VS ZS) {i a : Nat} {vs : List Value} {zs : List (List Int)} {v : Value} {ys : List Int} (h1 : VS[i]? = some vs) (h2 : vs[a]? = some v) (h3 : ZS[i]? = some zs) (h4 : zs[a]? = some ys) :
    ∃ A1 n1 c1, v = .slice A1 n1 c1 ∧ Own wq w.heap.size wq.heap.size 2 A1 n1 c1 (ys.map (Value.int .i64)) :=
  b.bag.row (fun e he => List.mem_cons_of_mem _ (List.mem_append_right _ he)) (flat_get b.l4 h1 h2) (flat_get b.l5 h3 h4)
/-- the whole is read -/
theorem NB.r3 (b : NB w wq A r c n vms VS ZS) : R3 wq w.heap.size wq.heap.size A r ZS := by
  refine ⟨vms, b.hdr.rd, by rw [b.l1, b.l3], fun k v zs h1 h2 => ?_⟩
  have hk : k < r := by have := (List.getElem?_eq_some_iff.1 h1).1; have := b.l1; omega
  obtain ⟨A1, c1, vs, e1, e2, o⟩ := b.mid hk
  rw [e1] at h1
  refine ⟨A1, n, c1, (Option.some.inj h1).symm, vs, o.rd, ?_, fun j u ys g1 g2 => ?_⟩
  · rw [b.l4 vs (List.mem_of_getElem? e2), b.l5 zs (List.mem_of_getElem? h2)]
  · obtain ⟨A2, n2, c2, e, o2⟩ := b.leaf e2 g1 h2 g2
    exact ⟨A2, n2, c2, e, o2.ri⟩
/-- a row has got one more number: it was appended to, and its new place was stored -/
theorem NB.app (b : NB w wq A r c n vms VS ZS) {i a : Nat} {vs : List Value} {zs : List (List Int)} {A1 : Option Addr} {c1 : Nat} {Al : Option Addr} {nl cl : Nat} {ys : List Int} {x : Int} (h0 : vms[i]? = some (.slice A1 n c1)) (h1 : VS[i]? = some vs) (h2 : vs[a]? = some (.slice Al nl cl)) (h3 : ZS[i]? = some zs) (h4 : zs[a]? = some ys) (ha : a < n)
    {w5 : World} {g4 c4 gm : Nat} (ho : w5.ownsRow w.heap.size 2 1 (.slice (some ⟨g4, 0, none⟩) (nl + 1) c4) (nl + 1) ((ys ++ [x]).map (Value.int .i64))) (hg : wq.grownBy w5 (Value.slice Al nl cl).ownBlock) (hor : (Value.slice Al nl cl).ownBlock = some g4 ∨ wq.heap.size ≤ g4) (hA1 : A1 = some ⟨gm, 0, none⟩) :
    NB w (w5.setCell ⟨gm, a, none⟩ (.slice (some ⟨g4, 0, none⟩) (nl + 1) c4)) A r c n vms (VS.set i (vs.set a (.slice (some ⟨g4, 0, none⟩) (nl + 1) c4))) (ZS.set i (zs.set a (ys ++ [x]))) := by
  subst hA1
  have hleaf := flat_get b.l4 h1 h2
  have hzl := flat_get b.l5 h3 h4
  have hil : i < VS.length := (List.getElem?_eq_some_iff.1 h1).1
  have hvm := b.l1
  have hvs := b.l2
  have hml := midsE_len (n := n) (vms := vms) (VS := VS) (by omega)
  have hys : ys.length = nl := by
    obtain ⟨A2, n2, c2, e, o2⟩ := b.leaf h1 h2 h3 h4
    injection e with _ e2 _
    have := o2.lenI
    omega
  have hk2 : (⟨23, .slice A r c, r, vms⟩ :: (midsE n vms VS ++ rowsE 2 VS.flatten ZS.flatten) : List Ent)[1 + (VS.length + (i * n + a))]? = some ⟨2, .slice Al nl cl, ys.length, ys.map (Value.int .i64)⟩ := by
    rw [show 1 + (VS.length + (i * n + a)) = (VS.length + (i * n + a)) + 1 by omega, List.getElem?_cons_succ, List.getElem?_append_right (by omega), hml, Nat.add_sub_cancel_left]
    exact rowsE_get hleaf hzl
  have b1 := b.bag.set (e' := ⟨2, .slice (some ⟨g4, 0, none⟩) (nl + 1) c4, (ys ++ [x]).length, (ys ++ [x]).map (Value.int .i64)⟩) hk2 (Nat.le_refl _) (by rw [List.length_append, List.length_singleton, hys]; exact ho) hg (fun z hz => by
    have hz' : g4 = z := by simpa [Value.ownBlock] using hz
    subst hz'
    exact hor)
  have e1 : (⟨23, .slice A r c, r, vms⟩ :: (midsE n vms VS ++ rowsE 2 VS.flatten ZS.flatten) : List Ent).set (1 + (VS.length + (i * n + a))) ⟨2, .slice (some ⟨g4, 0, none⟩) (nl + 1) c4, (ys ++ [x]).length, (ys ++ [x]).map (Value.int .i64)⟩ = ⟨23, .slice A r c, r, vms⟩ :: (midsE n vms VS ++ rowsE 2 (VS.flatten.set (i * n + a) (.slice (some ⟨g4, 0, none⟩) (nl + 1) c4)) (ZS.flatten.set (i * n + a) (ys ++ [x]))) := by
    rw [show 1 + (VS.length + (i * n + a)) = (VS.length + (i * n + a)) + 1 by omega, List.set_cons_succ, List.set_append_right _ _ (by omega), hml, Nat.add_sub_cancel_left, ← rowsE_set]
  rw [e1] at b1
  have hk3 : (⟨23, .slice A r c, r, vms⟩ :: (midsE n vms VS ++ rowsE 2 (VS.flatten.set (i * n + a) (.slice (some ⟨g4, 0, none⟩) (nl + 1) c4)) (ZS.flatten.set (i * n + a) (ys ++ [x]))) : List Ent)[1 + i]? = some ⟨22, .slice (some ⟨gm, 0, none⟩) n c1, n, vs⟩ := by
    rw [Nat.add_comm 1 i, List.getElem?_cons_succ, List.getElem?_append_left (by omega)]
    exact midsE_get h0 h1
  have b2 := b1.store (k := a) hk3 (Nat.le_refl _) (.slice (some ⟨g4, 0, none⟩) (nl + 1) c4)
  have hgm : w.heap.size ≤ gm := by
    have := b1.own _ (List.mem_of_getElem? hk3)
    exact (this.lt gm (by simp [Value.ownBlock])).1
  have hal : ∀ z, (Value.slice Al nl cl).ownBlock = some z → w.heap.size ≤ z := fun z hz => by
    have := b.bag.own _ (List.mem_of_getElem? hk2)
    exact (this.lt z hz).1
  refine ⟨?_, b.l1, by rw [List.length_set]; exact b.l2, by rw [List.length_set]; exact b.l3, fun u hu => ?_, fun u hu => ?_, (b.bel.grown hg b.bel.size hal).setCell hgm _⟩
  · rw [flat_set b.l4 h1 ha, flat_set b.l5 h3 ha, midsE_set h0]
    rw [Nat.add_comm 1 i, List.set_cons_succ, List.set_append_left _ _ (by omega)] at b2
    simpa using b2
  · rcases List.mem_or_eq_of_mem_set hu with hu | rfl
    · exact b.l4 u hu
    · rw [List.length_set]; exact b.l4 vs (List.mem_of_getElem? h1)
  · rcases List.mem_or_eq_of_mem_set hu with hu | rfl
    · exact b.l5 u hu
    · rw [List.length_set]; exact b.l5 zs (List.mem_of_getElem? h3)
/-- one more row of rows, of n nil ones -/
theorem NB.push (b : NB w wq A r c n vms VS ZS) {w5 w6 : World} {g5 g6 c6 : Nat} (ho5 : w5.ownsRow wq.heap.size 22 1 (.slice (some ⟨g5, 0, none⟩) n n) n (List.replicate n (.slice none 0 0))) (f5 : Below wq.heap.size wq w5)
    (ho : w6.ownsRow w.heap.size 23 1 (.slice (some ⟨g6, 0, none⟩) (r + 1) c6) (r + 1) (vms ++ [.slice (some ⟨g5, 0, none⟩) n n])) (hg : w5.grownBy w6 (Value.slice A r c).ownBlock) (hor : (Value.slice A r c).ownBlock = some g6 ∨ w5.heap.size ≤ g6) :
    NB w w6 (some ⟨g6, 0, none⟩) (r + 1) c6 n (vms ++ [.slice (some ⟨g5, 0, none⟩) n n]) (VS ++ [List.replicate n (.slice none 0 0)]) (ZS ++ [List.replicate n []]) := by
  have hzw := b.bel.size
  have z5 := f5.size
  have z6 := hg.size
  have hvm := b.l1
  have hvs := b.l2
  have hzs := b.l3
  have b1 := b.bag.below f5 (Nat.le_refl _)
  have b2 := Bag.ins (P := ⟨23, .slice A r c, r, vms⟩ :: midsE n vms VS) (Q := rowsE 2 VS.flatten ZS.flatten) (e := ⟨22, .slice (some ⟨g5, 0, none⟩) n n, n, List.replicate n (.slice none 0 0)⟩) (hi' := w5.heap.size) (by simpa using b1) hzw z5 ho5 (fun z hz => (ho5.lt z hz).2)
  have hnil : ∀ m : Nat, Bag w5 w.heap.size w5.heap.size ((⟨23, .slice A r c, r, vms⟩ :: midsE n vms VS ++ ⟨22, .slice (some ⟨g5, 0, none⟩) n n, n, List.replicate n (.slice none 0 0)⟩ :: rowsE 2 VS.flatten ZS.flatten) ++ List.replicate m ⟨2, .slice none 0 0, 0, []⟩) := by
    intro m
    induction m with
    | zero => simpa using b2
    | succ m ih =>
      rw [List.replicate_succ', ← List.append_assoc]
      have := Bag.ins (Q := []) (e := ⟨2, .slice none 0 0, 0, []⟩) (hi' := w5.heap.size) (by simpa using ih) (by omega) (Nat.le_refl _) (World.ownsRow_nil w5 w5.heap.size 2 1) (fun z hz => by simp [Value.ownBlock] at hz)
      simpa using this
  have b3 := hnil n
  have e1 : rowsE 2 (VS ++ [List.replicate n (Value.slice none 0 0)]).flatten (ZS ++ [List.replicate n ([] : List Int)]).flatten = rowsE 2 VS.flatten ZS.flatten ++ List.replicate n ⟨2, .slice none 0 0, 0, []⟩ := by
    unfold rowsE
    rw [List.flatten_append, List.flatten_append, List.zipWith_append (by rw [flat_len b.l4, flat_len b.l5, hvs, hzs])]
    congr 1
    apply List.ext_getElem?
    intro j
    simp only [List.flatten_cons, List.flatten_nil, List.append_nil, List.getElem?_zipWith, List.getElem?_replicate]
    by_cases hj : j < n
    · simp [hj]
    · simp [hj]
  have e2 : midsE n (vms ++ [.slice (some ⟨g5, 0, none⟩) n n]) (VS ++ [List.replicate n (.slice none 0 0)]) = midsE n vms VS ++ [⟨22, .slice (some ⟨g5, 0, none⟩) n n, n, List.replicate n (.slice none 0 0)⟩] := by
    unfold midsE
    rw [List.zipWith_append (by omega)]
    rfl
  have b4 := b3.set (j := 0) (e := ⟨23, .slice A r c, r, vms⟩) (e' := ⟨23, .slice (some ⟨g6, 0, none⟩) (r + 1) c6, r + 1, vms ++ [.slice (some ⟨g5, 0, none⟩) n n]⟩) rfl (Nat.le_refl _) ho hg (fun z hz => by
    have hz' : g6 = z := by simpa [Value.ownBlock] using hz
    subst hz'
    exact hor)
  have hal : ∀ z, (Value.slice A r c).ownBlock = some z → w.heap.size ≤ z := fun z hz => ((b.bag.get (j := 0) rfl).lt z hz).1
  refine ⟨?_, by simp; omega, by simp; omega, by simp; omega, fun u hu => ?_, fun u hu => ?_, (b.bel.trans (f5.mono hzw)).grown hg (by omega) hal⟩
  · rw [e1, e2]
    simpa using b4
  · rcases List.mem_append.1 hu with hu | hu
    · exact b.l4 u hu
    · simp at hu; subst hu; simp
  · rcases List.mem_append.1 hu with hu | hu
    · exact b.l5 u hu
    · simp at hu; subst hu; simp
end
end Go.Proofs.YtebdfhkimnlglaaDoor
/- ConO -/
namespace Go.Proofs.YtebdfhkimnlglaaDoor
open Go.RowKit
set_option linter.unusedVariables false
set_option maxRecDepth 100000
/-- the near lists, of which m says how far each is made -/
noncomputable def zM (fl : List (List Int)) (R : Nat) (m : Nat → Nat → Nat) : List (List (List Int)) := (List.range R).map fun i => (List.range fl.length).map fun x => nearL fl R i x (m i x)
theorem zM_ext {fl : List (List Int)} {R : Nat} {m m' : Nat → Nat → Nat} (h : ∀ i x, i < R → x < fl.length → nearL fl R i x (m i x) = nearL fl R i x (m' i x)) : zM fl R m = zM fl R m' := by
  unfold zM
  refine List.map_congr_left fun i hi => List.map_congr_left fun x hx => h i x (List.mem_range.1 hi) (List.mem_range.1 hx)
theorem zM_get {fl : List (List Int)} {R i : Nat} {m : Nat → Nat → Nat} (hi : i < R) : (zM fl R m)[i]? = some ((List.range fl.length).map fun x => nearL fl R i x (m i x)) := by simp [zM, hi]
theorem zM_get2 {fl : List (List Int)} {R i a : Nat} {m : Nat → Nat → Nat} (ha : a < fl.length) : ((List.range fl.length).map fun x => nearL fl R i x (m i x))[a]? = some (nearL fl R i a (m i a)) := by simp [ha]
theorem zM_set {fl : List (List Int)} {R i a : Nat} {m m' : Nat → Nat → Nat} {ys : List Int} (hi : i < R) (ha : a < fl.length) (hy : ys = nearL fl R i a (m' i a)) (h : ∀ i' x, i' < R → x < fl.length → (i' ≠ i ∨ x ≠ a) → nearL fl R i' x (m i' x) = nearL fl R i' x (m' i' x)) :
    (zM fl R m).set i (((List.range fl.length).map fun x => nearL fl R i x (m i x)).set a ys) = zM fl R m' := by
  apply List.ext_getElem?
  intro j
  rw [List.getElem?_set]
  by_cases e : i = j
  · subst e
    rw [if_pos rfl, if_pos (by simp [zM]; exact hi), zM_get hi]
    congr 1
    apply List.ext_getElem?
    intro x
    rw [List.getElem?_set]
    by_cases ex : a = x
    · subst ex
      rw [if_pos rfl, if_pos (by simp; exact ha), hy]
      simp [ha]
    · rw [if_neg ex]
      by_cases hx : x < fl.length
      · simp [hx, h i x hi hx (.inr fun q => ex q.symm)]
      · rw [List.getElem?_eq_none (by simp; omega), List.getElem?_eq_none (by simp; omega)]
  · rw [if_neg e]
    by_cases hj : j < R
    · rw [zM_get hj, zM_get hj]
      congr 1
      exact List.map_congr_left fun x hx => h j x hj (List.mem_range.1 hx) (.inl fun q => e q.symm)
    · rw [List.getElem?_eq_none (by simp [zM]; omega), List.getElem?_eq_none (by simp [zM]; omega)]
def mB (n a b : Nat) (i x : Nat) : Nat := if x < a then n else if x = a then b else 0
def mI (n a b i0 : Nat) (i x : Nat) : Nat := if x < a then n else if x = a then (if i < i0 then b + 1 else b) else 0
theorem zM_start (fl : List (List Int)) (R : Nat) : zM fl R (mB fl.length 0 0) = List.replicate R (List.replicate fl.length []) := by
  unfold zM
  apply List.ext_getElem?
  intro i
  rw [List.getElem?_replicate]
  by_cases hi : i < R
  · rw [if_pos hi]
    simp only [List.getElem?_map, List.getElem?_range hi, Option.map_some]
    congr 1
    apply List.ext_getElem?
    intro x
    rw [List.getElem?_replicate]
    by_cases hx : x < fl.length
    · rw [if_pos hx]
      simp only [List.getElem?_map, List.getElem?_range hx, Option.map_some]
      congr 1
      unfold mB
      rw [if_neg (by omega)]
      split <;> simp [nearL]
    · rw [if_neg hx, List.getElem?_eq_none (by simp; omega)]
  · rw [if_neg hi, List.getElem?_eq_none (by simp; omega)]
theorem zM_I0 (fl : List (List Int)) (R n a b : Nat) : zM fl R (mI n a b 0) = zM fl R (mB n a b) := zM_ext fun i x _ _ => by unfold mI mB; simp
theorem zM_IR (fl : List (List Int)) (R n a b : Nat) : zM fl R (mI n a b R) = zM fl R (mB n a (b + 1)) := zM_ext fun i x hi _ => by unfold mI mB; simp [hi]
theorem zM_next (fl : List (List Int)) (R a : Nat) : zM fl R (mB fl.length a fl.length) = zM fl R (mB fl.length (a + 1) 0) := zM_ext fun i x _ _ => by
  unfold mB
  by_cases h1 : x < a
  · rw [if_pos h1, if_pos (by omega)]
  · by_cases h2 : x = a
    · rw [if_neg h1, if_pos h2, if_pos (by omega)]
    · rw [if_neg h1, if_neg h2, if_neg (by omega)]
      by_cases h3 : x = a + 1
      · rw [if_pos h3]
      · rw [if_neg h3]
theorem zM_end (fl : List (List Int)) (R : Nat) : zM fl R (mB fl.length fl.length 0) = nearA fl R := by
  unfold zM nearA
  refine List.map_congr_left fun i hi => List.map_congr_left fun x hx => ?_
  unfold mB
  rw [if_pos (List.mem_range.1 hx)]
/-- no element differs alone: nothing is put in -/
theorem zM_pass {fl : List (List Int)} {R a b : Nat} (n : Nat) (h : difN (fl.getD a []) (fl.getD b []) R ≠ 1) : zM fl R (mB n a b) = zM fl R (mB n a (b + 1)) := zM_ext fun i x _ _ => by
  unfold mB
  by_cases h1 : x < a
  · rw [if_pos h1, if_pos h1]
  · by_cases h2 : x = a
    · subst h2
      rw [if_neg h1, if_pos rfl, if_neg h1, if_pos rfl]
      exact ((nearL_succ fl R i x b).2 (fun hd => h hd.1)).symm
    · rw [if_neg h1, if_neg h2, if_neg h1, if_neg h2]
theorem zM_same {fl : List (List Int)} {R a b i : Nat} (n : Nat) (h : at2 fl a i = at2 fl b i) : zM fl R (mI n a b i) = zM fl R (mI n a b (i + 1)) := zM_ext fun i' x _ _ => by
  unfold mI
  by_cases h1 : x < a
  · rw [if_pos h1, if_pos h1]
  · by_cases h2 : x = a
    · subst h2
      rw [if_neg h1, if_pos rfl, if_neg h1, if_pos rfl]
      by_cases e : i' = i
      · subst e
        rw [if_neg (by omega), if_pos (by omega)]
        exact ((nearL_succ fl R i' x b).2 (fun hd => hd.2 h)).symm
      · by_cases e2 : i' < i
        · rw [if_pos e2, if_pos (by omega)]
        · rw [if_neg e2, if_neg (by omega)]
    · rw [if_neg h1, if_neg h2, if_neg h1, if_neg h2]
theorem zM_diff {fl : List (List Int)} {R a b i : Nat} (n : Nat) (hi : i < R) (ha : a < fl.length) (hd : difN (fl.getD a []) (fl.getD b []) R = 1) (h : at2 fl a i ≠ at2 fl b i) :
    (zM fl R (mI n a b i)).set i (((List.range fl.length).map fun x => nearL fl R i x (mI n a b i i x)).set a (nearL fl R i a (mI n a b i i a) ++ [(b : Int)])) = zM fl R (mI n a b (i + 1)) := by
  refine zM_set hi ha ?_ fun i' x _ _ hne => ?_
  · have e1 : mI n a b i i a = b := by unfold mI; rw [if_neg (by omega), if_pos rfl, if_neg (by omega)]
    have e2 : mI n a b (i + 1) i a = b + 1 := by unfold mI; rw [if_neg (by omega), if_pos rfl, if_pos (by omega)]
    rw [e1, e2]
    exact ((nearL_succ fl R i a b).1 ⟨hd, h⟩).symm
  · congr 1
    unfold mI
    by_cases h1 : x < a
    · rw [if_pos h1, if_pos h1]
    · by_cases h2 : x = a
      · rcases hne with hne | hne
        · rw [if_neg h1, if_pos h2, if_neg h1, if_pos h2]
          by_cases e2 : i' < i
          · rw [if_pos e2, if_pos (by omega)]
          · rw [if_neg e2, if_neg (by omega)]
        · exact absurd h2 hne
      · rw [if_neg h1, if_neg h2, if_neg h1, if_neg h2]
end Go.Proofs.YtebdfhkimnlglaaDoor
/- ConW -/
namespace Go.Proofs.YtebdfhkimnlglaaDoor
open Go.RowKit
set_option linter.unusedVariables false
set_option maxRecDepth 100000
theorem info3 : (Tryd.prog.info? 23).map (fun i => (i.zero, i.size, i.bytes)) = some (some (.slice none 0 0), 1, 24) := by kernel_rfl
theorem NB.start (w : World) (n : Nat) : NB w (w.alloc (.cells #[] 23)) (some ⟨w.heap.size, 0, none⟩) 0 0 n [] [] [] := by
  have h0 := World.ownsRow_lit (e := 23) (base := w.heap.size) (size := 1) w #[] 0 (Nat.le_refl _) (by omega) rfl
  have b0 := Bag.ins (P := []) (Q := []) (e := ⟨23, .slice (some ⟨w.heap.size, 0, none⟩) 0 0, 0, []⟩) (hi := w.heap.size) (hi' := (w.alloc (.cells #[] 23)).heap.size) (Bag.nil (lo := w.heap.size)) (Nat.le_refl _) (by simp) h0 (fun z hz => by simp [Value.ownBlock] at hz; subst hz; simp)
  exact ⟨b0, rfl, rfl, rfl, fun _ h => by simp at h, fun _ h => by simp at h, (Below.refl _ _).alloc (Nat.le_refl _) _⟩
set_option maxHeartbeats 8000000 in
theorem l03Near_any (fl : List (List Int)) (R : Nat) (hf : FlOk R fl) (h0 : 0 < fl.length) (A : Option Addr) (c : Nat) (w : World) {lo hi : Nat} (h : RS w lo hi A fl.length fl) (hhi : hi ≤ w.heap.size) :
    Calls Tryd.prog 25 #[.slice A fl.length c] w fun e w' => ∃ (A1 : Option Addr) (c1 : Nat), e = .returned (.slice A1 R c1) ∧ R3 w' w.heap.size w'.heap.size A1 R (nearA fl R) ∧ Below w.heap.size w w' := by
  obtain ⟨s0, hs0, hu0, hu1, hu2⟩ := info_parts infoS
  obtain ⟨t0, ht0, hv0, hv1, hv2⟩ := info_parts info3
  obtain ⟨j0, hj0, hy0, hy1, hy2⟩ := info_parts infoI
  have hR5 := hf.r5
  have hn4 := hf.n4
  have hlen : ∀ t ∈ fl, t.length = R := hf.len
  have hz0 := zM_start fl R
  obtain ⟨n, hnn⟩ : ∃ n, fl.length = n := ⟨_, rfl⟩
  have hzn := hnn
  rw [hnn] at h h0 hn4 hz0 ⊢
  have hm := h.max
  obtain ⟨bf, of_, A0, n0, c0, t00, rfl, _, hbf, ht00, htc0, htr0⟩ := h.at_ (k := 0) h0
  have hn0 : n0 = R := by have := htr0.len; have := hlen t00 (mem_of_get? ht00); omega
  subst hn0
  have st0 := NB.start w n
  have hdp : (0 : Int) < (n : Int) := by omega
  rw [Nat.add_zero] at htc0
  replace hf := Lib.hid hf
  replace hlen := Lib.hid hlen
  replace hnn := Lib.hid hnn
  replace hzn := Lib.hid hzn
  replace hz0 := Lib.hid hz0
  replace ht00 := Lib.hid ht00
  go_enter Tryd.func25, Tryd.ntmps25
  go_wp2_with fail
  obtain ⟨W1, hW⟩ : ∃ W1 : World, w.alloc (.cells #[] 23) = W1 := ⟨_, rfl⟩
  rw [hW] at st0 ⊢
  clear hW
  go_loopw [4, 3] (fun iv ov wq => ∃ (i : Nat) (A3 : Option Addr) (c3 : Nat) (vms : List Value) (VS : List (List Value)) (ZS : List (List (List Int))), iv = .int .i64 i ∧ ov = .slice A3 i c3 ∧ i ≤ n0 ∧ Hid (ZS = List.replicate i (List.replicate n [])) ∧ NB w wq A3 i c3 n vms VS ZS) (fun iv _ _ => n0 - (intOf iv).toNat)
  case atStart => exact ⟨0, _, 0, [], [], [], rfl, rfl, by omega, Lib.hid rfl, st0⟩
  case round =>
    clear st0
    obtain ⟨i, A3, c3, vms, VS, ZS, rfl, rfl, hi0, hZ, hN⟩ := hrel
    have yB := hN.bel.size
    have htc := (hN.bel.cell (p := ⟨bf, of_, none⟩) (by simp; omega)).trans htc0
    by_cases hin : i < n0
    · have i1 : (i : Int) < (n0 : Int) := by omega
      go_wp2_with (at_make; refine wpList_make_full _ rfl _ _ 23 rfl wr.heap.size 22 s0 (.slice none 0 0) 1 Tryd.underlying23 hs0 hu0 hu1 _ _ _ _ n rfl rfl rfl rfl ?c1 ?c2 (Nat.le_refl _) ?_)
      case c1 => rw [hu2]; omega
      case c2 => simp only [maxLen]; omega
      intro w5 hown hg5
      have f5 : Below wr.heap.size wr w5 := below_of_grown hg5 (Nat.le_refl _) (by simp)
      have ho5 : w5.ownsRow wr.heap.size 22 1 (.slice (some ⟨wr.heap.size, 0, none⟩) n n) n (List.replicate n (.slice none 0 0)) := by simpa [toList_madeCells_one, Value.cells] using hown
      have y5 := f5.size
      have hh := (hN.hdr.below f5 (Nat.le_refl _)).1
      clear hown hg5 htc
      go_wp2_with (at_builtin; refine wpList_append1 w5 rfl (.tmp 22) (.tmp 26) 46 rfl w.heap.size 23 t0 (.slice none 0 0) 24 Tryd.underlying46 ht0 hv0 hv1 hv2 rfl (by omega) A3 i c3 _ (.slice (some ⟨wr.heap.size, 0, none⟩) n n) rfl hh _ rfl rfl rfl (by omega) (by omega) ?_)
      intro g6 c6 w6 ho6 hg6 hlo6 hlt6 hor6
      have hN6 := hN.push ho5 f5 ho6 hg6 (by
        rcases hor6 with e | e
        · left; rw [e]; rfl
        · exact .inr e)
      have hZ6 : Hid (ZS ++ [List.replicate n []] = List.replicate (i + 1) (List.replicate n [])) := Lib.hid (by rw [List.replicate_succ', hZ.out])
      clear hN ho5 f5 ho6 hg6 hor6 hh hZ
      go_wp2_with fail
      go_roundw
      case measure => simp [intOf] <;> omega
      case rel => exact ⟨i + 1, _, c6, _, _, _, by go_num, rfl, by omega, hZ6, hN6⟩
    · obtain rfl : i = n0 := by omega
      have i1 : ¬ (i : Int) < (i : Int) := by omega
      have hZ1 : Hid (ZS = zM fl i (mB fl.length 0 0)) := Lib.hid (by rw [hnn.out, hz0.out, hZ.out])
      clear hZ
      go_wp2_with fail
      obtain ⟨wb, hwb⟩ : ∃ wb : World, wb = wr := ⟨_, rfl⟩
      go_loopw [5] (fun av wq => ∃ (a : Nat) (VS : List (List Value)) (ZS : List (List (List Int))), av = .int .i64 a ∧ a ≤ n ∧ Hid (ZS = zM fl i (mB fl.length a 0)) ∧ NB w wq A3 i c3 n vms VS ZS) (fun av _ => n - (intOf av).toNat)
      case atStart => exact ⟨0, VS, ZS, rfl, by omega, hZ1, hN⟩
      case round =>
        clear hZ1 hN htc yB hwb
        obtain ⟨a, VS, ZS, rfl, han, hZ, hN⟩ := hrel
        have yB := hN.bel.size
        by_cases ha : a < n
        · have hZ1 : Hid (ZS = zM fl i (mB fl.length a 0)) := hZ
          clear hZ
          go_wp2_with fail
          go_loopw [6] (fun bv wq => ∃ (b : Nat) (VS : List (List Value)) (ZS : List (List (List Int))), bv = .int .i64 b ∧ b ≤ n ∧ Hid (ZS = zM fl i (mB fl.length a b)) ∧ NB w wq A3 i c3 n vms VS ZS) (fun bv _ => n - (intOf bv).toNat)
          case atStart => exact ⟨0, VS, ZS, rfl, by omega, hZ1, hN⟩
          case round =>
            clear hZ1 hN yB
            obtain ⟨b, VS, ZS, rfl, hbn, hZ, hN⟩ := hrel
            have yB := hN.bel.size
            by_cases hb : b < n
            · obtain ⟨b1, o1, Aa, na, ca, ta, e1, _, _, hta, hca, hra⟩ := (h.below hN.bel hhi).at_ ha
              injection e1 with e1
              injection e1 with e1 e2 _
              subst e1
              subst e2
              obtain ⟨b1, o1, Ab, nb, cb, tb, e1, _, _, htb, hcb, hrb⟩ := (h.below hN.bel hhi).at_ hb
              injection e1 with e1
              injection e1 with e1 e2 _
              subst e1
              subst e2
              have hna : na = i := by have := hra.len; have := hlen.out ta (mem_of_get? hta); omega
              have hnb : nb = i := by have := hrb.len; have := hlen.out tb (mem_of_get? htb); omega
              subst hna
              subst hnb
              have hD := l03Differ_any Aa nb ca ta Ab cb tb wr.drew (hra.keep (fun _ _ _ => rfl)) (hrb.keep (fun _ _ _ => rfl)) (by omega)
              have hga : fl.getD a [] = ta := getD_some hta
              have hgb : fl.getD b [] = tb := getD_some htb
              obtain ⟨d, hd⟩ : ∃ d, difN ta tb nb = d := ⟨_, rfl⟩
              rw [hd] at hD
              have a0 : (0 : Int) ≤ (a : Int) := by omega
              have a1 : (a : Int) < (n : Int) := by omega
              have b0 : (0 : Int) ≤ (b : Int) := by omega
              have b1' : (b : Int) < (n : Int) := by omega
              replace hta := Lib.hid hta
              replace htb := Lib.hid htb
              replace hga := Lib.hid hga
              replace hgb := Lib.hid hgb
              replace hd := Lib.hid hd
              go_wp2_with fail
              go_region_with (go_at_call 40; (with_reducible refine hD.mono ?_); rintro e w5 ⟨rfl, m5, rfl⟩)
              all_goals
                have hN5 : NB w (wr.drewN (1 + m5)) A3 nb c3 n vms VS ZS := hN.below (below_dn (Below.refl _ _) (1 + m5))
                clear hD
                by_cases hd1 : d = 1
                · have dd : ((d : Int) != 1) = false := by simp; omega
                  have hdf : difN (fl.getD a []) (fl.getD b []) nb = 1 := by rw [hga.out, hgb.out, hd.out]; exact hd1
                  have hZ0 : Hid (ZS = zM fl nb (mI fl.length a b 0)) := Lib.hid (by rw [zM_I0]; exact hZ.out)
                  replace hdf := Lib.hid hdf
                  replace hd1 := Lib.hid hd1
                  clear hZ hca hcb hra hrb
                  go_wp2_with fail
                  go_loopw [7] (fun kv wq => ∃ (k : Nat) (VS : List (List Value)) (ZS : List (List (List Int))), kv = .int .i64 k ∧ k ≤ nb ∧ Hid (ZS = zM fl nb (mI fl.length a b k)) ∧ NB w wq A3 nb c3 n vms VS ZS) (fun kv _ => nb - (intOf kv).toNat)
                  case atStart => exact ⟨0, VS, ZS, rfl, by omega, hZ0, hN5⟩
                  case round =>
                    clear hZ0 hN5 hN yB
                    obtain ⟨k, VS, ZS, rfl, hkn, hZ, hN⟩ := hrel
                    have yB := hN.bel.size
                    obtain ⟨b1, o1, Aa, na, ca, ta', e1, _, _, hta', hca, hra⟩ := (h.below hN.bel hhi).at_ ha
                    injection e1 with e1
                    injection e1 with e1 e2 _
                    subst e1
                    subst e2
                    obtain rfl : ta' = ta := by rw [hta.out] at hta'; exact (Option.some.inj hta').symm
                    obtain ⟨b1, o1, Ab, nb2, cb, tb', e1, _, _, htb', hcb, hrb⟩ := (h.below hN.bel hhi).at_ hb
                    injection e1 with e1
                    injection e1 with e1 e2 _
                    subst e1
                    subst e2
                    obtain rfl : tb' = tb := by rw [htb.out] at htb'; exact (Option.some.inj htb').symm
                    have hna : na = nb := by have := hra.len; have := hlen.out ta' (mem_of_get? hta.out); omega
                    have hnb : nb2 = nb := by have := hrb.len; have := hlen.out tb' (mem_of_get? htb.out); omega
                    subst hna
                    subst hnb
                    clear hta' htb'
                    by_cases hk : k < nb2
                    · obtain ⟨b3, o3, x, rfl, _, _, hx, hxc⟩ := hra.at_ hk
                      obtain ⟨b4, o4, y, rfl, _, _, hy, hyc⟩ := hrb.at_ hk
                      have hax : at2 fl a k = x := at2_get hta.out hx
                      have hay : at2 fl b k = y := at2_get htb.out hy
                      have k0 : (0 : Int) ≤ (k : Int) := by omega
                      have k1 : (k : Int) < (nb2 : Int) := by omega
                      replace hx := Lib.hid hx
                      replace hy := Lib.hid hy
                      by_cases hxy : x = y
                      · have hZ2 : Hid (ZS = zM fl nb2 (mI fl.length a b (k + 1))) := Lib.hid (by rw [← zM_same fl.length (by rw [hax, hay, hxy])]; exact hZ.out)
                        have d0 : (x != y) = false := by simpa using hxy
                        replace hxy := Lib.hid hxy
                        clear hZ hax hay
                        go_wp2_with fail
                        go_quiet (fail)
                        go_wp2_with fail
                        have hN2 : NB w (wr.drewN nq) A3 nb2 c3 n vms VS ZS := hN.below (below_dn (Below.refl _ _) nq)
                        go_roundw
                        case measure => simp [intOf] <;> omega
                        case rel => exact ⟨k + 1, VS, ZS, by go_num, by omega, hZ2, hN2⟩
                      · have hne : at2 fl a k ≠ at2 fl b k := by rw [hax, hay]; exact hxy
                        have hZd := zM_diff fl.length hk (show a < fl.length by rw [hnn.out]; exact ha) hdf.out hne
                        have d0 : (x != y) = true := by simpa using hxy
                        replace hxy := Lib.hid hxy
                        replace hne := Lib.hid hne
                        replace hZd := Lib.hid hZd
                        clear hax hay
                        go_wp2_with fail
                        go_quiet (fail)
                        go_wp2_with fail
                        have hN1 : NB w (wr.drewN nq) A3 nb2 c3 n vms VS ZS := hN.below (below_dn (Below.refl _ _) nq)
                        clear hN yB hca hcb hra hrb hxc hyc
                        obtain ⟨wr0, hw0⟩ : ∃ wx : World, wr.drewN nq = wx := ⟨_, rfl⟩
                        rw [hw0] at hN1 ⊢
                        clear hw0
                        have hN := hN1
                        clear hN1
                        have yB := hN.bel.size
                        obtain ⟨gh, vk, rfl, -, hgl, -, hvk, -, hck, -⟩ := hN.hdr.at_ hk
                        obtain ⟨A1, c1, vs, e1, hVk, oM⟩ := hN.mid hk
                        obtain rfl : vk = .slice A1 n c1 := by rw [hvk] at e1; exact Option.some.inj e1
                        obtain ⟨gm, va, rfl, hgm0, hgm, -, hva, -, hcm, -⟩ := oM.at_ ha
                        have hZk : ZS[k]? = some ((List.range fl.length).map fun x => nearL fl nb2 k x (mI fl.length a b k k x)) := by rw [hZ.out]; exact zM_get hk
                        have hZa := zM_get2 (fl := fl) (R := nb2) (i := k) (m := mI fl.length a b k) (show a < fl.length by rw [hnn.out]; exact ha)
                        obtain ⟨Al, nl, cl, rfl, oL⟩ := hN.leaf hVk hva hZk hZa
                        have hZd2 : (zM fl nb2 (mI fl.length a b k)).set k _ = _ := hZd.out
                        obtain ⟨zs, hzs⟩ : ∃ zs, ((List.range fl.length).map fun x => nearL fl nb2 k x (mI fl.length a b k k x)) = zs := ⟨_, rfl⟩
                        have hyl : (nearL fl nb2 k a (mI fl.length a b k k a)).length ≤ n := Nat.le_trans (nearL_len _ _ _ _ _) (by unfold mI; rw [if_neg (by omega), if_pos rfl, if_neg (by omega)]; omega)
                        obtain ⟨ys, hys⟩ : ∃ ys, nearL fl nb2 k a (mI fl.length a b k k a) = ys := ⟨_, rfl⟩
                        rw [hzs] at hZk hZa hZd2
                        rw [hys] at hZa oL hZd2 hyl
                        rw [← hZ.out] at hZd2
                        clear hzs hys hZd hZ
                        have hnl : nl ≤ n := by have := oL.lenI; omega
                        have ob : ∀ z, (Value.slice Al nl cl).ownBlock = some z → w.heap.size ≤ z ∧ z < wr0.heap.size := fun z hz => oL.1.lt z hz
                        have hown' : Hid ((wr0.alloc (.cells #[.int .i64 (b : Int)] 2)).drew.ownsRow w.heap.size 2 1 (.slice Al nl cl) nl (ys.map (Value.int .i64))) := Lib.hid (oL.1.alloc _)
                        have hnew' : Hid (∀ z v, [Value.int .i64 (b : Int)][z]? = some v → (wr0.alloc (.cells #[.int .i64 (b : Int)] 2)).drew.cell? ((⟨wr0.heap.size, 0, none⟩ : Addr).add z) = some v) := Lib.hid (cell_one_new wr0 _ _)
                        have hml : Hid (nl + 1 ≤ maxLen) := Lib.hid (by simp only [maxLen]; omega)
                        have hbs : Hid (w.heap.size ≤ (wr0.alloc (.cells #[.int .i64 (b : Int)] 2)).drew.heap.size) := Lib.hid (by simp; omega)
                        have oHa : Hid ((wr0.alloc (.cells #[.int .i64 (b : Int)] 2)).drew.ownsRow w.heap.size 23 1 (.slice (some ⟨gh, 0, none⟩) nb2 c3) nb2 vms) := Lib.hid (hN.hdr.1.alloc _)
                        have oMa : Hid ((wr0.alloc (.cells #[.int .i64 (b : Int)] 2)).drew.ownsRow w.heap.size 22 1 (.slice (some ⟨gm, 0, none⟩) n c1) n vs) := Lib.hid (oM.1.alloc _)
                        have ya : (wr0.alloc (.cells #[.int .i64 (b : Int)] 2)).cell? ⟨gh, k, none⟩ = some (.slice (some ⟨gm, 0, none⟩) n c1) := (al_old _ _ _ _ hgl).trans hck
                        have yb : (wr0.alloc (.cells #[.int .i64 (b : Int)] 2)).cell? ⟨gm, a, none⟩ = some (.slice Al nl cl) := (al_old _ _ _ _ hgm).trans hcm
                        have hNa : Hid (NB w (wr0.alloc (.cells #[.int .i64 (b : Int)] 2)).drew (some ⟨gh, 0, none⟩) nb2 c3 n vms VS ZS) := Lib.hid (hN.below (below_drew ((Below.refl _ _).alloc (Nat.le_refl _) _)))
                        replace hZk := Lib.hid hZk
                        replace hZa := Lib.hid hZa
                        replace hVk := Lib.hid hVk
                        replace hvk := Lib.hid hvk
                        replace e1 := Lib.hid e1
                        replace hva := Lib.hid hva
                        replace hZd2 := Lib.hid hZd2
                        replace oL := Lib.hid oL
                        replace oM := Lib.hid oM
                        replace hN := Lib.hid hN
                        go_wp2_with fail
                        go_region_law (refine step_append_lies _ (by rfl) (.tmp 85) (.tmp 87) 22 (by rfl) w.heap.size 2 j0 (.int .i64 0) 1 8 Tryd.underlying22 hj0 hy0 hy1 hy2 rfl (by decide) (.slice Al nl cl) nl (ys.map (Value.int .i64)) (by rfl) hown'.out ⟨wr0.heap.size, 0, none⟩ 1 1 [.int .i64 (b : Int)] (by rfl) rfl hnew'.out (by simp [Value.oneCell']) (by decide) hml.out (by omega) hbs.out (wr0.heap.size + 1) (by simp) ?_; intro g4 c4 w5 ho5 hg5 hor5 hlt5; have oH5 := own_kept_ty oHa.out hown'.out (by decide) hg5; have oM5 := own_kept_ty oMa.out hown'.out (by decide) hg5; have K5 : w5.cell? ⟨gh, k, none⟩ = some (.slice (some ⟨gm, 0, none⟩) n c1) := (oH5.cellAt k (by omega)).trans hvk.out; have K6 : w5.cell? ⟨gm, a, none⟩ = some (.slice Al nl cl) := (oM5.cellAt a (by omega)).trans hva.out; have F6 : w5.frozen? ⟨gm, a, none⟩ = false := oM5.frozenAt a; clear oH5 oM5)
                        all_goals
                          have hN6 := hNa.out.app e1.out hVk.out hva.out hZk.out hZa.out ha (w5 := w5) (g4 := g4) (c4 := c4) (gm := gm) (x := (b : Int)) (by rw [List.map_append]; exact ho5) hg5 (by rcases hor5 with h | h; exact .inl h; exact .inr (by simp; omega)) rfl
                          have hZ6 : Hid (ZS.set k (zs.set a (ys ++ [(b : Int)])) = zM fl nb2 (mI fl.length a b (k + 1))) := hZd2
                          clear hown' hnew' hml hbs oHa oMa ya yb hNa hck hcm ho5 hg5 hor5
                          (try clear K5 K6 F6)
                          (try go_wp2_with fail)
                          go_roundw
                          case measure => simp [intOf] <;> omega
                          case rel => exact ⟨k + 1, _, _, by go_num, by omega, hZ6, hN6⟩
                    · obtain rfl : k = nb2 := by omega
                      have hZ2 : Hid (ZS = zM fl k (mB fl.length a (b + 1))) := Lib.hid (by rw [← zM_IR]; exact hZ.out)
                      clear hZ
                      go_wp2_with fail
                      go_roundw
                      case measure => simp [intOf] <;> omega
                      case rel => exact ⟨b + 1, VS, ZS, by go_num, by omega, hZ2, hN⟩
                · have dd : ((d : Int) != 1) = true := by simp; omega
                  have hZ2 : Hid (ZS = zM fl nb (mB fl.length a (b + 1))) := Lib.hid (by rw [← zM_pass fl.length (by rw [hga.out, hgb.out, hd.out]; exact hd1)]; exact hZ.out)
                  replace hd1 := Lib.hid hd1
                  clear hZ
                  go_wp2_with fail
                  go_roundw
                  case measure => simp [intOf] <;> omega
                  case rel => exact ⟨b + 1, VS, ZS, by go_num, by omega, hZ2, hN5⟩
            · have hZ2 : Hid (ZS = zM fl i (mB fl.length (a + 1) 0)) := Lib.hid (by
                rw [← zM_next, ← (show b = fl.length by rw [hnn.out]; omega)]
                have hbl : b = fl.length := by rw [hnn.out]; omega
                rw [hZ.out, hbl])
              clear hZ
              go_wp2_with fail
              go_roundw
              case measure => simp [intOf] <;> omega
              case rel => exact ⟨a + 1, VS, ZS, by go_num, by omega, hZ2, hN⟩
        · have hZ2 : ZS = nearA fl i := by
            rw [← zM_end, hZ.out]
            have : a = fl.length := by rw [hnn.out]; omega
            rw [this]
          have hr3 := hN.r3
          rw [hZ2] at hr3
          have hB := hN.bel
          replace hZ2 := Lib.hid hZ2
          clear hZ hN
          go_wp2_with fail
          go_ret
          exact ⟨A3, c3, rfl, hr3, hB⟩
end Go.Proofs.YtebdfhkimnlglaaDoor
