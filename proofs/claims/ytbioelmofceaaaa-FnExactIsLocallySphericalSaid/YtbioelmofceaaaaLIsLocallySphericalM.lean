/- FnExactIsLocallySpherical: the program's IsLocallySpherical and the reference's return the same for all arguments, the arguments stay as they were, and the results are memory of their own. No condition. (Merged: Cnt, CntX, SecS, ColP, Que, Dist, Dia, PthP, TypP, IsoQ, SphP, SecH, Sec, SecX, LspX, LspS, LIsLocallySpherical.) -/
import Derived.Test.YtbioelmofceaaaaCntP
import Derived.Test.YtbioelmofceaaaaLsfA
import Derived.Test.YtbioelmofceaaaaSecM
import Derived.Test.YtbioelmofceaaaaOrbL
import Derived.ArgAppend
import Derived.Test.YtbioelmofceaaaaRun
import Derived.Test.YtbioelmofceaaaaWord
import Derived.Test.YtbioelmofceaaaaOrdP
import Derived.Test.YtbioelmofceaaaaOrbO
import Derived.Test.YtbioelmofceaaaaSub
import Derived.Lib.SlicesCompact
import Derived.Test.YtbioelmofceaaaaOrbS
import Derived.Test.YtbioelmofceaaaaFace
import Derived.Deep.RegionLaw
import Derived.Test.YtbioelmofceaaaaRows
import Derived.Test.YtbioelmofceaaaaOpen
import Derived.Test.YtbioelmofceaaaaLawI
import Derived.Test.YtbioelmofceaaaaOpenS
import Derived.Test.YtbioelmofceaaaaLawS
import Derived.Test.YtbioelmofceaaaaLawM
/- Cnt -/
namespace Go.Proofs.Ytbioelmofceaaaa
open Go.RowKit
set_option linter.unusedVariables false
set_option maxRecDepth 100000
theorem labL_bound {list : List (List Int)} {n : Nat} (hs : SysOf list n) (h4 : n ≤ 400) : ∀ x ∈ labL list n, 0 ≤ x ∧ x ≤ 400 := by
  intro v hv
  obtain ⟨x, hx, rfl⟩ := List.mem_map.1 hv
  have h1 := lab_lt hs (List.mem_range.1 hx)
  have h2 := labOf_nonneg list x
  have h3 := cntR_le_n (list := list) n
  omega
theorem grt_le {l : List Int} (h : ∀ x ∈ l, 0 ≤ x ∧ x ≤ 400) : 0 ≤ grt l ∧ grt l ≤ 401 := by
  have h0 := grt_nonneg l (fun x hx => (h x hx).1)
  rcases grt_mem l with e | e
  · omega
  · have := h _ e; omega
theorem cntsL_bound {xss : List (List Int)} {n : Nat} (h4 : n ≤ 400) : ∀ x ∈ cntsL xss n, -400 ≤ x ∧ x ≤ 400 := by
  intro v hv
  obtain ⟨i, _, rfl⟩ := List.mem_map.1 hv
  have h3 := cntR_le_n (list := xss.eraseIdx i) n
  omega
theorem l02Greatest_any (A : Option Addr) (n c : Nat) (xs : List Int) (w : World) {lo hi : Nat} (h : RI w lo hi A n xs) (hb : ∀ x ∈ xs, 0 ≤ x ∧ x ≤ 400) :
    Calls Try.prog 64 #[.slice A n c] w fun e w' => e = .returned (.int .i64 (grt xs)) ∧ w = w' := by
  have hm := h.max
  have hl := Lib.hid h.len
  replace hb := Lib.hid hb
  go_enter Try.func64, Try.ntmps64
  go_wp2_with fail
  go_loopw [3, 4] (fun mv kv wq => ∃ k : Nat, k ≤ n ∧ kv = .int .i64 k ∧ mv = .int .i64 (grt (xs.take k)) ∧ w = wq) (fun _ kv _ => n - (intOf kv).toNat)
  case atStart => exact ⟨0, by omega, rfl, by simp [grt], by first | rfl | trivial⟩
  case round =>
    obtain ⟨k, hk, rfl, rfl, rfl⟩ := hrel
    by_cases hlt : k < n
    · obtain ⟨b, o, v, rfl, _, _, hv, hcv⟩ := h.at_ hlt
      have hst := grt_snoc (xs.take k) v
      rw [← take_succ_of hv] at hst
      have hbd := grt_le (l := xs.take k) (fun x hx => hb.out x (mem_of_take hx))
      obtain ⟨hv0, hv1⟩ := hb.out v (mem_of_get? hv)
      replace hv := Lib.hid hv
      generalize grt (xs.take k) = m at *
      obtain ⟨hb0, hb1⟩ := hbd
      by_cases hge : m ≤ v
      · rw [if_pos hge] at hst
        have hd : decide (v ≥ m) = true := decide_eq_true hge
        replace hst := Lib.hid hst
        go_wp2_with fail
        go_roundw
        case measure => simp [intOf]; omega
        case rel => exact ⟨k + 1, by omega, by go_num, by rw [hst.out], by first | rfl | trivial⟩
      · rw [if_neg hge] at hst
        have hd : decide (v ≥ m) = false := decide_eq_false hge
        have hd2 : decide (m ≤ v) = false := decide_eq_false hge
        replace hst := Lib.hid hst
        go_wp2_with fail
        go_roundw
        case measure => simp [intOf]; omega
        case rel => exact ⟨k + 1, by omega, by go_num, by rw [hst.out], by first | rfl | trivial⟩
    · go_wp2_with fail
      go_ret
      have hkn : k = n := by omega
      subst hkn
      exact ⟨ret_int (by rw [List.take_of_length_le (by have := hl.out; omega)]), rfl⟩
set_option maxHeartbeats 2000000 in
theorem faceCounts_any (b : Nat) (A : Option Addr) (n c : Nat) (xss : List (List Int)) (w : World) (hc : w.cell? ⟨b, 0, none⟩ = some (.slice A n c)) (hbs : b < w.heap.size) {lo hi : Nat} (h : RS w lo hi A n xss) (hhi : hi ≤ w.heap.size) (hn2 : n ≤ 1048576) (N : Nat) (hN : flg xss = N) (h4 : N ≤ 400) (hs : SysOf xss N) :
    Calls Try.prog 50 #[.pointer (some ⟨b, 0, none⟩)] w fun e w' => ∃ (A1 : Option Addr) (c1 : Nat), e = .returned (.slice A1 n c1) ∧ Own w' w.heap.size w'.heap.size 2 A1 n c1 ((cntsL xss N).map (Value.int .i64)) ∧ Below w.heap.size w w' := by
  obtain ⟨j0, hj0, hy0, hy1, hy2⟩ := info_parts infoI
  have hl := h.len
  have hcl := cntsL_length xss N
  rw [hl] at hcl
  have hget : ∀ k, k < n → (cntsL xss N)[k]? = some (cntR (xss.eraseIdx k) N : Int) := fun k hk => cntsL_get (by omega)
  generalize hcs : cntsL xss N = cs at *
  replace hcs := Lib.hid hcs
  replace hget := Lib.hid hget
  replace hcl := Lib.hid hcl
  replace hl := Lib.hid hl
  replace hs := Lib.hid hs
  go_enter Try.func50, Try.ntmps50
  go_wp2_with fail
  ((with_reducible refine (rank_any _ A n c _ hc (by omega)).mono ?_); rintro e w' ⟨rfl, rfl⟩)
  go_wp2_with fail
  go_loopw [3, 9] (fun sv kv wq => ∃ (k : Nat) (A2 : Option Addr) (c2 : Nat), k ≤ n ∧ sv = .slice A2 k c2 ∧ kv = .int .i64 k ∧ Own wq w.heap.size wq.heap.size 2 A2 k c2 ((cs.take k).map (Value.int .i64)) ∧ Below w.heap.size w wq) (fun _ kv _ => n - (intOf kv).toNat)
  case atStart => exact ⟨0, none, 0, by omega, rfl, rfl, by simpa using Own.nil, Below.refl _ _⟩
  case round =>
    obtain ⟨k, A2, c2, hk, rfl, rfl, ho, hb⟩ := hrel
    have hz := hb.size
    by_cases hlt : k < n
    · have hCk := (hb.cell (p := ⟨b, 0, none⟩) (by simp; omega)).trans hc
      have htk := take_succ_of (hget.out k hlt)
      replace htk := Lib.hid htk
      go_wp2_with fail
      ((with_reducible refine (faces_any b A n c k xss _ hCk (h.below hb hhi) (by omega) hlt hn2 N hN h4 hs.out).mono ?_); rintro e w2 ⟨A9, rfl, o9, f9⟩)
      have y9 := f9.size
      have ho2 := ho.below f9 (Nat.le_refl _)
      have hb2 := below_then hb f9 hz
      clear ho hb f9 o9 hCk
      generalize (cntR (xss.eraseIdx k) N : Int) = u at *
      go_wp2_with (at_builtin; refine wpList_append1 w2 rfl (.tmp 18) (.tmp 20) 22 rfl w.heap.size 2 j0 (.int .i64 0) 8 Try.underlying22 hj0 hy0 hy1 hy2 rfl (by omega) _ k c2 _ (.int .i64 u) rfl ho2.1 _ rfl rfl rfl (by omega) (by omega) ?_)
      intro g4 c4 w3 ho3 hg3 hlo3 hlt3 hor3
      have hb3 : Below w.heap.size w w3 := hb2.grown hg3 (by omega) (fun q hq => by have := (ho2.1.lt q hq).1; omega)
      have ho3' := Own.of_row ho3
      clear ho2 hb2 hg3 ho3
      go_wp2_with fail
      go_roundw
      case measure => simp [intOf]; omega
      case rel => exact ⟨k + 1, _, c4, by omega, rfl, by go_num, by rw [htk.out]; simpa using ho3', hb3⟩
    · go_wp2_with fail
      go_ret
      have hkn : k = n := by omega
      subst hkn
      rw [List.take_of_length_le (by have := hcl.out; omega)] at ho
      exact ⟨A2, c2, rfl, ho, hb⟩
set_option maxHeartbeats 2000000 in
theorem l02Counts_any (A : Option Addr) (n c : Nat) (xss : List (List Int)) (w : World) {lo hi : Nat} (h : RS w lo hi A n xss) (hhi : hi ≤ w.heap.size) (hn2 : n ≤ 1048576) (N : Nat) (hN : flg xss = N) (h4 : N ≤ 400) (hs : SysOf xss N) :
    Calls Try.prog 45 #[.agg #[.slice A n c]] w fun e w' => ∃ (A1 : Option Addr) (c1 : Nat), e = .returned (.slice A1 n c1) ∧ Own w' w.heap.size w'.heap.size 2 A1 n c1 ((cntsL xss N).map (Value.int .i64)) ∧ Below w.heap.size w w' := by
  obtain ⟨j0, hj0, hy0, hy1, hy2⟩ := info_parts infoI
  have hl := h.len
  have hcl := cntsL_length xss N
  rw [hl] at hcl
  have hget : ∀ k, k < n → (cntsL xss N)[k]? = some (cntR (xss.eraseIdx k) N : Int) := fun k hk => cntsL_get (by omega)
  generalize hcs : cntsL xss N = cs at *
  replace hcs := Lib.hid hcs
  replace hget := Lib.hid hget
  replace hcl := Lib.hid hcl
  replace hl := Lib.hid hl
  replace hs := Lib.hid hs
  have hR := rs_alloc h hhi (.cells #[.slice A n c] 38)
  have hC : (w.alloc (.cells #[.slice A n c] 38)).cell? ⟨w.heap.size, 0, none⟩ = some (.slice A n c) := al_new _ _ _ _ rfl
  have hB : Below w.heap.size w (w.alloc (.cells #[.slice A n c] 38)) := (Below.refl _ _).alloc (Nat.le_refl _) _
  have h0 := World.ownsRow_lit (e := 2) (base := (w.alloc (.cells #[.slice A n c] 38)).heap.size) (size := 1) (w.alloc (.cells #[.slice A n c] 38)) #[] 0 (Nat.le_refl _) (by omega) rfl
  go_enter Try.func45, Try.ntmps45
  go_wp2_with fail
  obtain ⟨W1, hW⟩ : ∃ W1 : World, w.alloc (.cells #[.slice A n c] 38) = W1 := ⟨_, rfl⟩
  have hz1 : W1.heap.size = w.heap.size + 1 := by rw [← hW]; simp
  rw [hW] at hR hC hB h0 ⊢
  clear hW h
  have h0 : (W1.alloc (.cells #[] 2)).ownsRow W1.heap.size 2 1 (.slice (some ⟨w.heap.size + 1, 0, none⟩) 0 0) 0 (([] : List Int).map (Value.int .i64)) := by rw [← hz1]; exact h0
  go_loopw [3, 4] (fun sv kv wq => ∃ (k : Nat) (A2 : Option Addr) (c2 : Nat), k ≤ n ∧ sv = .slice A2 k c2 ∧ kv = .int .i64 k ∧ Own wq W1.heap.size wq.heap.size 2 A2 k c2 ((cs.take k).map (Value.int .i64)) ∧ Below W1.heap.size W1 wq) (fun _ kv _ => n - (intOf kv).toNat)
  case atStart => exact ⟨0, _, 0, by omega, rfl, rfl, by simpa using Own.of_row h0, (Below.refl _ _).alloc (Nat.le_refl _) _⟩
  case round =>
    clear h0
    obtain ⟨k, A2, c2, hk, rfl, rfl, ho, hb⟩ := hrel
    have hz := hb.size
    have hCk := (hb.cell (p := ⟨w.heap.size, 0, none⟩) (by simp; omega)).trans hC
    by_cases hlt : k < n
    · have htk := take_succ_of (hget.out k hlt)
      have hgl := grt_lab (sysOf_erase hs.out k)
      have hlb := labL_bound (sysOf_erase hs.out k) h4
      replace htk := Lib.hid htk
      go_wp2_with fail
      ((with_reducible refine (l02Faces_any A n c k xss _ (hR.below hb (by omega)) (by omega) hlt hn2 N hN h4 hs.out).mono ?_); rintro e w2 ⟨A9, c9, rfl, o9, f9⟩)
      have y9 := f9.size
      have ho2 := ho.below f9 (Nat.le_refl _)
      have hb2 := below_then hb f9 hz
      clear ho hb f9 hCk
      go_wp2_with fail
      ((with_reducible refine (l02Greatest_any A9 N c9 _ _ o9.ri hlb).mono ?_); rintro e w' ⟨rfl, rfl⟩)
      rw [hgl]
      clear o9
      replace hgl := Lib.hid hgl
      replace hlb := Lib.hid hlb
      generalize (cntR (xss.eraseIdx k) N : Int) = u at *
      go_wp2_with (at_builtin; refine wpList_append1 w2 rfl (.tmp 13) (.tmp 18) 22 rfl W1.heap.size 2 j0 (.int .i64 0) 8 Try.underlying22 hj0 hy0 hy1 hy2 rfl (by omega) _ k c2 _ (.int .i64 u) rfl ho2.1 _ rfl rfl rfl (by omega) (by omega) ?_)
      intro g4 c4 w3 ho3 hg3 hlo3 hlt3 hor3
      have hb3 : Below W1.heap.size W1 w3 := hb2.grown hg3 (by omega) (fun q hq => by have := (ho2.1.lt q hq).1; omega)
      have ho3' := Own.of_row ho3
      clear ho2 hb2 hg3 ho3
      go_wp2_with fail
      go_roundw
      case measure => simp [intOf]; omega
      case rel => exact ⟨k + 1, _, c4, by omega, rfl, by go_num, by rw [htk.out, hz1]; simpa using ho3', hb3⟩
    · go_wp2_with fail
      go_ret
      have hkn : k = n := by omega
      subst hkn
      rw [List.take_of_length_le (by have := hcl.out; omega)] at ho
      exact ⟨A2, c2, rfl, ho.more (by omega) (Nat.le_refl _), hB.trans (hb.mono (by omega))⟩
theorem eulerOf_any (A : Option Addr) (n c : Nat) (xs : List Int) (w : World) {lo hi : Nat} (h : RI w lo hi A n xs) (hn5 : n ≤ 20) (hb : ∀ x ∈ xs, -400 ≤ x ∧ x ≤ 400) :
    Calls Try.prog 49 #[.slice A n c] w fun e w' => e = .returned (.int .i64 (eulGo xs n)) ∧ w = w' := by
  have hm := h.max
  have hbd := eulGo_bound (B := 400) (by omega) hb
  replace hb := Lib.hid hb
  replace hbd := Lib.hid hbd
  go_enter Try.func49, Try.ntmps49
  go_wp2_with fail
  go_loopw [3, 8] (fun mv kv wq => ∃ k : Nat, k ≤ n ∧ kv = .int .i64 k ∧ mv = .int .i64 (eulGo xs k) ∧ w = wq) (fun _ kv _ => n - (intOf kv).toNat)
  case atStart => exact ⟨0, by omega, rfl, by simp [eulGo], by first | rfl | trivial⟩
  case round =>
    obtain ⟨k, hk, rfl, rfl, rfl⟩ := hrel
    by_cases hlt : k < n
    · obtain ⟨b, o, v, rfl, _, _, hv, hcv⟩ := h.at_ hlt
      have hst := eulGo_succ xs k
      rw [getD_some hv] at hst
      obtain ⟨hb0, hb1⟩ := hbd.out k
      obtain ⟨hv0, hv1⟩ := hb.out v (mem_of_get? hv)
      replace hv := Lib.hid hv
      generalize eulGo xs k = m at *
      have hb2 : -8000 ≤ m := by omega
      have hb3 : m ≤ 8000 := by omega
      have htm : Int.tmod (k : Int) 2 = ((k % 2 : Nat) : Int) := rfl
      clear hb0 hb1
      by_cases hpar : k % 2 = 0
      · rw [if_pos hpar] at hst
        replace hst := Lib.hid hst
        rw [hpar] at htm
        go_wp2_with fail
        go_roundw
        case measure => simp [intOf]; omega
        case rel => exact ⟨k + 1, by omega, by go_num, by rw [hst.out], by first | rfl | trivial⟩
      · rw [if_neg hpar] at hst
        replace hst := Lib.hid hst
        have hp1 : k % 2 = 1 := by omega
        rw [hp1] at htm
        go_wp2_with fail
        go_roundw
        case measure => simp [intOf]; omega
        case rel => exact ⟨k + 1, by omega, by go_num, by rw [hst.out], by first | rfl | trivial⟩
    · go_wp2_with fail
      go_ret
      have hkn : k = n := by omega
      subst hkn
      exact ⟨rfl, rfl⟩
theorem l02Euler_any (A : Option Addr) (n c : Nat) (xs : List Int) (w : World) {lo hi : Nat} (h : RI w lo hi A n xs) (hn5 : n ≤ 20) (hb : ∀ x ∈ xs, -400 ≤ x ∧ x ≤ 400) :
    Calls Try.prog 44 #[.slice A n c] w fun e w' => e = .returned (.int .i64 (eulGo xs n)) ∧ w = w' := by
  have hm := h.max
  have hbd := eulGo_bound (B := 400) (by omega) hb
  replace hb := Lib.hid hb
  replace hbd := Lib.hid hbd
  go_enter Try.func44, Try.ntmps44
  go_wp2_with fail
  go_loopw [3, 4] (fun mv kv wq => ∃ k : Nat, k ≤ n ∧ kv = .int .i64 k ∧ mv = .int .i64 (eulGo xs k) ∧ w = wq) (fun _ kv _ => n - (intOf kv).toNat)
  case atStart => exact ⟨0, by omega, rfl, by simp [eulGo], by first | rfl | trivial⟩
  case round =>
    obtain ⟨k, hk, rfl, rfl, rfl⟩ := hrel
    by_cases hlt : k < n
    · obtain ⟨b, o, v, rfl, _, _, hv, hcv⟩ := h.at_ hlt
      have hst := eulGo_succ xs k
      rw [getD_some hv] at hst
      obtain ⟨hb0, hb1⟩ := hbd.out k
      obtain ⟨hv0, hv1⟩ := hb.out v (mem_of_get? hv)
      replace hv := Lib.hid hv
      generalize eulGo xs k = m at *
      have hb2 : -8000 ≤ m := by omega
      have hb3 : m ≤ 8000 := by omega
      have htm : Int.tmod (k : Int) 2 = ((k % 2 : Nat) : Int) := rfl
      clear hb0 hb1
      by_cases hpar : k % 2 = 0
      · rw [if_pos hpar] at hst
        replace hst := Lib.hid hst
        rw [hpar] at htm
        go_wp2_with fail
        go_roundw
        case measure => simp [intOf]; omega
        case rel => exact ⟨k + 1, by omega, by go_num, by rw [hst.out], by first | rfl | trivial⟩
      · rw [if_neg hpar] at hst
        replace hst := Lib.hid hst
        have hp1 : k % 2 = 1 := by omega
        rw [hp1] at htm
        go_wp2_with fail
        go_roundw
        case measure => simp [intOf]; omega
        case rel => exact ⟨k + 1, by omega, by go_num, by rw [hst.out], by first | rfl | trivial⟩
    · go_wp2_with fail
      go_ret
      have hkn : k = n := by omega
      subst hkn
      exact ⟨rfl, rfl⟩
end Go.Proofs.Ytbioelmofceaaaa
/- CntX -/
namespace Go.Proofs.Ytbioelmofceaaaa
open Go.RowKit
set_option linter.unusedVariables false
set_option maxRecDepth 100000
/-- what FaceCounts returns -/
noncomputable def fcF (xss : List (List Int)) : List Int × Int := if isManB xss = true then (cntsL xss (flg xss), 0) else ([], 1)
/-- what EulerCharacteristic returns -/
noncomputable def eulF (xss : List (List Int)) : Int × Int := if isManB xss = true then (eulGo (cntsL xss (flg xss)) xss.length, 0) else (0, 1)
end Go.Proofs.Ytbioelmofceaaaa
/- SecS -/
namespace Go.Proofs.Ytbioelmofceaaaa
open Go.RowKit
set_option linter.unusedVariables false
set_option maxRecDepth 100000
/-- the row of the forms behind j rounds -/
structure SecSt (wq : World) (bo b11 : Nat) (ys : List (List Int)) (N C j : Nat) : Prop where
  ex : ∃ ps : List VF, ps.length = j ∧ ps.map (·.2) = (ownC ys N).take j ∧ wq.ownsRow bo 38 1 (.slice (some ⟨bo, 0, none⟩) C C) C (ps.map (·.1) ++ List.replicate (C - j) (.slice none 0 0)) ∧ ∀ p ∈ ps, GoodF wq (b11 + 1) wq.heap.size p
theorem SecSt.next {wr w6 : World} {bo b11 N C j m cl lo5 : Nat} {ys : List (List Int)} {Al : Option Addr} (S : SecSt wr bo b11 ys N C j) (hj : j < C) (hC : cntR ys N = C) (hB : Below wr.heap.size wr w6) (hbo : bo < b11) (hb : b11 < wr.heap.size) (ol : OwnS w6 lo5 w6.heap.size 22 2 Al m cl (frmL ys N (idxI (labL ys N) (j : Int)))) (hlo : wr.heap.size ≤ lo5) (hm : 0 < m) :
    SecSt (w6.setCell ⟨bo, j, none⟩ (.slice Al m cl)) bo b11 ys N C (j + 1) := by
  obtain ⟨ps, h1, h2, h3, h4⟩ := S.ex
  have y6 := hB.size
  have hcap : m ≤ cl := by obtain ⟨vs, oA, oB⟩ := ol; exact oA.cap
  have h5 := ((Own.below (Own.of_row h3) hB (Nat.le_refl _)).1.stored j (.slice Al m cl)).1
  have hs : Same (b11 + 1) w6.heap.size w6 (w6.setCell ⟨bo, j, none⟩ (.slice Al m cl)) := fun q a b => Below.heap_setCell _ _ _ _ (by simp; omega)
  refine ⟨ps ++ [(.slice Al m cl, frmL ys N (idxI (labL ys N) (j : Int)))], by simp [h1], ?_, ?_, ?_⟩
  · rw [List.map_append, h2, List.take_add_one, ownC_get (by omega)]
    rfl
  · have e : (ps.map (·.1) ++ List.replicate (C - j) (Value.slice none 0 0)).set j (.slice Al m cl) = (ps ++ [((.slice Al m cl, frmL ys N (idxI (labL ys N) (j : Int))) : VF)]).map (·.1) ++ List.replicate (C - (j + 1)) (.slice none 0 0) := by
      obtain ⟨d, hd⟩ : ∃ d, C - j = d + 1 := ⟨C - j - 1, by omega⟩
      rw [hd, show C - (j + 1) = d by omega, List.replicate_succ, List.set_append_right _ _ (by simp [h1])]
      simp [h1]
    rw [e] at h5
    exact h5
  · intro p hp
    rw [World.size_setCell]
    rcases List.mem_append.1 hp with g | g
    · exact (((h4 p g).below hB (Nat.le_refl _)).more (Nat.le_refl _) y6).keep hs
    · rw [List.mem_singleton.1 g]
      exact ⟨Al, m, cl, rfl, hm, hcap, (ol.rs.more (by omega) (Nat.le_refl _)).keep hs⟩
/-- the forms are small -/
theorem own_len {xss : List (List Int)} (hP : ManP xss) {N I J : Nat} (hN : flg xss = N) (hIJ : I < J) (hJ : J ≤ xss.length) {x : List (List Int)} (hx : x ∈ ownC (subL xss I J) N) : x.length = J - I ∧ ∀ r ∈ x, r.length ≤ 400 := by
  have hS : SysOf (subL xss I J) N := by
    have := hP.sys
    rw [hN] at this
    exact sysOf_sub this I J
  obtain ⟨c, hc⟩ := List.mem_iff_getElem?.1 hx
  have hcl : c < cntR (subL xss I J) N := by
    have := (List.getElem?_eq_some_iff.1 hc).1
    rwa [ownC_length] at this
  rw [ownC_get hcl] at hc
  obtain ⟨r, hr, hi, hl⟩ := idx_lab (c := c) hS hcl
  have hM := (sec_man hP hN hIJ hJ (f := (r : Int)) (by omega) (by omega)).1
  have e := Option.some.inj hc
  rw [← e]
  unfold frmL
  rw [hi]
  obtain ⟨F, hF⟩ : ∃ F, formL (subL xss I J) N (r : Int) = F := ⟨_, rfl⟩
  have hFl : F.length = J - I := by rw [← hF, formL_length, subL_length hJ (by omega)]
  rw [hF] at hM ⊢
  obtain ⟨g, hg, eg⟩ := leastGo_form F (flg F) (flg F)
  have h2 := hM.f2
  have h4 := hM.f4
  rw [eg]
  refine ⟨by rw [formL_length, hFl], fun q hq => ?_⟩
  obtain ⟨p, hp, rfl⟩ := List.mem_map.1 hq
  rw [ixF_length]
  have := (bfs_met hM.sys (x := (g : Int)) (by omega) (by omega)).len
  omega
/-- the forms, each once -/
def SfP (own : List (List (List Int))) (fs : List VF) : Prop := (∀ p ∈ fs, p.2 ∈ own) ∧ (∀ x ∈ own, ∃ p ∈ fs, p.2 = x) ∧ (fs.length = 1 ↔ ∀ x ∈ own, ∀ y ∈ own, x = y)
def GoodFs (w : World) (lo hi : Nat) (fs : List VF) : Prop := ∀ p ∈ fs, GoodF w lo hi p
theorem sf_post {ps ps' os : List VF} {C : Nat} {own : List (List (List Int))} (hp : ps'.Perm ps) (hl : ps.length = C) (h0 : 0 < C) (h2 : ps.map (·.2) = own) (ho : os.map (·.2) = (dnF ps' C).map (·.2)) :
    SfP own os := by
  have hl' : ps'.length = C := by rw [hp.length_eq, hl]
  have a : ∀ p ∈ os, p.2 ∈ own := by
    intro p hpo
    have h1 : p.2 ∈ os.map (·.2) := List.mem_map_of_mem hpo
    rw [ho] at h1
    obtain ⟨q, hq, e⟩ := List.mem_map.1 h1
    rw [← e, ← h2]
    exact List.mem_map_of_mem (hp.mem_iff.1 (dnF_mem hq))
  have b : ∀ x ∈ own, ∃ p ∈ os, p.2 = x := by
    intro x hx
    rw [← h2] at hx
    obtain ⟨q, hq, rfl⟩ := List.mem_map.1 hx
    obtain ⟨i, hi, ei⟩ := List.mem_iff_getElem.1 (hp.mem_iff.2 hq)
    obtain ⟨r, hr, er⟩ := dnF_all (ps := ps') (j := C) (i := i) (by omega) (List.getElem?_eq_getElem hi)
    rw [ei] at er
    have h1 : r.2 ∈ os.map (·.2) := by rw [ho]; exact List.mem_map_of_mem hr
    obtain ⟨p, hpo, ep⟩ := List.mem_map.1 h1
    exact ⟨p, hpo, ep.trans er⟩
  refine ⟨a, b, ?_⟩
  have hlen : os.length = (dnF ps' ps'.length).length := by
    have := congrArg List.length ho
    simpa [hl'] using this
  rw [hlen, dnF_one (by omega)]
  constructor
  · intro h x hx y hy
    rw [← h2] at hx hy
    obtain ⟨p, hp1, rfl⟩ := List.mem_map.1 hx
    obtain ⟨q, hq1, rfl⟩ := List.mem_map.1 hy
    exact h p (hp.mem_iff.2 hp1) q (hp.mem_iff.2 hq1)
  · intro h p hp1 q hq1
    exact h _ (by rw [← h2]; exact List.mem_map_of_mem (hp.mem_iff.1 hp1)) _ (by rw [← h2]; exact List.mem_map_of_mem (hp.mem_iff.1 hq1))
set_option maxHeartbeats 16000000 in
theorem sectionForms_any (b : Nat) (A : Option Addr) (n c : Nat) (xss : List (List Int)) (N I J : Nat) (i k : Int) (hi0 : i = I) (hk0 : k + 1 = J) (w : World) {lo hi : Nat} (h0 : w.cell? ⟨b, 0, none⟩ = some (.slice A n c)) (hb : b < w.heap.size) (h : RS w lo hi A n xss) (hhi : hi ≤ w.heap.size) (hnc : n ≤ c) (hIJ : I < J) (hJ : J ≤ n) (hP : ManP xss) (hN : flg xss = N) :
    Calls Try.prog 48 #[.pointer (some ⟨b, 0, none⟩), .int .i64 i, .int .i64 k] w fun e w' => ∃ (A1 : Option Addr) (c1 : Nat) (A2 : Option Addr) (c2 : Nat) (fs : List VF), e = .returned (.tuple #[.slice A1 fs.length c1, .slice A2 N c2]) ∧ Rd w' w.heap.size w'.heap.size A1 fs.length (fs.map (·.1)) ∧ GoodFs w' w.heap.size w'.heap.size fs ∧ SfP (ownC (subL xss I J) N) fs ∧ Below w.heap.size w w' := by
  have hS : SysOf xss N := by rw [← hN]; exact hP.sys
  have hN2 : 2 ≤ N := by rw [← hN]; exact hP.f2
  have hN4 : N ≤ 400 := by rw [← hN]; exact hP.f4
  have hxl := h.len
  have hn5 : n ≤ 5 := by rw [← hxl]; exact hP.r5
  have hys : SysOf (subL xss I J) N := sysOf_sub hS I J
  have hyl : (subL xss I J).length = J - I := subL_length (by omega) (by omega)
  obtain ⟨b0, o0, A0, n0, c0, p0, rfl, _, _, _, _, _⟩ := h.at_ (k := 0) (by omega)
  have hsub : RS w lo hi (some ⟨b0, o0 + I, none⟩) (J - I) (subL xss I J) := rs_sub h (by omega) hJ (fun _ => rfl)
  have hk1 : k = (J : Int) - 1 := by omega
  subst hk1
  subst hi0
  clear hk0
  go_enter Try.func48, Try.ntmps48
  go_wp2_with fail
  ((with_reducible refine (flags_any b _ n c xss w h0 h (by omega)).mono ?_); rintro e w0 ⟨rfl, rfl⟩)
  rw [hN]
  obtain ⟨C, hC⟩ : ∃ C, cntR (subL xss I J) N = C := ⟨_, rfl⟩
  have hC4 : C ≤ N := by rw [← hC]; exact cntR_le_n N
  have hOL := orbitLabels_any N (some ⟨b0, o0 + I, none⟩) (J - I) (c - I) (subL xss I J) w hsub hhi hN4 hys
  rw [hC] at hOL
  replace hC := Lib.hid hC
  obtain ⟨m0, hm0, hv0, hv1, hv2⟩ := info_parts infoM
  go_wp2_with fail
  ((with_reducible refine hOL.mono ?_); rintro e w1 ⟨A1, rfl, o1, f1⟩)
  have y1 := f1.size
  clear hOL
  go_wp2_with (at_make; refine wpList_make_full _ rfl _ _ 63 rfl w1.heap.size 38 m0 (.agg #[.slice none 0 0]) 1 Try.underlying63 hm0 hv0 hv1 _ _ _ _ C rfl rfl rfl rfl ?c1 ?c2 (Nat.le_refl _) ?_)
  case c1 => rw [hv2]; omega
  case c2 => simp only [maxLen]; omega
  intro w2 hown hg
  obtain ⟨bo, hbo⟩ : ∃ bo, w1.heap.size = bo := ⟨_, rfl⟩
  have hown2 : w2.ownsRow w1.heap.size 38 1 (.slice (some ⟨w1.heap.size, 0, none⟩) C C) C (List.replicate C (.slice none 0 0)) := by simpa [toList_madeCells_one] using hown
  have f2 : Below w1.heap.size w1 w2 := below_of_grown hg (Nat.le_refl _) (by simp)
  have z2 : w1.heap.size < w2.heap.size := (hown2.lt w1.heap.size (by simp [Value.ownBlock])).2
  have o1 := o1.below f2 (by omega)
  have B2 : Below w.heap.size w w2 := below_then f1 f2 y1
  rw [hbo] at hown2 z2 ⊢
  clear hown hg f2 f1
  go_wp2_with fail
  obtain ⟨b11, hb11⟩ : ∃ b11, w2.heap.size = b11 := ⟨_, rfl⟩
  obtain ⟨w3, hw3⟩ : ∃ w3, w2.alloc (.cells #[.slice (some ⟨bo, 0, none⟩) C C] 63) = w3 := ⟨_, rfl⟩
  have B3 : Below w2.heap.size w2 w3 := by rw [← hw3]; exact (Below.refl _ _).alloc (Nat.le_refl _) _
  have z3 : b11 < w3.heap.size := by rw [← hw3, ← hb11]; simp
  have g3 : w3.heap[b11]? = some (.cells #[.slice (some ⟨bo, 0, none⟩) C C] 63 (0, 0)) := by rw [← hw3]; exact heap_new _ _ _ hb11.symm
  have y2 := B2.size
  have hown3 : w3.ownsRow bo 38 1 (.slice (some ⟨bo, 0, none⟩) C C) C (List.replicate C (.slice none 0 0)) := (Own.below (Own.of_row hown2) B3 (Nat.le_refl _)).1
  have r3 : RI w3 w.heap.size bo A1 N (labL (subL xss I J) N) := by
    have h1 := (o1.below B3 (by omega)).ri
    rw [hbo] at h1
    exact h1
  have B4 : Below w.heap.size w w3 := below_then B2 B3 y2
  rw [hw3, hb11]
  clear hown2 hw3 o1 B2 B3
  replace r3 := Lib.hid r3
  have S0 : SecSt w3 bo b11 (subL xss I J) N C 0 := ⟨[], rfl, by simp, by simpa using hown3, fun p hp => by simp at hp⟩
  replace S0 := Lib.hid S0
  clear hown3
  go_loopw [38] (fun kv wq => ∃ j : Nat, j ≤ C ∧ kv = .int .i64 j ∧ Hid (SecSt wq bo b11 (subL xss I J) N C j) ∧ Hid (wq.heap[b11]? = some (.cells #[.slice (some ⟨bo, 0, none⟩) C C] 63 (0, 0))) ∧ Hid (RI wq w.heap.size bo A1 N (labL (subL xss I J) N)) ∧ Below w.heap.size w wq ∧ b11 < wq.heap.size) (fun kv _ => C - (intOf kv).toNat)
  case atStart => exact ⟨0, by omega, rfl, S0, Lib.hid g3, r3, B4, z3⟩
  case round =>
    obtain ⟨j, hj, rfl, hSt, hg, hri, hB, hz⟩ := hrel
    have yB := hB.size
    by_cases hlt : j < C
    · obtain ⟨r, hr, hir, -⟩ := idx_lab (c := j) hys (by rw [hC.out]; exact hlt)
      have hmF := (sec_man hP hN hIJ (by rw [hxl]; exact hJ) (f := (r : Int)) (by omega) (by omega)).1
      obtain ⟨F, hFe⟩ : ∃ F, formL (subL xss I J) N (r : Int) = F := ⟨_, rfl⟩
      rw [hFe] at hmF
      have hfrm : frmL (subL xss I J) N (idxI (labL (subL xss I J) N) (j : Int)) = leastGo F (flg F) (flg F) := by unfold frmL; rw [hir, hFe]
      have gd : Below wr.heap.size wr wr.drew := (Below.refl _ _).drew
      have hI := index_any A1 N N (labL (subL xss I J) N) (j : Int) wr.drew (hri.out.keep (fun _ _ _ => rfl))
      rw [hir] at hI
      have hFm := formFrom_any N (some ⟨b0, o0 + I, none⟩) (J - I) (c - I) (subL xss I J) (r : Int) wr.drew ((hsub.below hB hhi).below gd (by omega)) (show hi ≤ wr.heap.size by omega) (by omega) (by omega) hN4 hys (by omega) (by omega)
      rw [hFe] at hFm
      have F2 := hmF.f2
      have F4 := hmF.f4
      have FS := hmF.sys
      have D0 : wr.cell? ⟨b11, 0, none⟩ = some (.slice (some ⟨bo, 0, none⟩) C C) := by rw [cell_of_row _ _ _ _ _ _ hg.out]; rfl
      obtain ⟨ps, q1, q2, q3, q4⟩ := hSt.out.ex
      have hcl : ∃ v, wr.cell? ⟨bo, j, none⟩ = some v := ⟨_, (q3.cellAt j (by simp; omega)).trans (List.getElem?_eq_getElem (by simp; omega))⟩
      obtain ⟨v0, hv0⟩ := hcl
      have hvf : wr.frozen? ⟨bo, j, none⟩ = false := q3.frozenAt j
      clear q1 q2 q3 q4
      replace hI := Lib.hid hI
      replace hFm := Lib.hid hFm
      replace hfrm := Lib.hid hfrm
      replace FS := Lib.hid FS
      replace gd := Lib.hid gd
      clear hmF hFe hir
      go_wp2_with fail
      go_region_held3 (fun w' => w'.cell? ⟨b11, 0, none⟩ = some (.slice (some ⟨bo, 0, none⟩) C C)) (first | (with_reducible exact D0) | (with_reducible exact D5) | (with_reducible exact D6) | ((with_reducible refine (World.cell?_setCell_other _ _ _ _ ?_).trans D6); (intro q; have q2 := congrArg Addr.block q; simp only at q2; omega)) | go_keep) (first
        | (go_at_call 75
           with_reducible refine hI.out.mono ?_
           rintro e w4 ⟨rfl, rfl⟩
           skip)
        | (go_at_call 74
           with_reducible refine hFm.out.mono ?_
           rintro e w5 ⟨Af, cf, rfl, of, ff⟩
           have ff := gd.out.trans ff
           have y5 := ff.size
           have D5 := (ff.cell (p := ⟨b11, 0, none⟩) hz).trans D0
           replace ff := Lib.hid ff
           replace of := Lib.hid of
           skip)
        | (go_at_call 73
           with_reducible refine (leastForm_any (flg F) Af (J - I) cf F w5 of.out.rs (Nat.le_refl _) (by omega) (by omega) rfl (by omega) F4 FS.out).mono ?_
           rintro e w6 ⟨Al, cl, rfl, ol, fl⟩
           have y6 := fl.size
           have hB6 := ff.out.trans (fl.mono y5)
           have D6 := (fl.cell (p := ⟨b11, 0, none⟩) (by simp; omega)).trans D5
           have E6 := (hB6.cell (p := ⟨bo, j, none⟩) (by simp; omega)).trans hv0
           have G6 : w6.frozen? ⟨bo, j, none⟩ = false := (World.frozen?_of_block (a := ⟨bo, j, none⟩) (hB6.block bo (by omega))).trans hvf
           replace ol := Lib.hid ol
           replace hB6 := Lib.hid hB6
           skip))
      have zb : bo < b11 := by omega
      have hS7 := Lib.hid (hSt.out.next (lo5 := w5.heap.size) hlt hC.out hB6.out zb hz (by rw [hfrm.out]; exact ol.out) y5 (by omega))
      have hB7 : Below w.heap.size w (w6.setCell ⟨bo, j, none⟩ (.slice Al (J - I) cl)) := (hB.trans (hB6.out.mono yB)).setCell (by simp; omega) _
      have g7 : Hid ((w6.setCell ⟨bo, j, none⟩ (.slice Al (J - I) cl)).heap[b11]? = some (.cells #[.slice (some ⟨bo, 0, none⟩) C C] 63 (0, 0))) := Lib.hid ((Below.heap_setCell _ _ _ _ (by simp; omega)).trans ((hB6.out.block b11 hz).trans hg.out))
      have r7 : Hid (RI (w6.setCell ⟨bo, j, none⟩ (.slice Al (J - I) cl)) w.heap.size bo A1 N (labL (subL xss I J) N)) := Lib.hid ((hri.out.below hB6.out (by omega)).keep (fun q a b => Below.heap_setCell _ _ _ _ (by simp; omega)))
      have z7 : b11 < (w6.setCell ⟨bo, j, none⟩ (.slice Al (J - I) cl)).heap.size := by rw [World.size_setCell]; omega
      clear D0 D5 D6 E6 G6 hv0 hvf
      go_wp2_with fail
      go_roundw
      case measure => simp [intOf]; omega
      case rel => exact ⟨j + 1, by omega, by go_num, hS7, g7, r7, hB7, z7⟩
    · obtain rfl : j = C := by omega
      obtain ⟨wo, rfl⟩ : ∃ wo : World, wo = wr := ⟨_, rfl⟩
      obtain ⟨ps, q1, q2, q3, q4⟩ := hSt.out.ex
      rw [Nat.sub_self, List.replicate_zero, List.append_nil] at q3
      rw [List.take_of_length_le (by rw [ownC_length]; exact Nat.le_of_eq hC.out)] at q2
      have hC0 : 0 < j := by rw [← hC.out]; exact Nat.lt_of_le_of_lt (Nat.zero_le _) (cntR_lt (rootB_zero _) (show 0 < N by omega))
      have D0 : wo.cell? ⟨b11, 0, none⟩ = some (.slice (some ⟨bo, 0, none⟩) j j) := by rw [cell_of_row _ _ _ _ _ _ hg.out]; rfl
      have hrd := (Own.of_row q3).rd
      have hone : ∀ v ∈ ps.map (·.1), v.oneCell' = true := fun v hv => by
        obtain ⟨p, hp, rfl⟩ := List.mem_map.1 hv
        obtain ⟨Ax, nx, cx, e, _⟩ := q4 p hp
        rw [e]; rfl
      have hCl := cloneMs_any (some ⟨bo, 0, none⟩) j j (ps.map (·.1)) wo hrd (Nat.le_refl _) hone hC0 (by omega)
      replace q1 := Lib.hid q1
      replace q2 := Lib.hid q2
      replace q3 := Lib.hid q3
      replace q4 := Lib.hid q4
      clear hone hrd
      go_wp2_with fail
      ((with_reducible refine hCl.mono ?_); rintro e w5 ⟨Ac, cc, rfl, oc, fc⟩)
      clear hCl
      have y5 := fc.size
      have hSo := sortForms_any Ac j cc ps w5 oc (by omega) hC0 (Nat.le_refl _) (fun p hp => (q4.out p hp).below fc (Nat.le_refl _)) (Nat.le_refl _) (by omega)
      go_wp2_with fail
      ((with_reducible refine hSo.mono ?_); rintro e w6 ⟨As, ps', hperm, rfl, hRs, fs⟩)
      clear hSo oc
      have y6 := fs.size
      have q3b := ((Own.of_row q3.out).below fc (Nat.le_refl _)).below fs (Nat.le_refl _)
      have q4b : ∀ p ∈ ps, GoodF w6 (b11 + 1) wo.heap.size p := fun p hp => ((q4.out p hp).below fc (Nat.le_refl _)).below fs (Nat.le_refl _)
      have hri6 := (hri.out.below fc (by omega)).below fs (by omega : bo ≤ wo.heap.size)
      have D6 : w6.cell? ⟨b11, 0, none⟩ = some (.slice (some ⟨bo, 0, none⟩) j j) := (fs.cell (p := ⟨b11, 0, none⟩) hz).trans ((fc.cell (p := ⟨b11, 0, none⟩) hz).trans D0)
      have hB6 : Below w.heap.size w w6 := hB.trans ((fc.trans fs).mono yB)
      have hpl : ps'.length = j := by rw [hperm.length_eq]; exact q1.out
      obtain ⟨G, hG⟩ : ∃ G, dnF ps' j = G := ⟨_, rfl⟩
      rw [hG] at hRs ⊢
      obtain ⟨j0, hj0, hy0, hy1, hy2⟩ := info_parts infoI
      replace hG := Lib.hid hG
      replace hperm := Lib.hid hperm
      replace hRs := Lib.hid hRs
      replace q3b := Lib.hid q3b
      replace q4b := Lib.hid q4b
      replace hri6 := Lib.hid hri6
      clear fc fs D0 hri q3 q4
      go_wp2_with (at_make; refine wpList_make_full _ rfl _ _ 22 rfl w6.heap.size 2 j0 (.int .i64 0) 1 Try.underlying22 hj0 hy0 hy1 _ _ _ _ N rfl rfl rfl rfl ?d1 ?d2 (Nat.le_refl _) ?_)
      case d1 => rw [hy2]; omega
      case d2 => simp only [maxLen]; omega
      intro w7 hown hg7
      have f7 : Below w6.heap.size w6 w7 := below_of_grown hg7 (Nat.le_refl _) (by simp)
      obtain ⟨H, hH⟩ : ∃ H, w6.heap.size = H := ⟨_, rfl⟩
      have hown7 : Hid (∃ vs : List Value, w7.ownsRow H 2 1 (.slice (some ⟨H, 0, none⟩) N N) N vs) := Lib.hid ⟨_, by rw [← hH]; exact hown⟩
      have z7 : H < w7.heap.size := by rw [← hH]; exact (hown.lt w6.heap.size (by simp [Value.ownBlock])).2
      clear hown hg7
      rw [hH] at f7 ⊢
      go_wp2_with fail
      go_loopw [59] (fun kv wq => ∃ f : Nat, f ≤ N ∧ kv = .int .i64 f ∧ Hid (∃ vs : List Value, wq.ownsRow H 2 1 (.slice (some ⟨H, 0, none⟩) N N) N vs) ∧ Below H w6 wq ∧ H < wq.heap.size) (fun kv _ => N - (intOf kv).toNat)
      case atStart => exact ⟨0, by omega, rfl, hown7, f7, z7⟩
      case round =>
        obtain ⟨f, hf, rfl, hown, hB8, hz8⟩ := hrel
        have y8 := hB8.size
        by_cases hfl : f < N
        · obtain ⟨bL, oL, x, rfl, _, hbL, hx, hcx⟩ := (hri6.out.below hB8 (by omega)).at_ hfl
          obtain ⟨l, hlx, hlj⟩ : ∃ l : Nat, x = (l : Int) ∧ l < j := by
            rw [labL_get hfl] at hx
            have e := Option.some.inj hx
            have e1 := labOf_nonneg (subL xss I J) f
            have e2 := lab_lt hys hfl
            rw [hC.out] at e2
            exact ⟨x.toNat, by omega, by omega⟩
          subst hlx
          clear hx
          have fW : Below wr.heap.size wr (wr.alloc (.cells #[.int .i64 (l : Int)] 2)) := (Below.refl _ _).alloc (Nat.le_refl _) _
          have fV : Below H w6 (wr.alloc (.cells #[.int .i64 (l : Int)] 2)) := hB8.trans (fW.mono (by omega))
          have hGl : G.length ≤ j := by rw [← hG.out]; exact dnF_len ps' j
          have zW : wr.heap.size < (wr.alloc (.cells #[.int .i64 (l : Int)] 2)).heap.size := by simp
          have hcl : ∀ V, Below (wr.alloc (.cells #[.int .i64 (l : Int)] 2)).heap.size (wr.alloc (.cells #[.int .i64 (l : Int)] 2)) V → ∀ x ∈ G.map (·.1), Calls Try.prog 79 #[.agg #[x], .pointer (some ⟨b11, 0, none⟩), .pointer (some ⟨wr.heap.size, 0, none⟩)] V fun e w' => (∃ t : Bool, e = .returned (.bool t)) ∧ Below V.heap.size V w' := fun V hV x hx => by
            obtain ⟨p, hp, rfl⟩ := List.mem_map.1 hx
            have hp2 : p ∈ ps := hperm.out.mem_iff.1 (dnF_mem (j := j) (by rw [hG.out]; exact hp))
            have hV6 : Below H w6 V := fV.trans (hV.mono (by omega))
            have zV := hV.size
            obtain ⟨Ax, nx, cx, ex, _, _, rx⟩ := q4b.out p hp2
            obtain ⟨pl, hpl2⟩ : ∃ pl, ps[l]? = some pl := ⟨_, List.getElem?_eq_getElem (by rw [q1.out]; exact hlj)⟩
            obtain ⟨Ay, ny, cy, ey, _, _, ry⟩ := q4b.out pl (List.mem_of_getElem? hpl2)
            rw [ex]
            have k3 : w6.cell? ⟨bo, 0 + l, none⟩ = some (.slice Ay ny cy) := by rw [Nat.zero_add]; exact (q3b.out.1.cellAt l (by simp; exact hlj)).trans (by simp [hpl2, ey])
            exact secF1_any Ax nx cx p.2 b11 wr.heap.size bo 0 l j j Ay ny cy pl.2 V (rx.below hV6 (by omega)) (by omega) ((hV6.cell (p := ⟨b11, 0, none⟩) (by simp; omega)).trans D6) (by omega) ((hV.cell (p := ⟨wr.heap.size, 0, none⟩) zW).trans (al_new _ _ _ _ rfl)) (by omega) hlj (by omega) ((hV6.cell (p := ⟨bo, 0 + l, none⟩) (by simp; omega)).trans k3) (by omega) (ry.below hV6 (by omega)) (by omega)
          have hIx := indexF_any As G.length cc (G.map (·.1)) (.pointer (some ⟨b11, 0, none⟩)) (.pointer (some ⟨wr.heap.size, 0, none⟩)) _ (hRs.out.below fV (by omega)) (by omega) (by omega) hcl (fun x hx => by
            obtain ⟨p, hp, rfl⟩ := List.mem_map.1 hx
            obtain ⟨Ax, nx, cx, ex, _⟩ := q4b.out p (hperm.out.mem_iff.1 (dnF_mem (j := j) (by rw [hG.out]; exact hp)))
            exact ⟨Ax, nx, cx, ex⟩)
          clear hcl
          go_wp2_with fail
          ((with_reducible refine hIx.mono ?_); rintro e w9 ⟨⟨t, rfl⟩, f9⟩)
          clear hIx
          obtain ⟨vs, hv⟩ := hown.out
          have y9 := f9.size
          have o9 := ((Own.of_row hv).below fW (Nat.le_refl _)).below f9 (by omega)
          have l9 := o9.len
          have c9 : w9.cell? ⟨H, f, none⟩ = some vs[f] := (o9.1.cellAt f (by omega)).trans (List.getElem?_eq_getElem (by omega))
          have x9 : w9.frozen? ⟨H, f, none⟩ = false := o9.1.frozenAt f
          have s9 : Hid (∃ vs : List Value, (w9.setCell ⟨H, f, none⟩ (.int .i64 t)).ownsRow H 2 1 (.slice (some ⟨H, 0, none⟩) N N) N vs) := Lib.hid ⟨_, (o9.1.stored f (.int .i64 t)).1⟩
          have B9 : Below H w6 (w9.setCell ⟨H, f, none⟩ (.int .i64 t)) := (fV.trans (f9.mono (by omega))).setCell (by simp) _
          have z9 : H < (w9.setCell ⟨H, f, none⟩ (.int .i64 t)).heap.size := by rw [World.size_setCell]; omega
          clear o9 hv
          go_wp2_with fail
          go_roundw
          case measure => simp [intOf]; omega
          case rel => exact ⟨f + 1, by omega, by go_num, s9, B9, z9⟩
        · obtain rfl : f = N := by omega
          obtain ⟨wz, rfl⟩ : ∃ wz : World, wz = wr := ⟨_, rfl⟩
          have hlen2 : ∀ p ∈ ps, p.2.length = J - I ∧ ∀ r ∈ p.2, r.length ≤ 400 := fun p hp => own_len hP hN hIJ (by rw [hxl]; exact hJ) (by rw [← q2.out]; exact List.mem_map_of_mem hp)
          have hB9 : Below w.heap.size w wz := hB6.trans (hB8.mono (by omega))
          have yz := hB9.size
          have hRz := hRs.out.below hB8 (by omega)
          have q4z : ∀ p ∈ ps, GoodF wz (b11 + 1) wo.heap.size p := fun p hp => (q4b.out p hp).below hB8 (by omega)
          have hGl : G.length ≤ j := by rw [← hG.out]; exact dnF_len ps' j
          replace hRz := Lib.hid hRz
          replace q4z := Lib.hid q4z
          replace hlen2 := Lib.hid hlen2
          clear q3b hri6 hown
          go_wp2_with fail
          go_loopw [73, 17] (fun kv sv wq => ∃ (g : Nat) (A3 : Option Addr) (c3 : Nat) (os : List VF), g ≤ G.length ∧ kv = .int .i64 g ∧ sv = .slice A3 g c3 ∧ Hid (os.length = g) ∧ Hid (os.map (·.2) = (G.take g).map (·.2)) ∧ Hid (wq.ownsRow wz.heap.size 38 1 (.slice A3 g c3) g (os.map (·.1))) ∧ Hid (∀ p ∈ os, ∃ A n c, p.1 = .slice A n c ∧ 0 < n ∧ n ≤ c ∧ OwnS wq wz.heap.size wq.heap.size 22 2 A n c p.2) ∧ Below wz.heap.size wz wq) (fun kv _ _ => G.length - (intOf kv).toNat)
          case atStart => exact ⟨0, none, 0, [], by omega, rfl, rfl, Lib.hid rfl, Lib.hid rfl, Lib.hid (World.ownsRow_nil _ _ _ _), Lib.hid (fun p hp => by simp at hp), Below.refl _ _⟩
          case round =>
            obtain ⟨g, A3, c3, os, hgl, rfl, rfl, ho1, ho2, ho3, ho4, hBr⟩ := hrel
            have yr := hBr.size
            by_cases hlt : g < G.length
            · obtain ⟨b5, o5, v, rfl, _, hb5, hv, hcx⟩ := (hRz.out.below hBr (by omega)).at_ hlt
              rw [List.getElem?_map, Option.map_eq_some_iff] at hv
              obtain ⟨p, hp, rfl⟩ := hv
              have hp2 : p ∈ ps := hperm.out.mem_iff.1 (dnF_mem (j := j) (by rw [hG.out]; exact List.mem_of_getElem? hp))
              obtain ⟨Ax, nx, cx, ex, px, qx, rx⟩ := q4z.out p hp2
              rw [ex] at hcx
              have rx2 := rx.below hBr (by omega)
              obtain ⟨hx1, hx2⟩ := hlen2.out p hp2
              have hnx := rx.len
              have fW : Below wr.heap.size wr (wr.alloc (.cells #[.slice Ax nx cx] 38)) := (Below.refl _ _).alloc (Nat.le_refl _) _
              have hCl := cloneM_any Ax nx cx p.2 (wr.alloc (.cells #[.slice Ax nx cx] 38)) (rx2.below fW (by omega)) (by simp; omega) (by omega) (fun r hr => by have := hx2 r hr; omega)
              have htk : (G.take (g + 1)).map (·.2) = (G.take g).map (·.2) ++ [p.2] := by rw [List.take_add_one, hp]; simp
              replace htk := Lib.hid htk
              clear hx1 hx2 hp hp2 ex rx rx2
              go_wp2_with fail
              ((with_reducible refine hCl.mono ?_); rintro e wc ⟨A5, c5, rfl, o5, f5⟩)
              clear hCl
              have f6 : Below wr.heap.size wr wc := fW.trans (f5.mono (by simp))
              have yc := f6.size
              have hown := ((Own.of_row ho3.out).below f6 (Nat.le_refl _)).1
              go_wp2_with (at_builtin; refine wpList_append1 wc rfl (.tmp 77) (.tmp 80) 63 rfl wz.heap.size 38 m0 (.agg #[.slice none 0 0]) 24 Try.underlying63 hm0 hv0 hv1 hv2 rfl (by omega) _ g c3 _ (.slice A5 nx c5) rfl hown _ rfl rfl rfl (by omega) (by omega) ?_)
              intro g1 c4 w8 ho8 hg8 hlo8 hlt8 hor8
              have z8 := hg8.size
              have B8 : Below wz.heap.size wz w8 := (hBr.trans (f6.mono yr)).grown hg8 (by omega) (fun q hq => by have := (hown.lt q hq).1; omega)
              have k8 : ∀ q ∈ os ++ [((.slice A5 nx c5, p.2) : VF)], ∃ A n c, q.1 = .slice A n c ∧ 0 < n ∧ n ≤ c ∧ OwnS w8 wz.heap.size w8.heap.size 22 2 A n c q.2 := by
                intro q hq
                rcases List.mem_append.1 hq with h1 | h1
                · obtain ⟨A9, n9, c9, e9, p9, q9, r9⟩ := ho4.out q h1
                  obtain ⟨vs, oA, oB⟩ := r9.below f6 (Nat.le_refl _)
                  exact ⟨A9, n9, c9, e9, p9, q9, OwnS.more ⟨vs, oA.kept_ty hown (by decide) hg8, oB.kept_ty hown (by decide) hg8⟩ (Nat.le_refl _) (by omega)⟩
                · rw [List.mem_singleton.1 h1]
                  obtain ⟨vs, oA, oB⟩ := o5
                  exact ⟨A5, nx, c5, rfl, px, oA.cap, OwnS.more ⟨vs, oA.kept_ty hown (by decide) hg8, oB.kept_ty hown (by decide) hg8⟩ (by simp; omega) (by omega)⟩
              have k8 := Lib.hid k8
              have ho9 : Hid (w8.ownsRow wz.heap.size 38 1 (.slice (some ⟨g1, 0, none⟩) (g + 1) c4) (g + 1) ((os ++ [((.slice A5 nx c5, p.2) : VF)]).map (·.1))) := Lib.hid (by rw [List.map_append]; exact ho8)
              have hm9 : Hid ((os ++ [((.slice A5 nx c5, p.2) : VF)]).map (·.2) = (G.take (g + 1)).map (·.2)) := Lib.hid (by rw [List.map_append, ho2.out, htk.out]; rfl)
              clear ho8 hown hg8 hor8 o5 f5 f6 fW ho3 ho4
              go_wp2_with fail
              go_roundw
              case measure => simp [intOf]; omega
              case rel => exact ⟨g + 1, _, c4, os ++ [((.slice A5 nx c5, p.2) : VF)], by omega, by go_num, rfl, Lib.hid (by simp [ho1.out]), hm9, ho9, k8, B8⟩
            · obtain rfl : g = G.length := by omega
              have k1 := sf_post (os := os) hperm.out q1.out hC0 q2.out (by rw [ho2.out, List.take_length, hG.out])
              have hBe := hB9.trans (hBr.mono yz)
              have yr2 := hBr.size
              go_wp2_with fail
              go_ret2
              refine ⟨A3, c3, some ⟨H, 0, none⟩, _, os, by rw [ho1.out]; rfl, by rw [ho1.out]; exact (Own.of_row ho3.out).rd.more (by omega) (Nat.le_refl _), ?_, k1, hBe⟩
              intro p hp
              obtain ⟨A9, n9, c9, e9, p9, q9, r9⟩ := ho4.out p hp
              exact ⟨A9, n9, c9, e9, p9, q9, r9.rs.more (by omega) (Nat.le_refl _)⟩
end Go.Proofs.Ytbioelmofceaaaa
/- ColP -/
namespace Go.Proofs.Ytbioelmofceaaaa
set_option linter.unusedVariables false
set_option maxRecDepth 100000
/-- the move p changes the parity at y -/
def edgeB (D : List Int) (y : Int) (p : List Int) : Bool := decide (dat D (at' p y) % 2 ≠ dat D y % 2)
def edgesB (xss : List (List Int)) (D : List Int) (y : Int) : Bool := xss.all (edgeB D y)
/-- all moves change all parities -/
def colB (xss : List (List Int)) (n : Nat) (D : List Int) : Bool := (List.range n).all fun y => edgesB xss D (y : Int)
/-- what the reference hands out: no colours, where there is no colouring -/
def colZ (xss : List (List Int)) (n : Nat) (D : List Int) : List Int := if colB xss n D = true then D.map (· % 2) else []
def parL (D : List Int) : List Int := D.map (· % 2)
/-- the colours c are the parities of the distances d so far -/
def Col (n : Nat) (d c : List Int) : Prop := d.length = n ∧ c.length = n ∧ ∀ z : Int, 0 ≤ z → z < n → dat c z = if dat d z < 0 then -1 else dat d z % 2
theorem dat_start {n : Nat} {x z : Int} (h0 : 0 ≤ x) (h1 : x < n) (g0 : 0 ≤ z) (g1 : z < n) : dat (dstart n x).1 z = if z = x then 0 else -1 := by
  unfold dstart
  by_cases e : z = x
  · subst e; rw [if_pos rfl]; exact dat_set_eq (n := n) (by simp) h0 h1
  · rw [if_neg e, dat_set_ne h0 g0 e]
    unfold dat
    simp [List.getD, show z.toNat < n by omega]
theorem Col.start {n : Nat} {x : Int} (h0 : 0 ≤ x) (h1 : x < n) : Col n (dstart n x).1 (dstart n x).1 := by
  refine ⟨by simp [dstart], by simp [dstart], fun z g0 g1 => ?_⟩
  rw [dat_start h0 h1 g0 g1]
  by_cases e : z = x
  · simp [e]
  · simp [e]
theorem Col.set {n : Nat} {d c : List Int} {g y : Int} (h : Col n d c) (g0 : 0 ≤ g) (g1 : g < n) (y0 : 0 ≤ y) (y1 : y < n) (hy : 0 ≤ dat d y) : Col n (d.set g.toNat (dat d y + 1)) (c.set g.toNat (1 - dat c y)) := by
  obtain ⟨hd, hc, hh⟩ := h
  refine ⟨by simp [hd], by simp [hc], fun z z0 z1 => ?_⟩
  by_cases e : z = g
  · subst e
    rw [dat_set_eq hc g0 g1, dat_set_eq hd g0 g1, hh y y0 y1, if_neg (by omega), if_neg (by omega)]
    omega
  · rw [dat_set_ne g0 z0 e, dat_set_ne g0 z0 e]
    exact hh z z0 z1
theorem Col.neg {n : Nat} {d c : List Int} {z : Int} (h : Col n d c) (z0 : 0 ≤ z) (z1 : z < n) : dat c z < 0 ↔ dat d z < 0 := by
  rw [h.2.2 z z0 z1]
  split <;> omega
theorem Col.val {n : Nat} {d c : List Int} {z : Int} (h : Col n d c) (z0 : 0 ≤ z) (z1 : z < n) (hz : 0 ≤ dat d z) : dat c z = dat d z % 2 := by
  rw [h.2.2 z z0 z1, if_neg (by omega)]
theorem Col.end_ {n : Nat} {d c : List Int} (h : Col n d c) (hall : ∀ z : Int, 0 ≤ z → z < n → 0 ≤ dat d z) : c = parL d := by
  unfold parL
  refine List.ext_getElem? fun k => ?_
  by_cases hk : k < n
  · have h1 := get?_getD (xs := c) (k := k) 0 (by have := h.2.1; omega)
    have h2 := get?_getD (xs := d) (k := k) 0 (by have := h.1; omega)
    rw [h1, List.getElem?_map, h2]
    have := h.val (z := (k : Int)) (by omega) (by omega) (hall k (by omega) (by omega))
    unfold dat at this
    rw [Int.toNat_natCast] at this
    rw [this]
    rfl
  · rw [List.getElem?_eq_none (by have := h.2.1; omega), List.getElem?_eq_none (by simp; have := h.1; omega)]
theorem dMove_keep {list : List (List Int)} {n : Nat} {x y : Int} {p : List Int} {s : List Int × List Int} {i : Nat} (hs : SysOf list n) (h : DMet list n x s.1 s.2 i) (hy : s.2[i]? = some y) (hp : p ∈ list) {z : Int} (hz : z ∈ s.2) : dat (dMove y s p).1 z = dat s.1 z := by
  have hyr := h.met.rng y (mem_of_get? hy)
  obtain ⟨g0, g1⟩ := at'_rng (hs p hp).1 (hs p hp).2.2 hyr.1 hyr.2
  unfold dMove
  split
  · rename_i hn
    exact dat_set_ne g0 (h.met.rng z hz).1 (fun e => by subst e; have := (h.datn hz).1; omega)
  · rfl
theorem dStep_keep {list : List (List Int)} {n : Nat} {x y : Int} {i : Nat} (hs : SysOf list n) {z : Int} : ∀ (ps : List (List Int)) (s : List Int × List Int), (∀ p ∈ ps, p ∈ list) → DMet list n x s.1 s.2 i → s.2[i]? = some y → z ∈ s.2 → dat (dStep ps y s).1 z = dat s.1 z := by
  intro ps
  induction ps with
  | nil => intro s _ _ _ _; rfl
  | cons p t ih =>
    intro s hps h hy hz
    obtain ⟨h1, h2, h3, h4⟩ := dMove_spec hs h hy (hps p (by simp))
    have := ih (dMove y s p) (fun q hq => hps q (by simp [hq])) h1 h2 (h4 z hz)
    rw [dMove_keep hs h hy (hps p (by simp)) hz] at this
    exact this
theorem dGo_keep {list : List (List Int)} {n : Nat} {x : Int} (hs : SysOf list n) {z : Int} : ∀ (f : Nat) (s : List Int × List Int) (i : Nat), DMet list n x s.1 s.2 i → z ∈ s.2 → dat (dGo list f s i).1 z = dat s.1 z := by
  intro f
  induction f with
  | zero => intro s i _ _; rfl
  | succ f ih =>
    intro s i h hz
    cases hx : s.2[i]? with
    | none => rw [dGo_stop (List.getElem?_eq_none_iff.1 hx)]
    | some y =>
      rw [dGo_step hx, ih _ _ (dStep_next hs h hx) ((dStep_spec hs list s (fun _ h => h) h hx).2.2.2 z hz)]
      exact dStep_keep hs list s (fun _ h => h) h hx hz
/-- distances that are known stay -/
theorem final_keep {list : List (List Int)} {n : Nat} {x y : Int} {i f k : Nat} {s : List Int × List Int} (hs : SysOf list n) (h : DMet list n x s.1 s.2 i) (hy : s.2[i]? = some y) {z : Int} (hz : z ∈ (dStep (list.take k) y s).2) :
    dat (dGo list (f + 1) s i).1 z = dat (dStep (list.take k) y s).1 z := by
  obtain ⟨h1, h2, _, _⟩ := dStep_spec hs (list.take k) s (fun _ h => mem_of_take h) h hy
  have e : dStep list y s = dStep (list.drop k) y (dStep (list.take k) y s) := by
    unfold dStep
    rw [← List.foldl_append, List.take_append_drop]
  have hd : ∀ p ∈ list.drop k, p ∈ list := fun p hp => List.mem_of_mem_drop hp
  rw [dGo_step hy, dGo_keep hs _ _ _ (dStep_next hs h hy), e]
  · exact dStep_keep hs _ _ hd h1 h2 hz
  · rw [e]; exact (dStep_spec hs (list.drop k) _ hd h1 h2).2.2.2 z hz
theorem all_out {list : List (List Int)} {n : Nat} {x : Int} {out : List Int} (hm : Met list n x out) (hl : n ≤ out.length) (f : Int → Bool) : out.all f = (List.range n).all fun (y : Nat) => f (y : Int) := by
  rw [Bool.eq_iff_iff, List.all_eq_true, List.all_eq_true]
  constructor
  · intro h y hy
    refine h y (mem_of_full hm.nd (fun a ha => mem_ints.2 (hm.rng a ha)) (by simpa using hl) (mem_ints.2 ⟨by omega, by have := List.mem_range.1 hy; omega⟩))
  · intro h y hy
    have := hm.rng y hy
    have h2 := h y.toNat (by rw [List.mem_range]; omega)
    rwa [Int.toNat_of_nonneg this.1] at h2
theorem met_full {n : Nat} {out : List Int} (hc : ∀ z : Int, 0 ≤ z → z < n → z ∈ out) : n ≤ out.length := by
  have := nodup_sub_len ((List.range n).map Int.ofNat) out (by
    rw [List.nodup_iff_pairwise_ne, List.pairwise_map]
    refine List.pairwise_lt_range.imp ?_
    intro a b h e
    have e : (a : Int) = b := e
    have : a < b := h
    omega) (fun a ha => by obtain ⟨g1, g2⟩ := mem_ints.1 ha; exact hc a g1 g2)
  simpa using this
theorem all_take_succ {α : Type} {xs : List α} {k : Nat} {x : α} {f : α → Bool} (h : xs[k]? = some x) : (xs.take (k + 1)).all f = ((xs.take k).all f && f x) := by
  rw [take_succ_of h, List.all_append]; simp
theorem edge_new {list : List (List Int)} {n : Nat} {x y : Int} {p d out D : List Int} {i : Nat} (hs : SysOf list n) (h : DMet list n x d out i) (hy : out[i]? = some y) (hp : p ∈ list) (hn : dat d (at' p y) < 0)
    (hD : ∀ z ∈ (dMove y (d, out) p).2, dat D z = dat (dMove y (d, out) p).1 z) : edgeB D y p = true := by
  have hyr := h.met.rng y (mem_of_get? hy)
  obtain ⟨g0, g1⟩ := at'_rng (hs p hp).1 (hs p hp).2.2 hyr.1 hyr.2
  have hyd := (h.datn (mem_of_get? hy)).1
  unfold dMove at hD
  rw [if_pos hn] at hD
  have h1 := hD (at' p y) (by simp)
  have h2 := hD y (List.mem_append_left _ (mem_of_get? hy))
  rw [dat_set_eq h.dl g0 g1] at h1
  rw [dat_set_ne g0 hyr.1 (fun e => by rw [← e] at hn; omega)] at h2
  unfold edgeB
  rw [h1, h2]
  exact decide_eq_true (by omega)
theorem edge_old {list : List (List Int)} {n : Nat} {x y : Int} {p d out D : List Int} {i : Nat} (hs : SysOf list n) (h : DMet list n x d out i) (hy : out[i]? = some y) (hp : p ∈ list) (hn : ¬ dat d (at' p y) < 0)
    (hD : ∀ z ∈ (dMove y (d, out) p).2, dat D z = dat (dMove y (d, out) p).1 z) : edgeB D y p = decide (dat d (at' p y) % 2 ≠ dat d y % 2) := by
  have hyr := h.met.rng y (mem_of_get? hy)
  obtain ⟨g0, g1⟩ := at'_rng (hs p hp).1 (hs p hp).2.2 hyr.1 hyr.2
  unfold dMove at hD
  rw [if_neg hn] at hD
  have h1 := hD (at' p y) ((h.pos _ g0 g1).1 (by omega))
  have h2 := hD y (mem_of_get? hy)
  unfold edgeB
  rw [h1, h2]
theorem edges_snoc {xss : List (List Int)} {k : Nat} {p : List Int} {pre : List Int} {D : List Int} {y : Int} {o : Bool} (hp : xss[k]? = some p) (ho : o = (pre.all (edgesB xss D) && (xss.take k).all (edgeB D y))) : (o && edgeB D y p) = (pre.all (edgesB xss D) && (xss.take (k + 1)).all (edgeB D y)) := by
  rw [all_take_succ hp, ho, Bool.and_assoc]
theorem edges_next {xss : List (List Int)} {pre : List Int} {D : List Int} {y : Int} {o : Bool} (ho : o = (pre.all (edgesB xss D) && xss.all (edgeB D y))) : o = (pre ++ [y]).all (edgesB xss D) := by
  rw [ho, List.all_append]; simp [edgesB]
end Go.Proofs.Ytbioelmofceaaaa
/- Que -/
namespace Go.Proofs.Ytbioelmofceaaaa
open Go.RowKit
set_option linter.unusedVariables false
set_option maxRecDepth 100000
/-- '.slice A n c' holds vs; it lies in a block from lo on; what lies behind it, up to c, may be written -/
def Que (w : World) (lo : Nat) (A : Option Addr) (n c : Nat) (vs : List Value) : Prop :=
  vs.length = n ∧ n ≤ c ∧ c ≤ maxLen ∧ ∃ g o, A = some ⟨g, o, none⟩ ∧ lo ≤ g ∧ g < w.heap.size ∧ (∀ k v, vs[k]? = some v → w.cell? ⟨g, o + k, none⟩ = some v) ∧ (∀ k, k < c → (w.cell? ⟨g, o + k, none⟩).isSome = true) ∧ ∀ k, w.frozen? ⟨g, k, none⟩ = false
section
variable {w w' : World} {lo hi n c : Nat} {T : TypeId} {A : Option Addr} {vs : List Value}
theorem Que.keep (h : Que w lo A n c vs) (hs : ∀ k, lo ≤ k → k < w.heap.size → w'.heap[k]? = w.heap[k]?) (hz : w.heap.size ≤ w'.heap.size) : Que w' lo A n c vs := by
  obtain ⟨h1, h2, h3, g, o, e, h4, h5, h6, h7, h8⟩ := h
  refine ⟨h1, h2, h3, g, o, e, h4, by omega, fun k v hv => ?_, fun k hk => ?_, fun k => ?_⟩
  · exact (World.cell?_of_block (w := w) (a := ⟨g, o + k, none⟩) (hs g h4 h5)).trans (h6 k v hv)
  · rw [World.cell?_of_block (w := w) (a := ⟨g, o + k, none⟩) (hs g h4 h5)]; exact h7 k hk
  · rw [World.frozen?_of_block (w := w) (a := ⟨g, k, none⟩) (hs g h4 h5)]; exact h8 k
theorem Que.far (h : Que w lo A n c vs) {p : Addr} (hp : p.block < lo) (u : Value) : Que (w.setCell p u) lo A n c vs :=
  h.keep (fun k h1 h2 => Below.heap_setCell _ _ _ _ (by omega)) (by simp)
theorem Que.drewN (h : Que w lo A n c vs) (k : Nat) : Que (w.drewN k) lo A n c vs := h
theorem Que.len (h : Que w lo A n c vs) : vs.length = n := h.1
theorem Que.cap (h : Que w lo A n c vs) : n ≤ c := h.2.1
theorem Que.max (h : Que w lo A n c vs) : c ≤ 9223372036854775807 := by have := h.2.2.1; simp only [maxLen] at this; omega
theorem Que.more {lo' : Nat} (h : Que w lo A n c vs) (h' : lo' ≤ lo) : Que w lo' A n c vs := by
  obtain ⟨h1, h2, h3, g, o, e, h4, h5, h6, h7, h8⟩ := h
  exact ⟨h1, h2, h3, g, o, e, by omega, h5, h6, h7, h8⟩
theorem Que.addr (h : Que w lo A n c vs) : ∃ g o, A = some ⟨g, o, none⟩ ∧ lo ≤ g ∧ g < w.heap.size := by
  obtain ⟨_, _, _, g, o, e, h4, h5, _⟩ := h
  exact ⟨g, o, e, h4, h5⟩
theorem Que.cell {g o k : Nat} {v : Value} (h : Que w lo (some ⟨g, o, none⟩) n c vs) (hv : vs[k]? = some v) : w.cell? ⟨g, o + k, none⟩ = some v := by
  obtain ⟨_, _, _, g', o', e, _, _, h6, _⟩ := h
  injection e with e; injection e with e1 e2 _; subst e1; subst e2
  exact h6 k v hv
/-- the first element is cut away -/
theorem Que.pop {g o : Nat} {v : Value} {vs : List Value} {A' : Option Addr} (h : Que w lo (some ⟨g, o, none⟩) (n + 1) c (v :: vs)) (hA : A' = some ⟨g, o + 1, none⟩ ∨ (c = 1 ∧ A' = some ⟨g, o, none⟩)) : Que w lo A' n (c - 1) vs := by
  obtain ⟨h1, h2, h3, g', o', e, h4, h5, h6, h7, h8⟩ := h
  injection e with e; injection e with e1 e2 _; subst e1; subst e2
  simp at h1
  refine ⟨h1, by omega, by omega, ?_⟩
  rcases hA with rfl | ⟨rfl, rfl⟩
  · refine ⟨g, o + 1, rfl, h4, h5, fun k u hu => ?_, fun k hk => ?_, h8⟩
    · rw [show o + 1 + k = o + (k + 1) by omega]; exact h6 (k + 1) u (by simpa using hu)
    · rw [show o + 1 + k = o + (k + 1) by omega]; exact h7 (k + 1) (by omega)
  · have : vs = [] := List.eq_nil_of_length_eq_zero (by omega)
    subst this
    exact ⟨g, o, rfl, h4, h5, fun k u hu => by simp at hu, fun k hk => by omega, h8⟩
theorem Que.of_row {g : Nat} (h : w.ownsRow lo T 1 (.slice (some ⟨g, 0, none⟩) n c) n vs) : Que w lo (some ⟨g, 0, none⟩) n c vs := by
  have hl := h.1
  rcases h.2 with ⟨hv, _⟩ | ⟨g', cap, cur, hv, hb, hg, hnc, hcm, hcs, htake⟩
  · cases hv
  · injection hv with e1 _ e3
    injection e1 with e1
    injection e1 with e1 _ _
    subst e1; subst e3
    refine ⟨by omega, hnc, hcm, g, 0, rfl, hb, (Array.getElem?_eq_some_iff.1 hg).1, fun k v hv => ?_, fun k hk => ?_, fun k => frozen_of_row w g k cur T hg⟩
    · rw [Nat.zero_add, cell_of_row w g k cur T _ hg]
      have hk := (List.getElem?_eq_some_iff.1 hv).1
      rw [← htake, List.getElem?_take_of_lt (by omega)] at hv
      simpa using hv
    · rw [Nat.zero_add, cell_of_row w g k cur T _ hg]
      simp; omega
theorem Que.of_own {g : Nat} (h : Own w lo hi T (some ⟨g, 0, none⟩) n c vs) : Que w lo (some ⟨g, 0, none⟩) n c vs := Que.of_row h.1
end
section
variable {P : Program}
/-- 'append(s, x)' at a queue -/
theorem wpList_appendQ (w : World) {ops : Array Oper} {rest : List Oper} {o : Oper} {a : Act} {Q : Exit → Act → World → Prop} (hgd : o.guard = none) (s x : Operand) (t : TypeId)
    (ho : o.op = .call { callee := .builtin .append, args := #[s, x], argTypes := #[t, t] })
    (lo : Nat) (e : TypeId) (i : TypeInfo) (z : Value) (bytes : Nat) (ht : P.underlying t = some (.slice e)) (hi : P.info? e = some i) (hz : i.zero = some z)
    (hsize : i.size = 1) (hby : i.bytes = bytes) (hzs : z.cells.size = 1) (hbs : bytes ≤ 64)
    (A : Option Addr) (n c : Nat) (vs : List Value) (u : Value) (hs : a.eval s = .slice A n c) (hq : Que w lo A n c vs)
    (N : Nat) (hx : a.eval x = .slice (some ⟨N, 0, none⟩) 1 1) (hN : N = w.heap.size) (h1 : u.oneCell' = true) (h63 : n < 1099511627776) (hlo : lo ≤ w.heap.size)
    (h : ∀ A' c' w', Que w' lo A' (n + 1) c' (vs ++ [u]) → Below lo w w' → wpList P ops Q rest (a.put o.dst (.slice A' (n + 1) c')) w') :
    wpList P ops Q (o :: rest) a (w.alloc (.cells #[u] e)) := by
  subst hN
  refine wpList_plain hgd fun K hK => ?_
  have hnews : ∀ j v, [u][j]? = some v → (w.alloc (.cells #[u] e)).cell? ((⟨w.heap.size, 0, none⟩ : Addr).add j) = some v := by
    intro j v hv
    have : j = 0 := by have := (List.getElem?_eq_some_iff.1 hv).1; simp at this; omega
    subst this
    simp at hv
    subst hv
    simp [Addr.add_lit]
  have hq' : Que (w.alloc (.cells #[u] e)) lo A n c vs := hq.keep (fun k _ hk => Below.heap_alloc _ _ _ hk) (by simp)
  have hb' : Below lo w (w.alloc (.cells #[u] e)) := (Below.refl _ _).alloc hlo _
  obtain ⟨q1, q2, q3, g, off, rfl, q4, q5, q6, q7, q8⟩ := hq'
  by_cases hr : n + 1 ≤ c
  · have hrun := run_append_room_cells (P := P) (w.alloc (.cells #[u] e)) t o.type e i ht hi g off n c ⟨w.heap.size, 0, none⟩ 1 1 [u] (by simp [hsize]) hnews (by simpa using h1) hr
      (fun j hj => by simp at hj; subst hj; rw [hsize]; exact q7 _ (by omega)) (fun j hj => q8 _)
    rw [hsize, Nat.mul_one] at hrun
    unfold Oper.wp execOp
    simp only [ho, resolve, invoke, builtin, Sem.run_bind, Sem.run_pure, Result.andThen_ok, List.map_toArray, List.map_cons, List.map_nil, hs, hx, hrun]
    have hset : (w.alloc (.cells #[u] e)).setCells g (off + n) [u] = (w.alloc (.cells #[u] e)).setCell ⟨g, off + n, none⟩ u := by simp [World.setCells]
    rw [hset]
    have hsome : ((w.alloc (.cells #[u] e)).cell? ⟨g, off + n, none⟩).isSome = true := q7 n (by omega)
    refine hK _ _ (h _ c _ ⟨by simp [q1], hr, q3, g, off, rfl, q4, by simpa using q5, fun k v hv => ?_, fun k hk => ?_, fun k => ?_⟩ (hb'.setCell q4 _))
    · by_cases hk : k < n
      · rw [List.getElem?_append_left (by omega)] at hv
        exact (World.cell?_setCell_other _ _ _ _ (by intro e; injection e with _ e _; omega)).trans (q6 k v hv)
      · have hk2 := (List.getElem?_eq_some_iff.1 hv).1
        simp at hk2
        have e : k = n := by omega
        subst e
        rw [List.getElem?_append_right (by omega)] at hv
        simp [q1] at hv
        subst hv
        exact World.cell?_setCell_same _ _ _ (Option.isSome_iff_exists.1 hsome).choose_spec
    · by_cases e : k = n
      · subst e; rw [World.cell?_setCell_same _ _ _ (Option.isSome_iff_exists.1 hsome).choose_spec]; rfl
      · exact (congrArg Option.isSome (World.cell?_setCell_other _ _ _ _ (by intro e'; injection e' with _ e' _; omega))).trans (q7 k (by omega))
    · rw [World.frozen?_setCell]; exact q8 k
  · obtain ⟨v', w', hrun, r1, r2⟩ := run_append_arg_grows (P := P) (w.alloc (.cells #[u] e)) t o.type e i z 1 bytes ht hi hz hsize hby hzs (by omega) ⟨g, off, none⟩ n c vs (by omega) (fun j v hv => by rw [Addr.add_lit]; exact q6 j v hv)
      ⟨w.heap.size, 0, none⟩ 1 1 [u] rfl hnews (by omega) (by simp only [maxLen]; omega) (by have := Nat.mul_le_mul (show n + 1 ≤ 1099511627776 by omega) hbs; omega)
    obtain ⟨g', c', rfl, hg1, hg2⟩ := slice_of_own r1 (by omega)
    unfold Oper.wp execOp
    simp only [ho, resolve, invoke, builtin, Sem.run_bind, Sem.run_pure, Result.andThen_ok, List.map_toArray, List.map_cons, List.map_nil, hs, hx, hrun]
    refine hK _ _ (h _ c' w' ((Que.of_row r1).more (by simp; omega)) (hb'.grown r2 (by simp; omega) (fun q hq => by cases hq)))
end
end Go.Proofs.Ytbioelmofceaaaa
/- Dist -/
namespace Go.Proofs.Ytbioelmofceaaaa
open Go.RowKit
set_option linter.unusedVariables false
set_option maxRecDepth 100000
theorem dat_get {d : List Int} {z : Nat} {n : Nat} (hl : d.length = n) (hz : z < n) : d[z]? = some (dat d (z : Int)) := by
  unfold dat; rw [Int.toNat_natCast]; exact get?_getD 0 (by omega)
end Go.Proofs.Ytbioelmofceaaaa
/- Dia -/
namespace Go.Proofs.Ytbioelmofceaaaa
open Go.RowKit
set_option linter.unusedVariables false
set_option maxRecDepth 100000
/-- the greatest of a and the numbers of l -/
def maxFrom (a : Int) (l : List Int) : Int := l.foldl (fun m x => if m < x then x else m) a
theorem maxFrom_snoc (a x : Int) (l : List Int) : maxFrom a (l ++ [x]) = if maxFrom a l < x then x else maxFrom a l := by unfold maxFrom; rw [List.foldl_append]; rfl
theorem maxFrom_spec (l : List Int) : ∀ a, a ≤ maxFrom a l ∧ (∀ x ∈ l, x ≤ maxFrom a l) ∧ (maxFrom a l = a ∨ maxFrom a l ∈ l) := by
  induction l with
  | nil => intro a; exact ⟨Int.le_refl _, by simp, .inl rfl⟩
  | cons y t ih =>
    intro a
    have e : maxFrom a (y :: t) = maxFrom (if a < y then y else a) t := rfl
    rw [e]
    have hb : a ≤ (if a < y then y else a) ∧ y ≤ (if a < y then y else a) ∧ ((if a < y then y else a) = a ∨ (if a < y then y else a) = y) := by split <;> omega
    generalize (if a < y then y else a) = b at *
    obtain ⟨h1, h2, h3⟩ := ih b
    refine ⟨by omega, fun x hx => ?_, ?_⟩
    · rcases List.mem_cons.1 hx with rfl | hx
      · omega
      · exact h2 x hx
    · rcases h3 with h3 | h3
      · rcases hb.2.2 with k | k
        · left; omega
        · right; rw [h3, k]; simp
      · right; simp [h3]
theorem maxFrom_two {a x : Int} {l : List Int} (hx : x ∈ l) : maxFrom a l = if a < maxFrom x l then maxFrom x l else a := by
  obtain ⟨h1, h2, h3⟩ := maxFrom_spec l a
  obtain ⟨k1, k2, k3⟩ := maxFrom_spec l x
  have e : maxFrom x l ∈ l := by rcases k3 with k | k
                                 · rw [k]; exact hx
                                 · exact k
  split
  · rename_i hh
    have := h2 _ e
    rcases h3 with h3 | h3
    · omega
    · have := k2 _ h3; omega
  · rename_i hh
    rcases h3 with h3 | h3
    · exact h3
    · have := k2 _ h3; omega
def diaGo (xss : List (List Int)) (n k : Nat) : Int := (List.range k).foldl (fun (m : Int) (f : Nat) => maxFrom m (dist xss n (f : Int))) (0 : Int)
theorem diaGo_succ (xss : List (List Int)) (n k : Nat) : diaGo xss n (k + 1) = maxFrom (diaGo xss n k) (dist xss n (k : Int)) := by unfold diaGo; rw [List.range_succ, List.foldl_append]; rfl
/-- what DiameterOf returns -/
noncomputable def diaF (xss : List (List Int)) : Int × Int := if isManB xss = true then (diaGo xss (flg xss) (flg xss), 0) else (0, 1)
end Go.Proofs.Ytbioelmofceaaaa
/- PthP -/
namespace Go.Proofs.Ytbioelmofceaaaa
set_option linter.unusedVariables false
theorem dist_le {xss : List (List Int)} {n : Nat} {x y : Int} {D E : List Int} (hs : SysOf xss n) (hi : Invo xss n) (hD : DFin xss n x D) (hE : DFin xss n y E) : ∀ (k : Nat) (z : Int), 0 ≤ z → z < n → dat E z = k → dat D y ≤ dat D z + k := by
  intro k
  induction k with
  | zero =>
    intro z z0 z1 h
    have := (dist_zero hE z0 z1).2 h
    subst this
    omega
  | succ k ih =>
    intro z z0 z1 h
    have hne : z ≠ y := fun e => by
      have := (dist_zero hE z0 z1).1 e
      omega
    obtain ⟨u, p, hp, u0, u1, e, hd⟩ := hE.par z z0 z1 hne
    have h1 := ih u u0 u1 (by omega)
    have h2 := hD.lip z p z0 z1 hp
    rw [e, hi p hp u u0 u1] at h2
    rw [← e] at h2
    omega
theorem dist_symm {xss : List (List Int)} {n : Nat} {x y : Int} {D E : List Int} (hs : SysOf xss n) (hi : Invo xss n) (hD : DFin xss n x D) (hE : DFin xss n y E) (x0 : 0 ≤ x) (x1 : x < n) (y0 : 0 ≤ y) (y1 : y < n) : dat D y = dat E x := by
  have a := hD.rng y y0 y1
  have b := hE.rng x x0 x1
  have h1 := dist_le hs hi hD hE (dat E x).toNat x x0 x1 (by omega)
  have h2 := dist_le hs hi hE hD (dat D y).toNat y y0 y1 (by omega)
  rw [hD.zero] at h1
  rw [hE.zero] at h2
  omega
theorem fw_run {xss : List (List Int)} {n : Nat} {x : Int} {D : List Int} (hs : SysOf xss n) (hi : Invo xss n) (h : DFin xss n x D) : ∀ (d : Nat) (f : Int), 0 ≤ f → f < n → dat D f = d → runW xss (fwL xss D d f) f = x ∧ ∀ g ∈ fwL xss D d f, 0 ≤ g ∧ g < xss.length := by
  intro d
  induction d with
  | zero =>
    intro f f0 f1 hd
    exact ⟨(dist_zero h f0 f1).2 hd, by simp [fwL]⟩
  | succ d ih =>
    intro f f0 f1 hd
    have hne : f ≠ x := fun e => by
      have := (dist_zero h f0 f1).1 e
      omega
    obtain ⟨p0, hp0, hn0⟩ := near_ex hs hi h f0 f1 hne
    have hlt : xss.findIdx (nearB D f) < xss.length := List.findIdx_lt_length_of_exists ⟨p0, hp0, hn0⟩
    have hnb : nearB D f xss[xss.findIdx (nearB D f)] = true := List.findIdx_getElem
    have hget : xss[stepK xss D f]? = some xss[xss.findIdx (nearB D f)] := List.getElem?_eq_getElem hlt
    obtain ⟨p, hp⟩ : ∃ p, xss[xss.findIdx (nearB D f)] = p := ⟨_, rfl⟩
    rw [hp] at hnb hget
    have hpm := mem_of_get? hget
    have hdn : dat D (at' p f) = dat D f - 1 := (near_iff hs hi h f0 f1 hpm).1 (of_decide_eq_true hnb)
    have hr := at'_rng (hs p hpm).1 (hs p hpm).2.2 f0 f1
    obtain ⟨h1, h2⟩ := ih (at' p f) hr.1 hr.2 (by omega)
    have e : fwL xss D (d + 1) f = (stepK xss D f : Int) :: fwL xss D d (at' p f) := fwL_step hget rfl
    rw [e]
    refine ⟨?_, fun g hg => ?_⟩
    · show runW xss (fwL xss D d (at' p f)) ((xss.getD ((stepK xss D f : Int)).toNat []).getD f.toNat 0) = x
      rw [Int.toNat_natCast, getD_some hget]
      exact h1
    · rcases List.mem_cons.1 hg with rfl | hg
      · have : stepK xss D f < xss.length := hlt
        omega
      · exact h2 g hg
theorem dia_ge {xss : List (List Int)} {n : Nat} : ∀ k f : Nat, f < k → ∀ v ∈ dist xss n (f : Int), v ≤ diaGo xss n k := by
  intro k
  induction k with
  | zero => intro f hf; omega
  | succ k ih =>
    intro f hf v hv
    rw [diaGo_succ]
    obtain ⟨h1, h2, _⟩ := maxFrom_spec (dist xss n (k : Int)) (diaGo xss n k)
    by_cases e : f = k
    · subst e
      exact h2 v hv
    · have := ih f (by omega) v hv
      omega
end Go.Proofs.Ytbioelmofceaaaa
/- TypP -/
namespace Go.Proofs.Ytbioelmofceaaaa
set_option linter.unusedVariables false
set_option maxRecDepth 100000
/-- how often each of the numbers below c stands in the list -/
def hist (l : List Int) (c : Nat) : List Int := (List.range c).map fun (j : Nat) => (l.count (j : Int) : Int)
theorem hist_length (l : List Int) (c : Nat) : (hist l c).length = c := by simp [hist]
theorem hist_get {l : List Int} {c j : Nat} (h : j < c) : (hist l c)[j]? = some (l.count (j : Int) : Int) := by simp [hist, h]
theorem hist_nil (c : Nat) : hist [] c = List.replicate c 0 := by
  apply List.ext_getElem?
  intro j
  by_cases h : j < c
  · rw [hist_get h]; simp [h]
  · rw [List.getElem?_eq_none (by rw [hist_length]; omega), List.getElem?_eq_none (by simp; omega)]
theorem hist_snoc {l : List Int} {c : Nat} {v : Int} (h0 : 0 ≤ v) (h1 : v < c) : hist (l ++ [v]) c = (hist l c).set v.toNat ((l.count v : Int) + 1) := by
  apply List.ext_getElem?
  intro j
  by_cases h : j < c
  · rw [hist_get h, List.getElem?_set, hist_length]
    by_cases e : v.toNat = j
    · rw [if_pos e, if_pos (by omega)]
      have : (j : Int) = v := by omega
      rw [this]
      simp
    · rw [if_neg e, hist_get h]
      have : ¬ v = (j : Int) := by omega
      simp [this]
  · rw [List.getElem?_eq_none (by rw [hist_length]; omega), List.getElem?_eq_none (by rw [List.length_set, hist_length]; omega)]
theorem hist_le (l : List Int) (c : Nat) : ∀ x ∈ hist l c, 0 ≤ x ∧ x ≤ l.length := by
  intro x hx
  obtain ⟨j, _, rfl⟩ := List.mem_map.1 hx
  have := List.count_le_length (a := (j : Int)) (l := l)
  omega
/-- each number once, in the order of their first places -/
def nub (l : List Int) : List Int := l.foldl (fun o p => if p ∈ o then o else o ++ [p]) []
theorem nub_snoc (l : List Int) (x : Int) : nub (l ++ [x]) = if x ∈ nub l then nub l else nub l ++ [x] := by unfold nub; rw [List.foldl_append]; rfl
theorem nub_mem (l : List Int) : ∀ x, x ∈ nub l ↔ x ∈ l := by
  refine list_rev (P := fun l => ∀ x, x ∈ nub l ↔ x ∈ l) (by simp [nub]) (fun t y ih x => ?_) l
  rw [nub_snoc]
  split
  · next h =>
    rw [ih, List.mem_append, List.mem_singleton]
    constructor
    · exact .inl
    · rintro (h1 | rfl)
      · exact h1
      · exact (ih x).1 h
  · rw [List.mem_append, List.mem_append, ih]
theorem nub_nodup (l : List Int) : (nub l).Nodup := by
  refine list_rev (P := fun l => (nub l).Nodup) (by simp [nub]) (fun t y ih => ?_) l
  rw [nub_snoc]
  split
  · exact ih
  · next h =>
    rw [List.nodup_append]
    refine ⟨ih, by simp, fun a ha b hb => ?_⟩
    simp at hb
    subst hb
    intro e
    subst e
    exact h ha
theorem nub_length (l : List Int) : (nub l).length ≤ l.length := by
  refine list_rev (P := fun l => (nub l).length ≤ l.length) (by simp [nub]) (fun t y ih => ?_) l
  rw [nub_snoc]
  split <;> simp <;> omega
/-- the set of the numbers in ascending order -/
def setL (l : List Int) : List Int := sortL (nub l)
theorem setL_mem (l : List Int) (x : Int) : x ∈ setL l ↔ x ∈ l := ((sortL_perm (nub l)).mem_iff).trans (nub_mem l x)
theorem lt_of_sorted_nodup {l : List Int} (h : Sorted l) (hn : l.Nodup) : l.Pairwise (· < ·) := by
  unfold Sorted at h
  unfold List.Nodup at hn
  exact h.imp₂ (fun a b h1 h2 => by omega) hn
theorem setL_lt (l : List Int) : (setL l).Pairwise (· < ·) := lt_of_sorted_nodup (sortL_sorted _) ((sortL_perm _).nodup_iff.2 (nub_nodup l))
theorem strict_unique {xs ys : List Int} (h1 : xs.Pairwise (· < ·)) (h2 : ys.Pairwise (· < ·)) (h : ∀ x, x ∈ xs ↔ x ∈ ys) : xs = ys := by
  have n1 : xs.Nodup := h1.imp (by intro a b h; omega)
  have n2 : ys.Nodup := h2.imp (by intro a b h; omega)
  exact sorted_unique ((List.perm_ext_iff_of_nodup n1 n2).2 h) (h1.imp (by intro a b h; omega)) (h2.imp (by intro a b h; omega))
theorem setL_unique {ys l : List Int} (h : ys.Pairwise (· < ·)) (hm : ∀ x, x ∈ ys ↔ x ∈ l) : ys = setL l := strict_unique h (setL_lt l) (fun x => (hm x).trans (setL_mem l x).symm)
theorem setL_congr {l l' : List Int} (h : ∀ x, x ∈ l ↔ x ∈ l') : setL l = setL l' := setL_unique (setL_lt l) (fun x => (setL_mem l x).trans (h x))
theorem setL_length (l : List Int) : (setL l).length ≤ l.length := by unfold setL; rw [sortL_length]; exact nub_length l
/-- of a sorted list the neighbours that differ -/
theorem compactUpTo_spec {d : Array Int} (hd : Sorted d.toList) : ∀ m, m ≤ d.size → (Lib.compactUpTo d m).Pairwise (· < ·) ∧ (∀ x, x ∈ Lib.compactUpTo d m ↔ x ∈ d.toList.take m) := by
  intro m
  induction m with
  | zero => intro _; simp [Lib.compactUpTo]
  | succ m ih =>
    intro hm
    obtain ⟨i1, i2⟩ := ih (by omega)
    have hget : d[m]! = d[m] := getElem!_pos d m (by omega)
    have htk : d.toList.take (m + 1) = d.toList.take m ++ [d[m]!] := by
      rw [hget]
      exact take_succ_of (by simp)
    have hle : ∀ x ∈ d.toList.take m, x ≤ d[m]! := by
      intro x hx
      obtain ⟨j, hj, e⟩ := List.mem_iff_getElem.1 hx
      have hjm : j < m := by simp at hj; omega
      have := List.pairwise_iff_getElem.1 hd j m (by simp; omega) (by simp; omega) hjm
      rw [hget]
      simp at e this
      omega
    rw [Lib.compactUpTo_succ, htk]
    by_cases hk : Lib.keeps d m = true
    · rw [if_pos hk]
      refine ⟨?_, fun x => by rw [List.mem_append, List.mem_append, i2]⟩
      rw [List.pairwise_append]
      refine ⟨i1, by simp, fun a ha b hb => ?_⟩
      simp at hb
      subst hb
      have h1 := (i2 a).1 ha
      have h2 := hle a h1
      unfold Lib.keeps at hk
      have hk := of_decide_eq_true hk
      rcases hk with h0 | hne
      · subst h0; simp at h1
      · have h3 : a ≤ d[m - 1]! := by
          obtain ⟨j, hj, e⟩ := List.mem_iff_getElem.1 h1
          have hjm : j < m := by simp at hj; omega
          rw [getElem!_pos d (m - 1) (by omega)]
          by_cases e1 : j = m - 1
          · subst e1; simp at e; omega
          · have := List.pairwise_iff_getElem.1 hd j (m - 1) (by simp; omega) (by simp; omega) (by omega)
            simp at e this
            omega
        have h4 : d[m - 1]! ≤ d[m]! := by
          by_cases h0 : m = 0
          · subst h0; simp at h1
          · refine hle _ ?_
            rw [getElem!_pos d (m - 1) (by omega)]
            refine List.mem_iff_getElem.2 ⟨m - 1, by simp; omega, by simp⟩
        omega
    · rw [if_neg hk, List.append_nil]
      refine ⟨i1, fun x => ?_⟩
      rw [i2, List.mem_append]
      constructor
      · exact .inl
      · rintro (h | h)
        · exact h
        · simp at h
          subst h
          unfold Lib.keeps at hk
          have hk : ¬ (m = 0 ∨ d[m]! ≠ d[m - 1]!) := fun h => hk (decide_eq_true h)
          have h0 : m ≠ 0 := fun h => hk (.inl h)
          have h1 : d[m]! = d[m - 1]! := Classical.byContradiction fun h => hk (.inr h)
          rw [h1, getElem!_pos d (m - 1) (by omega)]
          exact List.mem_iff_getElem.2 ⟨m - 1, by simp; omega, by simp⟩
theorem compact_sorted {zs : List Int} (h : Sorted zs) : Lib.compact zs = setL zs := by
  obtain ⟨h1, h2⟩ := compactUpTo_spec (d := zs.toArray) (by simpa using h) zs.length (by simp)
  refine setL_unique h1 (fun x => ?_)
  have := h2 x
  simpa [Lib.compact] using this
theorem compact_sortL (zs : List Int) : Lib.compact (sortL zs) = setL zs := by
  rw [compact_sorted (sortL_sorted zs)]
  exact setL_congr fun x => (sortL_perm zs).mem_iff
/-- half of each -/
def halves (l : List Int) : List Int := l.map fun s => Int.tdiv s 2
/-- the halves of the numbers of points of the orbits -/
def typI (list : List (List Int)) (n : Nat) : List Int := setL ((List.range n).map fun (f : Nat) => Int.tdiv ((bfs list n (f : Int)).length : Int) 2)
theorem plcCount {xs : List Int} {x : Int} : ∀ k, k ≤ xs.length → (plc xs x k).length = (xs.take k).count x := by
  intro k hk
  induction k with
  | zero => simp [plc]
  | succ k ih =>
    have hg : xs[k]? = some xs[k] := List.getElem?_eq_getElem (by omega)
    rw [take_succ_of hg, List.count_append, plc_succ, List.length_append, ih (by omega), getD_some hg]
    congr 1
    by_cases e : x = xs[k]
    · rw [if_pos e, ← e]; simp
    · rw [if_neg e]
      have e2 : ¬ xs[k] = x := fun h => e h.symm
      simp [e2]
theorem lab_onto {list : List (List Int)} : ∀ n j : Nat, j < cntR list n → ∃ x : Nat, x < n ∧ labOf list x = (j : Int) := by
  intro n
  induction n with
  | zero => intro j hj; simp [cntR] at hj
  | succ n ih =>
    intro j hj
    rw [cntR_succ] at hj
    by_cases hr : rootB list n = true
    · rw [if_pos hr] at hj
      by_cases e : j = cntR list n
      · have hroot : rootOf list n = n := rootOf_eq Rch.refl (fun j hj hh => root_iff.1 hr ⟨j, hj, hh⟩)
        refine ⟨n, by omega, ?_⟩
        unfold labOf
        rw [hroot, e]
      · obtain ⟨x, h1, h2⟩ := ih j (by omega)
        exact ⟨x, by omega, h2⟩
    · rw [if_neg hr, Nat.add_zero] at hj
      obtain ⟨x, h1, h2⟩ := ih j hj
      exact ⟨x, by omega, h2⟩
theorem typI_eq {list : List (List Int)} {n : Nat} (hs : SysOf list n) : setL (halves (hist (labL list n) (cntR list n))) = typI list n := by
  have hcount : ∀ x : Nat, x < n → ((labL list n).count (labOf list x) : Int) = ((bfs list n (x : Int)).length : Int) := by
    intro x hx
    have h1 := places_eq hs hx
    have h2 := plcCount (xs := labL list n) (x := labOf list x) n (by rw [labL_length]; exact Nat.le_refl _)
    rw [List.take_of_length_le (by rw [labL_length]; exact Nat.le_refl _)] at h2
    rw [← h2, h1, sortL_length]
  unfold typI
  refine setL_congr fun v => ?_
  unfold halves
  simp only [List.mem_map]
  constructor
  · rintro ⟨s, hs1, rfl⟩
    obtain ⟨j, hj, rfl⟩ := List.mem_map.1 hs1
    have hj := List.mem_range.1 hj
    obtain ⟨x, hx, e⟩ := lab_onto n j hj
    exact ⟨x, List.mem_range.2 hx, by rw [← hcount x hx, e]⟩
  · rintro ⟨x, hx, rfl⟩
    have hx := List.mem_range.1 hx
    have hl := lab_lt hs hx
    have h0 := labOf_nonneg list x
    refine ⟨((labL list n).count (labOf list x) : Int), ?_, by rw [hcount x hx]⟩
    refine List.mem_map.2 ⟨(labOf list x).toNat, List.mem_range.2 (by omega), by rw [Int.toNat_of_nonneg h0]⟩
theorem typI_ne {list : List (List Int)} {n : Nat} (hn : 0 < n) : ∃ x, (typI list n)[0]? = some x := by
  have h : ∃ y, y ∈ typI list n := ⟨_, (setL_mem _ _).2 (List.mem_map.2 ⟨0, List.mem_range.2 hn, rfl⟩)⟩
  obtain ⟨y, hy⟩ := h
  cases e : typI list n with
  | nil => rw [e] at hy; simp at hy
  | cons a l => exact ⟨a, rfl⟩
theorem typI_length (list : List (List Int)) (n : Nat) : (typI list n).length ≤ n := by
  have := setL_length ((List.range n).map fun (f : Nat) => Int.tdiv ((bfs list n (f : Int)).length : Int) 2)
  rw [List.length_map, List.length_range] at this
  exact this
/-- the type -/
def typL (xss : List (List Int)) (n : Nat) : List (List Int) := (List.range (xss.length - 1)).map fun i => typI (subL xss i (i + 2)) n
theorem typL_length (xss : List (List Int)) (n : Nat) : (typL xss n).length = xss.length - 1 := by simp [typL]
theorem typL_get {xss : List (List Int)} {n k : Nat} (h : k < xss.length - 1) : (typL xss n)[k]? = some (typI (subL xss k (k + 2)) n) := by simp [typL, h]
end Go.Proofs.Ytbioelmofceaaaa
/- IsoQ -/
namespace Go.Proofs.Ytbioelmofceaaaa
set_option linter.unusedVariables false
set_option maxRecDepth 100000
theorem iso_rch_iff {m n : Nat} {φ : Int → Int} {ys zs : List (List Int)} (hs : SysOf ys m) (hI : Iso ys zs m n φ) {x y : Int} (h0 : 0 ≤ x) (h1 : x < m) (y0 : 0 ≤ y) (y1 : y < m) : Rch zs (φ x) (φ y) ↔ Rch ys x y := by
  refine ⟨fun h => ?_, fun h => iso_rch hs hI h0 h1 h⟩
  obtain ⟨u, e, u0, u1, hu⟩ := iso_rch_back hs hI h0 h1 h
  have := hI.inj y u y0 y1 u0 u1 e
  rwa [this]
/-- not more orbits than where it is carried to -/
theorem cnt_le {m n : Nat} {φ : Int → Int} {ys zs : List (List Int)} (hs : SysOf ys m) (ht : SysOf zs n) (hI : Iso ys zs m n φ) : cntR ys m ≤ cntR zs n := by
  have key : ∀ r : Nat, r < m → (φ (r : Int)).toNat < n ∧ (((φ (r : Int)).toNat : Nat) : Int) = φ (r : Int) := fun r hr => by
    have := hI.rng (r : Int) (by omega) (by omega)
    omega
  have e : cntR ys m = (((List.range m).filter (rootB ys)).map fun (r : Nat) => rootOf zs (φ (r : Int)).toNat).length := by simp [cntR]
  rw [e]
  refine nodup_sub_len _ ((List.range n).filter (rootB zs)) ?_ ?_
  · rw [List.nodup_iff_pairwise_ne, List.pairwise_map]
    refine List.Pairwise.imp_of_mem ?_ (List.Pairwise.filter _ List.pairwise_lt_range)
    intro a b ha hb hab eab
    rw [List.mem_filter, List.mem_range] at ha hb
    obtain ⟨ka, ea⟩ := key a ha.1
    obtain ⟨kb, eb⟩ := key b hb.1
    have h1 := (rootOf_spec zs (φ (a : Int)).toNat).1
    have h2 := (rootOf_spec zs (φ (b : Int)).toNat).1
    have hr := rootOf_le zs (φ (a : Int)).toNat
    have h3 := h1.symm ht (by omega) (by omega)
    rw [eab] at h3
    have h4 := h3.trans h2
    rw [ea, eb] at h4
    have h5 := (iso_rch_iff hs hI (by omega) (by omega) (by omega) (by omega)).1 h4
    exact (root_iff.1 hb.2) ⟨a, hab, h5⟩
  · intro t ht'
    obtain ⟨r, hr, rfl⟩ := List.mem_map.1 ht'
    rw [List.mem_filter, List.mem_range] at hr
    obtain ⟨ka, _⟩ := key r hr.1
    rw [List.mem_filter, List.mem_range]
    have := rootOf_le zs (φ (r : Int)).toNat
    exact ⟨by omega, rootB_rootOf ht ka⟩
theorem Iso.erase {ys zs : List (List Int)} {m n : Nat} {φ : Int → Int} (h : Iso ys zs m n φ) (i : Nat) : Iso (ys.eraseIdx i) (zs.eraseIdx i) m n φ := by
  refine ⟨?_, h.le, h.rng, h.inj, fun k q p hq hp => ?_⟩
  · rw [List.length_eraseIdx, List.length_eraseIdx, h.len]
  · rw [List.getElem?_eraseIdx] at hq hp
    by_cases e : k < i
    · rw [if_pos e] at hq hp
      exact h.com _ q p hq hp
    · rw [if_neg e] at hq hp
      exact h.com _ q p hq hp
theorem typ_le {m n : Nat} {φ : Int → Int} {ys zs : List (List Int)} (hs : SysOf ys m) (hI : Iso ys zs m n φ) : ∀ v, v ∈ typI ys m → v ∈ typI zs n := by
  intro v hv
  unfold typI at hv ⊢
  rw [setL_mem, List.mem_map] at hv ⊢
  obtain ⟨g, hg, rfl⟩ := hv
  have hg := List.mem_range.1 hg
  have hr := hI.rng (g : Int) (by omega) (by omega)
  have e := iso_len hs hI (x := (g : Int)) (by omega) (by omega)
  refine ⟨(φ (g : Int)).toNat, List.mem_range.2 (by omega), ?_⟩
  rw [Int.toNat_of_nonneg hr.1, e]
theorem typ_same {n : Nat} {φ ψ : Int → Int} {ys zs : List (List Int)} (hs : SysOf ys n) (ht : SysOf zs n) (hI : Iso ys zs n n φ) (hJ : Iso zs ys n n ψ) : typI ys n = typI zs n :=
  strict_unique (setL_lt _) (setL_lt _) fun v => ⟨typ_le hs hI v, typ_le ht hJ v⟩
theorem bool_two {a b c : Bool} (h : a ≠ b) (g : c ≠ b) : a = c := by cases a <;> cases b <;> cases c <;> simp_all
/-- two colours that each move changes -/
def Two2 (xss : List (List Int)) (n : Nat) (c : Int → Bool) : Prop := ∀ p ∈ xss, ∀ z : Int, 0 ≤ z → z < n → c (at' p z) ≠ c z
theorem col_iff {xss : List (List Int)} {n : Nat} {x : Int} {D : List Int} (hs : SysOf xss n) (hD : DFin xss n x D) : colB xss n D = true ↔ ∃ c, Two2 xss n c := by
  constructor
  · intro h
    refine ⟨fun z => decide (dat D z % 2 = 0), fun p hp z z0 z1 e => ?_⟩
    unfold colB at h
    have h1 := List.all_eq_true.1 h z.toNat (List.mem_range.2 (by omega))
    unfold edgesB at h1
    have h2 := List.all_eq_true.1 h1 p hp
    rw [Int.toNat_of_nonneg z0] at h2
    unfold edgeB at h2
    have h3 := of_decide_eq_true h2
    have e := decide_eq_decide.1 e
    omega
  · rintro ⟨c, hc⟩
    have key : ∀ (k : Nat) (z : Int), 0 ≤ z → z < n → dat D z = k → (c z = c x ↔ k % 2 = 0) := by
      intro k
      induction k with
      | zero =>
        intro z z0 z1 h
        have := (dist_zero hD z0 z1).2 h
        subst this
        simp
      | succ k ih =>
        intro z z0 z1 h
        have hne : z ≠ x := fun e => by
          have := (dist_zero hD z0 z1).1 e
          omega
        obtain ⟨y, p, hp, y0, y1, e, hd⟩ := hD.par z z0 z1 hne
        have h1 := ih y y0 y1 (by omega)
        have h2 := hc p hp y y0 y1
        rw [← e] at h2
        by_cases hk : k % 2 = 0
        · rw [h1.2 hk] at h2
          exact ⟨fun g => absurd g h2, fun g => by omega⟩
        · exact ⟨fun _ => by omega, fun _ => bool_two h2 (fun g => hk (h1.1 g.symm))⟩
    unfold colB
    rw [List.all_eq_true]
    intro f hf
    have hf := List.mem_range.1 hf
    unfold edgesB
    rw [List.all_eq_true]
    intro p hp
    unfold edgeB
    have hr := at'_rng (hs p hp).1 (hs p hp).2.2 (show (0 : Int) ≤ (f : Int) by omega) (by omega)
    have r1 := hD.rng (f : Int) (by omega) (by omega)
    have r2 := hD.rng _ hr.1 hr.2
    have k1 := key (dat D (f : Int)).toNat (f : Int) (by omega) (by omega) (by omega)
    have k2 := key (dat D (at' p (f : Int))).toNat _ hr.1 hr.2 (by omega)
    have h2 := hc p hp (f : Int) (by omega) (by omega)
    refine decide_eq_true (fun e => ?_)
    have e2 : (dat D (at' p (f : Int))).toNat % 2 = (dat D (f : Int)).toNat % 2 := by omega
    rw [e2] at k2
    have : c (at' p (f : Int)) = c x ↔ c (f : Int) = c x := k2.trans k1.symm
    by_cases hx : c (f : Int) = c x
    · exact h2 ((this.2 hx).trans hx.symm)
    · exact h2 (bool_two (fun g => hx (this.1 g)) hx)
theorem two_back {m n : Nat} {φ : Int → Int} {ys zs : List (List Int)} (hs : SysOf ys m) (hI : Iso ys zs m n φ) {c : Int → Bool} (h : Two2 zs n c) : Two2 ys m (fun z => c (φ z)) := by
  intro q hq z z0 z1
  obtain ⟨j, hj⟩ := List.mem_iff_getElem?.1 hq
  have hj2 : j < zs.length := by have := (List.getElem?_eq_some_iff.1 hj).1; have := hI.len; omega
  have hr := hI.rng z z0 z1
  show c (φ (at' q z)) ≠ c (φ z)
  rw [hI.com j q _ hj (List.getElem?_eq_getElem hj2) z z0 z1]
  exact h _ (List.getElem_mem hj2) _ hr.1 hr.2
/-- distances do not grow -/
theorem iso_dist_le {m n : Nat} {φ : Int → Int} {ys zs : List (List Int)} {x : Int} {D E : List Int} (hs : SysOf ys m) (hI : Iso ys zs m n φ) (hD : DFin ys m x D) (hE : DFin zs n (φ x) E) : ∀ (k : Nat) (z : Int), 0 ≤ z → z < m → dat D z = k → dat E (φ z) ≤ k := by
  intro k
  induction k with
  | zero =>
    intro z z0 z1 h
    have := (dist_zero hD z0 z1).2 h
    subst this
    rw [hE.zero]
    omega
  | succ k ih =>
    intro z z0 z1 h
    have hne : z ≠ x := fun e => by
      have := (dist_zero hD z0 z1).1 e
      omega
    obtain ⟨y, p, hp, y0, y1, e, hd⟩ := hD.par z z0 z1 hne
    have h1 := ih y y0 y1 (by omega)
    obtain ⟨j, hj⟩ := List.mem_iff_getElem?.1 hp
    have hj2 : j < zs.length := by have := (List.getElem?_eq_some_iff.1 hj).1; have := hI.len; omega
    have hr := hI.rng y y0 y1
    have h2 := hE.lip (φ y) _ hr.1 hr.2 (List.getElem_mem hj2)
    rw [← hI.com j p _ hj (List.getElem?_eq_getElem hj2) y y0 y1, ← e] at h2
    omega
end Go.Proofs.Ytbioelmofceaaaa
/- SphP -/
namespace Go.Proofs.Ytbioelmofceaaaa
set_option linter.unusedVariables false
set_option maxRecDepth 100000
theorem conn_lenR {xss : List (List Int)} {n : Nat} {x : Int} (hs : SysOf xss n) (hc : Conn xss n) (h0 : 0 ≤ x) (h1 : x < n) : (bfs xss n x).length = n := by
  have hm := bfs_met hs h0 h1
  have := hm.len
  have := met_full (n := n) (out := bfs xss n x) (fun z z0 z1 => (bfs_mem hs h0 h1).2 (hc x z h0 h1 z0 z1))
  omega
theorem iso_surjR {ys zs : List (List Int)} {n : Nat} {φ : Int → Int} (hI : Iso ys zs n n φ) {u : Int} (u0 : 0 ≤ u) (u1 : u < n) : ∃ z : Int, 0 ≤ z ∧ z < n ∧ φ z = u := by
  have hnd : ((List.range n).map fun (r : Nat) => φ (r : Int)).Nodup := by
    rw [List.nodup_iff_pairwise_ne, List.pairwise_map]
    refine List.Pairwise.imp_of_mem ?_ List.pairwise_lt_range
    intro a b ha hb hab e
    have := hI.inj (a : Int) (b : Int) (by omega) (by have := List.mem_range.1 ha; omega) (by omega) (by have := List.mem_range.1 hb; omega) e
    omega
  have hsub : ∀ a ∈ ((List.range n).map fun (r : Nat) => φ (r : Int)), a ∈ (List.range n).map Int.ofNat := by
    intro a ha
    obtain ⟨r, hr, rfl⟩ := List.mem_map.1 ha
    exact mem_ints.2 (hI.rng (r : Int) (by omega) (by have := List.mem_range.1 hr; omega))
  have := mem_of_full hnd hsub (by simp) (mem_ints.2 ⟨u0, u1⟩)
  obtain ⟨r, hr, e⟩ := List.mem_map.1 this
  exact ⟨(r : Int), by omega, by have := List.mem_range.1 hr; omega, e⟩
/-- what carries all of it over has an inverse -/
theorem iso_invR {ys zs : List (List Int)} {n : Nat} {φ : Int → Int} (hS : SysOf ys n) (hT : SysOf zs n) (hI : Iso ys zs n n φ) : ∃ ψ, Iso zs ys n n ψ := by
  have hc : ∀ u : Int, ∃ z : Int, (0 ≤ u → u < n → 0 ≤ z ∧ z < n ∧ φ z = u) := by
    intro u
    by_cases h : 0 ≤ u ∧ u < n
    · obtain ⟨z, z0, z1, e⟩ := iso_surjR hI h.1 h.2
      exact ⟨z, fun _ _ => ⟨z0, z1, e⟩⟩
    · exact ⟨0, fun a b => absurd ⟨a, b⟩ h⟩
  refine ⟨fun u => Classical.choose (hc u), hI.len.symm, Nat.le_refl _, fun u u0 u1 => ?_, fun u v u0 u1 v0 v1 e => ?_, fun j p q hp hq u u0 u1 => ?_⟩
  · have := Classical.choose_spec (hc u) u0 u1
    exact ⟨this.1, this.2.1⟩
  · have a := (Classical.choose_spec (hc u) u0 u1).2.2
    have b := (Classical.choose_spec (hc v) v0 v1).2.2
    have e : Classical.choose (hc u) = Classical.choose (hc v) := e
    rw [← a, ← b, e]
  · obtain ⟨a0, a1, a2⟩ := Classical.choose_spec (hc u) u0 u1
    have hp' := hT p (mem_of_get? hp)
    have hr := at'_rng hp'.1 hp'.2.2 u0 u1
    obtain ⟨b0, b1, b2⟩ := Classical.choose_spec (hc (at' p u)) hr.1 hr.2
    have hq' := hS q (mem_of_get? hq)
    have hr2 := at'_rng hq'.1 hq'.2.2 a0 a1
    refine hI.inj _ _ b0 b1 hr2.1 hr2.2 ?_
    have := hI.com j q p hq hp _ a0 a1
    rw [b2, this, a2]
/-- the Euler number of a maniplex -/
noncomputable def eulN (zs : List (List Int)) : Int := eulGo (cntsL zs (flg zs)) zs.length
theorem cnts_iso {ys zs : List (List Int)} {n : Nat} {φ : Int → Int} (hS : SysOf ys n) (hT : SysOf zs n) (hI : Iso ys zs n n φ) : cntsL ys n = cntsL zs n := by
  obtain ⟨ψ, hJ⟩ := iso_invR hS hT hI
  unfold cntsL
  rw [hI.len]
  refine List.map_congr_left fun i _ => ?_
  have hse : SysOf (ys.eraseIdx i) n := fun p hp => hS p (List.mem_of_mem_eraseIdx hp)
  have hte : SysOf (zs.eraseIdx i) n := fun p hp => hT p (List.mem_of_mem_eraseIdx hp)
  have h1 := cnt_le hse hte (hI.erase i)
  have h2 := cnt_le hte hse (hJ.erase i)
  have : cntR (ys.eraseIdx i) n = cntR (zs.eraseIdx i) n := Nat.le_antisymm h1 h2
  rw [this]
/-- a form of a maniplex has its Euler number -/
theorem eul_form {F : List (List Int)} (hP : ManP F) {x : Int} (x0 : 0 ≤ x) (x1 : x < flg F) : eulN (formL F (flg F) x) = eulN F := by
  have hS := hP.sys
  have hl := conn_lenR hS hP.conn x0 x1
  have hr := hP.r1
  have hI := form_iso hS x0 x1
  have hT := form_sys hS x0 x1
  rw [hl] at hI hT
  unfold eulN
  rw [flg_form hr, hl, formL_length, cnts_iso hT hS hI]
theorem eul_least {F : List (List Int)} (hP : ManP F) : eulN (leastGo F (flg F) (flg F)) = eulN F := by
  obtain ⟨g, hg, e⟩ := leastGo_form F (flg F) (flg F)
  rw [e]
  have := hP.f2
  exact eul_form hP (by omega) (by omega)
/-- the Euler number is the same for all flags of an orbit -/
theorem eul_orbit {xss : List (List Int)} (hP : ManP xss) {N I J : Nat} (hN : flg xss = N) (hIJ : I < J) (hJ : J ≤ xss.length) {r f : Nat} (hr : r < N) (hf : f < N) (e : labOf (subL xss I J) r = labOf (subL xss I J) f) :
    eulN (formL (subL xss I J) N (f : Int)) = eulN (formL (subL xss I J) N (r : Int)) := by
  have hS : SysOf (subL xss I J) N := by
    have := hP.sys
    rw [hN] at this
    exact sysOf_sub this I J
  obtain ⟨hM, hfl⟩ := sec_man hP hN hIJ hJ (f := (r : Int)) (by omega) (by omega)
  have hR := (labOf_eq_iff hS hr hf).1 e
  have hm := (bfs_mem hS (x := (r : Int)) (by omega) (by omega)).2 hR
  obtain ⟨z, hz⟩ := List.mem_iff_getElem?.1 hm
  have hzl := (List.getElem?_eq_some_iff.1 hz).1
  have hI := form_iso hS (x := (r : Int)) (by omega) (by omega)
  have hT := form_sys hS (x := (r : Int)) (by omega) (by omega)
  have ef := iso_form hT hI (x := (z : Int)) (by omega) (by omega)
  have ez : (bfs (subL xss I J) N (r : Int)).getD ((z : Int)).toNat 0 = (f : Int) := by
    rw [Int.toNat_natCast]; exact getD_some hz
  simp only [ez] at ef
  rw [ef, ← hfl]
  exact eul_form hM (by omega) (by rw [hfl]; omega)
theorem sph_iff {xss : List (List Int)} (hP : ManP xss) {N I J : Nat} (hN : flg xss = N) (hIJ : I < J) (hJ : J ≤ xss.length) :
    (∀ x ∈ ownC (subL xss I J) N, eulN x = 2) ↔ ∀ f : Nat, f < N → eulN (formL (subL xss I J) N (f : Int)) = 2 := by
  have hS : SysOf (subL xss I J) N := by
    have := hP.sys
    rw [hN] at this
    exact sysOf_sub this I J
  constructor
  · intro h f hf
    have h1 := labOf_nonneg (subL xss I J) f
    have h2 := lab_lt hS hf
    obtain ⟨c, hc⟩ := Int.eq_ofNat_of_zero_le h1
    obtain ⟨r, hr, hi, hl⟩ := idx_lab (c := c) hS (by omega)
    have hx := h _ (List.mem_of_getElem? (ownC_get (ys := subL xss I J) (N := N) (c := c) (by omega)))
    have hM := (sec_man hP hN hIJ hJ (f := (r : Int)) (by omega) (by omega)).1
    unfold frmL at hx
    rw [hi, eul_least hM] at hx
    rw [eul_orbit hP hN hIJ hJ hr hf (by rw [hl, hc])]
    exact hx
  · intro h x hx
    obtain ⟨c, hc⟩ := List.mem_iff_getElem?.1 hx
    have hcl : c < cntR (subL xss I J) N := by
      have := (List.getElem?_eq_some_iff.1 hc).1
      rwa [ownC_length] at this
    rw [ownC_get hcl] at hc
    obtain ⟨r, hr, hi, hl⟩ := idx_lab (c := c) hS hcl
    have hM := (sec_man hP hN hIJ hJ (f := (r : Int)) (by omega) (by omega)).1
    have e := Option.some.inj hc
    rw [← e]
    unfold frmL
    rw [hi, eul_least hM]
    exact h r hr
end Go.Proofs.Ytbioelmofceaaaa
/- SecH -/
namespace Go.Proofs.Ytbioelmofceaaaa
open Go.RowKit
set_option linter.unusedVariables false
set_option maxRecDepth 100000
/-- all of a list are equal -/
def AllSame (own : List (List (List Int))) : Prop := ∀ x ∈ own, ∀ y ∈ own, x = y
open Classical in
/-- what HasEqualFacets returns -/
noncomputable def eqfF (xss : List (List Int)) : Bool × Int := if isManB xss = true then if xss.length = 1 then (false, 5) else (decide (AllSame (ownC (subL xss 0 (xss.length - 1)) (flg xss))), 0) else (false, 1)
open Classical in
theorem eqf_val {xss : List (List Int)} {t : Bool} (hM : isManB xss = true) (h1 : xss.length ≠ 1) (h : t = true ↔ AllSame (ownC (subL xss 0 (xss.length - 1)) (flg xss))) : eqfF xss = (t, 0) := by
  unfold eqfF
  rw [if_pos hM, if_neg h1]
  congr 1
  cases t
  · apply decide_eq_false
    intro k
    have := h.2 k
    cases this
  · exact decide_eq_true (h.1 rfl)
set_option maxHeartbeats 4000000 in
theorem i_HasEqualFacets_any (w : World) (A : Option Addr) (n c : Nat) (xss : List (List Int)) {lo hi : Nat} (h : RS w lo hi A n xss) (hhi : hi ≤ w.heap.size) (hnc : n ≤ c) :
    Calls Try.prog 23 #[.agg #[.slice A n c]] w fun e w' => ∃ (y : Bool) (code : Int), e = .returned (.tuple #[.bool y, .int .i64 code]) ∧ Hid ((y, code) = eqfF xss) ∧ Below w.heap.size w w' := by
  have hm := h.max
  have hl := h.len
  have hR := rs_alloc h hhi (.cells #[.slice A n c] 38)
  have hC : (w.alloc (.cells #[.slice A n c] 38)).cell? ⟨w.heap.size, 0, none⟩ = some (.slice A n c) := al_new _ _ _ _ rfl
  have hB : Below w.heap.size w (w.alloc (.cells #[.slice A n c] 38)) := (Below.refl _ _).alloc (Nat.le_refl _) _
  obtain ⟨t, hM⟩ : ∃ t, isManB xss = t := ⟨_, rfl⟩
  have hIs := isMan_any A n c xss (w.alloc (.cells #[.slice A n c] 38)) hR (by simp; omega) hnc
  rw [hM] at hIs
  cases t with
  | false =>
    have hF : eqfF xss = (false, 1) := by unfold eqfF; rw [hM]; rfl
    replace hF := Lib.hid hF
    replace hM := Lib.hid hM
    go_enter Try.func23, Try.ntmps23
    go_wp2_with fail
    ((with_reducible refine hIs.mono ?_); rintro e w2 ⟨rfl, f2⟩)
    have B2 := hB.trans (f2.mono (by simp))
    go_wp2_with fail
    go_ret2
    exact ⟨_, _, rfl, Lib.hid hF.out.symm, B2⟩
  | true =>
    have hP := isManB_iff.1 hM
    have hr1 := hP.r1
    have hr5 := hP.r5
    by_cases h1 : n = 1
    · have hF : eqfF xss = (false, 5) := by unfold eqfF; rw [if_pos hM, if_pos (by omega)]
      have d1 : ((n : Int) == 1) = true := by simp; omega
      replace hF := Lib.hid hF
      replace hM := Lib.hid hM
      replace h1 := Lib.hid h1
      replace hl := Lib.hid hl
      go_enter Try.func23, Try.ntmps23
      go_wp2_with fail
      ((with_reducible refine hIs.mono ?_); rintro e w2 ⟨rfl, f2⟩)
      have B2 := hB.trans (f2.mono (by simp))
      have C2 := (f2.cell (p := ⟨w.heap.size, 0, none⟩) (by simp)).trans hC
      go_wp2_with fail
      ((with_reducible refine (rank_any _ A n c w2 C2 (by omega)).mono ?_); rintro e w' ⟨rfl, rfl⟩)
      go_wp2_with fail
      go_ret2
      exact ⟨_, _, rfl, Lib.hid hF.out.symm, B2⟩
    · have d1 : ((n : Int) == 1) = false := by simp; omega
      have hn2 : 2 ≤ n := by omega
      have hv : ∀ t : Bool, (t = true ↔ AllSame (ownC (subL xss 0 (n - 1)) (flg xss))) → eqfF xss = (t, 0) := fun t ht => eqf_val hM (by omega) (by rw [hl]; exact ht)
      replace hv := Lib.hid hv
      replace hM := Lib.hid hM
      clear h1
      replace hl := Lib.hid hl
      go_enter Try.func23, Try.ntmps23
      go_wp2_with fail
      ((with_reducible refine hIs.mono ?_); rintro e w2 ⟨rfl, f2⟩)
      have B2 := hB.trans (f2.mono (by simp))
      have C2 := (f2.cell (p := ⟨w.heap.size, 0, none⟩) (by simp)).trans hC
      have R2 := hR.below f2 (by simp; omega)
      have y2 := B2.size
      have z2 : w.heap.size < w2.heap.size := by have := f2.size; simp at this; omega
      have hRk := rank_any _ A n c w2 C2 (by omega)
      have hSF := sectionForms_any w.heap.size A n c xss (flg xss) 0 (n - 1) 0 ((n : Int) - 2) rfl (by omega) w2 C2 z2 R2 (by omega) hnc (by omega) (by omega) hP rfl
      clear hIs C2 R2 hR hC f2 hP
      go_wp2_with fail
      ((with_reducible refine hRk.mono ?_); rintro e w' ⟨rfl, rfl⟩)
      go_wp2_with fail
      ((with_reducible refine hRk.mono ?_); rintro e w' ⟨rfl, rfl⟩)
      go_wp2_with fail
      ((with_reducible refine hSF.mono ?_); rintro e w3 ⟨A1, c1, A2, c2, fs, rfl, _, _, hs, f3⟩)
      have B3 := B2.trans (f3.mono y2)
      go_wp2_with fail
      go_ret2
      refine ⟨_, _, rfl, Lib.hid (hv.out _ ?_).symm, B3⟩
      unfold AllSame
      rw [← hs.2.2]
      simp; omega
end Go.Proofs.Ytbioelmofceaaaa
/- Sec -/
namespace Go.Proofs.Ytbioelmofceaaaa
open Go.RowKit
set_option linter.unusedVariables false
set_option maxRecDepth 100000
set_option maxHeartbeats 8000000 in
theorem l04Section_any (N : Nat) (A : Option Addr) (n c : Nat) (XSS : List (List Int)) (x : Int) (i k : Nat) (ii ki : Int) (hii : ii = i) (hki : ki = k) (w : World) {lo hi : Nat} (h : RS w lo hi A n XSS) (hhi : hi ≤ w.heap.size) (hnc : n ≤ c) (hik : i ≤ k) (hkn : k < n) (hn5 : n ≤ 20) (hN : flg XSS = N) (hn : N ≤ 400) (hS : SysOf XSS N) (hx0 : 0 ≤ x) (hx1 : x < N) :
    Calls Try.prog 46 #[.agg #[.slice A n c], .int .i64 x, .int .i64 ii, .int .i64 ki] w fun e w' => ∃ (A1 : Option Addr) (c1 : Nat), e = .returned (.agg #[.slice A1 (k + 1 - i) c1]) ∧ OwnS w' w.heap.size w'.heap.size 22 2 A1 (k + 1 - i) c1 (formL (subL XSS i (k + 1)) N x) ∧ Below w.heap.size w w' := by
  subst hii
  subst hki
  obtain ⟨j0, hj0, hy0, hy1, hy2⟩ := info_parts infoI
  obtain ⟨s0, hs0, hu0, hu1, hu2⟩ := info_parts infoS
  have hl := h.len
  obtain ⟨b0, o0, A0, n0, c0, p0, rfl, _, _, _, _, _⟩ := h.at_ (k := 0) (by omega)
  have hR0 := rs_alloc (rs_alloc h hhi (.cells #[.slice (some ⟨b0, o0, none⟩) n c] 38)) (by simp; omega) (.cells #[.slice none 0 0] 38)
  have hB0 : Below w.heap.size w ((w.alloc (.cells #[.slice (some ⟨b0, o0, none⟩) n c] 38)).alloc (.cells #[.slice none 0 0] 38)) := ((Below.refl _ _).alloc (Nat.le_refl _) _).alloc (by simp) _
  have hC0 : ((w.alloc (.cells #[.slice (some ⟨b0, o0, none⟩) n c] 38)).alloc (.cells #[.slice none 0 0] 38)).cell? ⟨w.heap.size, 0, none⟩ = some (.slice (some ⟨b0, o0, none⟩) n c) := (al_old _ _ _ _ (by simp)).trans (al_new _ _ _ _ rfl)
  have hQ0 : ((w.alloc (.cells #[.slice (some ⟨b0, o0, none⟩) n c] 38)).alloc (.cells #[.slice none 0 0] 38)).heap[w.heap.size + 1]? = some (.cells #[.slice none 0 0] 38 (0, 0)) := heap_new _ _ _ (by simp)
  have hs : SysOf (subL XSS i (k + 1)) N := sysOf_sub hS i (k + 1)
  have hxl : (subL XSS i (k + 1)).length = k + 1 - i := subL_length (by omega) (by omega)
  have hsub : RS w lo hi (some ⟨b0, o0 + i, none⟩) (k + 1 - i) (subL XSS i (k + 1)) := rs_sub h (by omega) (by omega) (fun _ => rfl)
  have hnf := l01Orbit_any N (some ⟨b0, o0 + i, none⟩) (k + 1 - i) (c - i) (subL XSS i (k + 1)) x _ ((hsub.keep (Same.of_below hB0 hhi))) (by simp; omega) hn hs hx0 hx1
  have hmet := bfs_met hs hx0 hx1
  have hclo : ∀ y ∈ bfs (subL XSS i (k + 1)) N x, ∀ p ∈ subL XSS i (k + 1), at' p y ∈ bfs (subL XSS i (k + 1)) N x := fun y hy p hp => bfs_closed hs hx0 hx1 hy hp
  have hfl : formL (subL XSS i (k + 1)) N x = (subL XSS i (k + 1)).map (ixF (bfs (subL XSS i (k + 1)) N x)) := rfl
  rw [hfl]
  clear hfl
  generalize bfs (subL XSS i (k + 1)) N x = ord at *
  generalize subL XSS i (k + 1) = xss at *
  have hol := hmet.len
  have hci : ¬ c = i := by omega
  have hic : i ≤ c := by omega
  have hI1 : (i : Int) ≤ (k : Int) + 1 := by omega
  have hI2 : (k : Int) + 1 ≤ (n : Int) := by omega
  have hI3 : (k : Int) + 1 ≤ (c : Int) := by omega
  obtain ⟨m, hmk⟩ : ∃ m, k + 1 - i = m := ⟨_, rfl⟩
  rw [hmk] at hxl hsub hnf ⊢
  have hm1 : 1 ≤ m := by omega
  have hm20 : m ≤ 20 := by omega
  replace hmet := Lib.hid hmet
  replace hclo := Lib.hid hclo
  replace hs := Lib.hid hs
  replace hS := Lib.hid hS
  replace hl := Lib.hid hl
  replace hxl := Lib.hid hxl
  go_enter Try.func46, Try.ntmps46
  go_wp2_with fail
  ((with_reducible refine hnf.mono ?_); rintro e w1 ⟨A5, n5, c5, rfl, o5, f1⟩)
  have B1 : Below w.heap.size w w1 := hB0.trans (f1.mono (by simp; omega))
  have C1 := (f1.cell (p := ⟨w.heap.size, 0, none⟩) (by simp; omega)).trans hC0
  have g4 := (f1.block (w.heap.size + 1) (by simp)).trans hQ0
  have z1 : w.heap.size + 2 ≤ w1.heap.size := by have := f1.size; simp at this; omega
  have e5 := o5.lenI
  subst e5
  have hR1 := h.below B1 hhi
  have hsub1 := hsub.below B1 hhi
  have o5 := o5.more (lo' := w.heap.size) (hi' := w1.heap.size) (by simp <;> omega) (Nat.le_refl _)
  replace g4 := Lib.hid g4
  clear f1 hnf hR0 hC0 hQ0 hB0
  go_wp2_with fail
  ((with_reducible refine (l02Flags_any (some ⟨b0, o0, none⟩) n c XSS _ hR1 (by omega) (by omega)).mono ?_); rintro e w1b ⟨rfl, f1b⟩)
  rw [hN]
  have y1b := f1b.size
  have B1b : Below w1.heap.size w1 w1b := f1b
  go_wp2_with (at_make; refine wpList_make_full _ rfl _ _ 22 rfl w1b.heap.size 2 j0 (.int .i64 0) 1 Try.underlying22 hj0 hy0 hy1 _ _ _ _ N rfl rfl rfl rfl ?c1 ?c2 (Nat.le_refl _) ?_)
  case c1 => rw [hy2]; omega
  case c2 => simp only [maxLen]; omega
  intro w2 hown hg
  have B2 : Below w1b.heap.size w1b w2 := (Below.refl _ _).grown hg (Nat.le_refl _) (by simp)
  have z2 : w1b.heap.size < w2.heap.size := (hown.lt w1b.heap.size (by simp [Value.ownBlock])).2
  have o6 : Own w2 w1b.heap.size w2.heap.size 2 (some ⟨w1b.heap.size, 0, none⟩) N N ((List.replicate N 0).map (Value.int .i64)) := by
    have := Own.of_row hown
    simpa [toList_madeCells_one, Value.cells] using this
  have o5b := o5.below B1b (Nat.le_refl _)
  clear hown hg f1b
  go_wp2_with fail
  go_loopw [12] (fun kv wq => ∃ (q : Nat) (ns : List Int), q ≤ ord.length ∧ kv = .int .i64 q ∧ Hid (NumI ord N q ns) ∧ Own wq w1b.heap.size w2.heap.size 2 (some ⟨w1b.heap.size, 0, none⟩) N N (ns.map (Value.int .i64)) ∧ w2.heap.size ≤ wq.heap.size ∧ Below w1b.heap.size w1b wq) (fun kv _ => ord.length - (intOf kv).toNat)
  case atStart => exact ⟨0, _, by omega, rfl, Lib.hid (NumI.zero ord N), o6, Nat.le_refl _, B2⟩
  case round =>
    clear o6 B2
    obtain ⟨q, ns, hq, rfl, hns, ho, hz, hb⟩ := hrel
    by_cases hlt : q < ord.length
    · obtain ⟨b5, f, rfl, _, _, _, hf, hcf, _⟩ := (o5b.below hb (by omega)).atI hlt
      obtain ⟨hf0, hf1⟩ := hmet.out.rng f (mem_of_get? hf)
      obtain ⟨f, rfl⟩ : ∃ q : Nat, f = q := ⟨f.toNat, by omega⟩
      have hcn := ho.cellI (hns.out.2 f (by omega))
      have hfr := ho.frz f
      have hfn : f < N := by omega
      have hst := hns.out.step hmet.out.nd hf
      replace hst := Lib.hid hst
      replace hf := Lib.hid hf
      generalize (if (f : Int) ∈ ord.take q then (ord.idxOf (f : Int) : Int) else 0) = old at *
      go_wp2_with fail
      go_roundw
      case measure => simp [intOf]; omega
      case rel => exact ⟨q + 1, ns.set f (q : Int), by omega, by go_num, hst, ho.setI (q : Int), by simp; omega, hb.setCell (by simp) _⟩
    · have hko : q = ord.length := by omega
      subst hko
      have hnum : ∀ z : Nat, z < N → (z : Int) ∈ ord → ns[z]? = some (ord.idxOf (z : Int) : Int) := fun z hz' hm => hns.out.get hz' hm
      replace hnum := Lib.hid hnum
      go_wp2_with fail
      obtain ⟨w3, rfl⟩ : ∃ w3 : World, w3 = wr := ⟨_, rfl⟩
      have g9 : (w3.alloc (.cells #[.slice none 0 0] 38)).heap[w3.heap.size]? = some (.cells #[.slice none 0 0] 38 (0, 0)) := heap_new _ _ _ rfl
      go_loopw [14] (fun kv wq => ∃ (q : Nat) (vs : List Value) (A2 : Option Addr) (c2 : Nat), q ≤ m ∧ vs.length = q ∧ kv = .int .i64 q ∧ wq.heap[w3.heap.size]? = some (.cells #[.slice A2 q c2] 38 (0, 0)) ∧
          Own wq (w3.heap.size + 1) wq.heap.size 22 A2 q c2 vs ∧ RowsOwn wq (w3.heap.size + 1) wq.heap.size 2 vs ((xss.take q).map (ixF ord)) ∧ w3.heap.size + 1 ≤ wq.heap.size ∧ Below w3.heap.size w3 wq) (fun kv _ => m - (intOf kv).toNat)
      case atStart => exact ⟨0, [], none, 0, by omega, rfl, rfl, g9, Own.nil, by simpa using RowsOwn.nil, by simp, (Below.refl _ _).alloc (Nat.le_refl _) _⟩
      case round =>
        clear g9
        obtain ⟨q, vs, A2, c2, hq, hvk, rfl, g9, ho9, hrows, hz9, hb9⟩ := hrel
        have C9 : wr.cell? ⟨w3.heap.size, 0, none⟩ = some (.slice A2 q c2) := by rw [cell_of_row _ _ _ _ _ _ g9]; rfl
        have F9 : wr.frozen? ⟨w3.heap.size, 0, none⟩ = false := frozen_of_row _ _ _ _ _ g9
        have hbw : Below w1b.heap.size w1b wr := hb.trans (hb9.mono (by omega))
        have hb1 : Below w1.heap.size w1 wr := B1b.trans (hbw.mono y1b)
        have ho6 := ho.below hb9 hz
        by_cases hkm : q < m
        · obtain ⟨bb, oo, Ak, nk, ck, p, e, _, _, hp, hpc, hpr⟩ := (hsub1.below hb1 (by omega)).at_ hkm
          injection e with e
          injection e with e1 e2 _
          subst e1; subst e2
          have hpm := mem_of_get? hp
          obtain ⟨hpr0, hpn, hpl⟩ := hs.out p hpm
          have hnk := hpr.len
          have hkk : nk = N := by omega
          subst hkk
          have htk := take_succ_of hp
          replace hp := Lib.hid hp
          replace htk := Lib.hid htk
          replace hpr0 := Lib.hid hpr0
          replace hpl := Lib.hid hpl
          replace g9 := Lib.hid g9
          have hnk1 := hpr.max
          go_wp2_with fail
          obtain ⟨wo, rfl⟩ : ∃ wo : World, wo = wr := ⟨_, rfl⟩
          have hlit := World.ownsRow_lit (e := 2) (base := wo.heap.size) (size := 1) wo #[] 0 (Nat.le_refl _) (by omega) rfl
          go_loopw [15, 16] (fun lv kv wq => ∃ (j : Nat) (ys : List Int) (A3 : Option Addr) (c3 : Nat), j ≤ ord.length ∧ ys.length = j ∧ lv = .slice A3 j c3 ∧ kv = .int .i64 j ∧ Hid (ys = (ixF ord p).take j) ∧ Own wq wo.heap.size wq.heap.size 2 A3 j c3 (ys.map (Value.int .i64)) ∧ wo.heap.size ≤ wq.heap.size ∧ Below wo.heap.size wo wq) (fun _ kv _ => ord.length - (intOf kv).toNat)
          case atStart => exact ⟨0, [], _, 0, by omega, rfl, rfl, rfl, Lib.hid rfl, by simpa using Own.of_row hlit, by simp, (Below.refl _ _).alloc (Nat.le_refl _) _⟩
          case round =>
            clear hlit
            obtain ⟨j, ys, A3, c3, hj, hyl, rfl, rfl, hys, ho3, hz3, hb3⟩ := hrel
            by_cases hjo : j < ord.length
            · obtain ⟨b5, f, hA5, _, _, _, hf, hcf, _⟩ := ((o5b.below hbw (by omega)).below hb3 (by omega)).atI hjo
              subst hA5
              have hfm := mem_of_get? hf
              obtain ⟨hf0, hf1⟩ := hmet.out.rng f hfm
              obtain ⟨f, rfl⟩ : ∃ q : Nat, f = q := ⟨f.toNat, by omega⟩
              have hfn : f < nk := by omega
              obtain ⟨bp, oq, v, rfl, _, _, hv, hvc⟩ := (hpr.below hb3 (by omega)).at_ hfn
              have hva : at' p f = v := by unfold at'; rw [Int.toNat_natCast]; exact getD_some hv
              have hvo := hclo.out _ hfm p hpm
              rw [hva] at hvo
              obtain ⟨hv0, hv1⟩ := hpr0.out v (mem_of_get? hv)
              obtain ⟨v, rfl⟩ : ∃ q : Nat, v = q := ⟨v.toNat, by omega⟩
              have hvn : v < nk := by omega
              have hcn := (ho6.below hb3 (by omega)).cellI (hnum.out v hvn hvo)
              have hpc3 := (hb3.cell (p := ⟨b0, o0 + i + q, none⟩) (by simp; omega)).trans hpc
              have hst : ys ++ [(ord.idxOf (v : Int) : Int)] = (ixF ord p).take (j + 1) := by
                rw [take_succ_of (x := (ord.idxOf (v : Int) : Int)) (by simp [ixF, hf, hva]), ← hys.out]
              replace hst := Lib.hid hst
              replace hf := Lib.hid hf
              replace hfm := Lib.hid hfm
              replace hv := Lib.hid hv
              replace hva := Lib.hid hva
              replace hvo := Lib.hid hvo
              generalize (ord.idxOf (v : Int) : Int) = u at *
              have hown' : Hid ((wr.alloc (.cells #[.int .i64 u] 2)).drew.ownsRow wo.heap.size 2 1 (.slice A3 j c3) j (ys.map (Value.int .i64))) := Lib.hid (ho3.1.alloc _)
              have hnew' : Hid (∀ q v, [Value.int .i64 u][q]? = some v → (wr.alloc (.cells #[.int .i64 u] 2)).drew.cell? ((⟨wr.heap.size, 0, none⟩ : Addr).add q) = some v) := Lib.hid (cell_one_new wr _ _)
              have hml : Hid (j + 1 ≤ maxLen) := Lib.hid (by simp only [maxLen]; omega)
              have hbs : wo.heap.size ≤ (wr.alloc (.cells #[.int .i64 u] 2)).drew.heap.size := by simp; omega
              have hbA : Below wo.heap.size wo (wr.alloc (.cells #[.int .i64 u] 2)).drew := below_drew (hb3.alloc hz3 _)
              have hlo3 : ∀ q, (Value.slice A3 j c3).ownBlock = some q → wo.heap.size ≤ q := fun q hq => (ho3.1.lt q hq).1
              replace hbs := Lib.hid hbs
              replace hbA := Lib.hid hbA
              replace hlo3 := Lib.hid hlo3
              go_wp2_with fail
              go_region_law (refine step_append_lies _ rfl (.tmp 56) (.tmp 70) 22 rfl wo.heap.size 2 j0 (.int .i64 0) 1 8 Try.underlying22 hj0 hy0 hy1 hy2 rfl (by decide) (.slice A3 j c3) j (ys.map (Value.int .i64)) (by simp [Act.eval]) hown'.out ⟨wr.heap.size, 0, none⟩ 1 1 [.int .i64 u] (by simp [Act.eval]) rfl hnew'.out (by simp [Value.oneCell']) (by decide) hml.out (by omega) hbs.out _ rfl ?_; intro g4 c4 w5 ho5 hg5 hor5 hlt5)
              all_goals
                have hb5 : Below wo.heap.size wo w5 := hbA.out.grown hg5 hbs.out (fun q hq => hlo3.out q hq)
                have hz5 : wo.heap.size ≤ w5.heap.size := hb5.size
                clear hcf hvc hcn ho3 hb3 hg5 hpc3
                go_wp2_with fail
                go_roundw
                case measure => simp [intOf]; omega
                case rel => exact ⟨j + 1, ys ++ [u], _, c4, by omega, by simp; omega, rfl, by go_num, hst, by simpa using Own.of_row ho5, by omega, hb5⟩
            · have hjo' : j = ord.length := by omega
              subst hjo'
              have hyf : ys = ixF ord p := by have := hys.out; rwa [List.take_of_length_le (by rw [ixF_length]; exact Nat.le_refl _)] at this
              have ho9' := ho9.below hb3 (Nat.le_refl _)
              have hrows' := hrows.keep (Same.of_below hb3 (Nat.le_refl _))
              have g9' := (hb3.block w3.heap.size (by omega)).trans g9.out
              have C9' : wr.cell? ⟨w3.heap.size, 0, none⟩ = some (.slice A2 q c2) := by rw [cell_of_row _ _ _ _ _ _ g9']; rfl
              have F9' : wr.frozen? ⟨w3.heap.size, 0, none⟩ = false := frozen_of_row _ _ _ _ _ g9'
              replace g9' := Lib.hid g9'
              replace hyf := Lib.hid hyf
              replace hyl := Lib.hid hyl
              go_wp2_with (at_builtin; refine wpList_append1 wr rfl (.tmp 73) (.tmp 75) 23 rfl (w3.heap.size + 1) 22 s0 (.slice none 0 0) 24 Try.underlying23 hs0 hu0 hu1 hu2 rfl (by omega) A2 q c2 _ (.slice A3 ord.length c3) rfl ho9'.1 _ rfl rfl rfl (by omega) (by omega) ?_)
              intro g4' c4 w5 ho5 hg5 hlo5 hlt5 hor5
              have g5 := (hg5.block w3.heap.size (by omega) (fun e => by have := (ho9'.1.lt _ e.symm).1; omega)).trans g9'.out
              have C5 : w5.cell? ⟨w3.heap.size, 0, none⟩ = some (.slice A2 q c2) := by rw [cell_of_row _ _ _ _ _ _ g5]; rfl
              have F5 : w5.frozen? ⟨w3.heap.size, 0, none⟩ = false := frozen_of_row _ _ _ _ _ g5
              have hrw5 := (hrows'.kept_ty ho9'.1 (by decide) hg5).snoc (ho3.kept_ty ho9'.1 (by decide) hg5) (by omega) hz3
              have hz5 := hg5.size
              have hb5 : Below w3.heap.size w3 w5 := (hb9.trans (hb3.mono (by omega))).grown hg5 (by omega) (fun q' hq' => by have := (ho9'.1.lt q' hq').1; omega)
              have ho5' := Own.of_row ho5
              replace g5 := Lib.hid g5
              clear C9 F9 C9' F9' ho9 ho9' hrows hrows' ho3 hg5 ho5
              go_wp2_with fail
              go_roundw
              case measure => simp [intOf]; omega
              case rel =>
                refine ⟨q + 1, vs ++ [.slice A3 ord.length c3], _, c4, by omega, by simp; omega, by go_num, ?_, (ho5'.far (.inl (by simp)) _).more (Nat.le_refl _) (by simp), ?_, by simp; omega, hb5.setCell (by simp) _⟩
                · have := heap_setCell_same _ _ 0 _ _ (Value.slice (some ⟨g4', 0, none⟩) (q + 1) c4) g5.out
                  simpa using this
                · rw [htk.out, List.map_append, List.map_singleton, ← hyf.out]
                  exact (hrw5.keep (same_set _ _ _ _ _ (.inl (by simp)))).more (Nat.le_refl _) (by simp; omega)
        · have hkm' : q = m := by omega
          subst hkm'
          have g4' := (hb1.block (w.heap.size + 1) (by omega)).trans g4.out
          have C4 : wr.cell? ⟨w.heap.size + 1, 0, none⟩ = some (.slice none 0 0) := by rw [cell_of_row _ _ _ _ _ _ g4']; rfl
          have F4 : wr.frozen? ⟨w.heap.size + 1, 0, none⟩ = false := frozen_of_row _ _ _ _ _ g4'
          replace g4' := Lib.hid g4'
          replace g9 := Lib.hid g9
          go_wp2_with fail
          have g2 := heap_setCell_same _ _ 0 _ _ (Value.slice A2 q c2) g4'.out
          (try simp only [Exit.inBlock, Exit.then])
          refine bodyPost_ret (v := .agg #[.slice A2 q c2]) ?_ rfl ?_
          · exact results_cell_row rfl _ _ (w.heap.size + 1) 38 #[.slice A2 q c2] (0, 0) _ rfl (by simpa using g2) Try.underlying38 rfl (by kernel_rfl)
          · have e : xss.take q = xss := List.take_of_length_le (by have := hxl.out; omega)
            rw [e] at hrows
            refine ⟨A2, c2, rfl, ⟨vs, ?_, ?_⟩, (B1.trans (hb1.mono (by omega))).setCell (by simp) _⟩
            · exact (ho9.keep (same_set _ _ _ _ _ (.inl (by simp; omega)))).more (by omega) (by simp)
            · exact (hrows.keep (same_set _ _ _ _ _ (.inl (by simp; omega)))).more (by omega) (by simp)
end Go.Proofs.Ytbioelmofceaaaa
/- SecX -/
namespace Go.Proofs.Ytbioelmofceaaaa
open Go.RowKit
set_option linter.unusedVariables false
set_option maxRecDepth 100000
end Go.Proofs.Ytbioelmofceaaaa
/- LspX -/
namespace Go.Proofs.Ytbioelmofceaaaa
open Go.RowKit
set_option linter.unusedVariables false
set_option maxRecDepth 100000
/-- the sections from i to i + 2 at all flags have the Euler number 2 -/
def SphAt (xss : List (List Int)) (i : Nat) : Prop := ∀ f : Nat, f < flg xss → eulN (formL (subL xss i (i + 3)) (flg xss) (f : Int)) = 2
def LocSph (xss : List (List Int)) : Prop := 3 < xss.length → ∀ i : Nat, i + 2 < xss.length → SphAt xss i
open Classical in
/-- what IsLocallySpherical returns -/
noncomputable def lspF (xss : List (List Int)) : Bool × Int := if isManB xss = true then if xss.length < 3 then (false, 5) else (decide (LocSph xss), 0) else (false, 1)
open Classical in
theorem lsp_val {xss : List (List Int)} {t : Bool} (hM : isManB xss = true) (h1 : ¬ xss.length < 3) (h : t = true ↔ LocSph xss) : lspF xss = (t, 0) := by
  unfold lspF
  rw [if_pos hM, if_neg h1]
  congr 1
  cases t
  · apply decide_eq_false
    intro k
    have := h.2 k
    cases this
  · exact decide_eq_true (h.1 rfl)
theorem lsp_true {xss : List (List Int)} (h : LocSph xss) : true = true ↔ LocSph xss := ⟨fun _ => h, fun _ => rfl⟩
theorem lsp_false {xss : List (List Int)} {i : Nat} (h3 : 3 < xss.length) (hi : i + 2 < xss.length) (h : ¬ SphAt xss i) : false = true ↔ LocSph xss := ⟨fun e => by simp at e, fun k => absurd (k h3 i hi) h⟩
/-- the forms are systems -/
theorem own_sys {xss : List (List Int)} (hP : ManP xss) {N I J : Nat} (hN : flg xss = N) (hIJ : I < J) (hJ : J ≤ xss.length) {x : List (List Int)} (hx : x ∈ ownC (subL xss I J) N) : SysOf x (flg x) ∧ flg x ≤ 400 ∧ x.length = J - I := by
  have hS : SysOf (subL xss I J) N := by
    have := hP.sys
    rw [hN] at this
    exact sysOf_sub this I J
  obtain ⟨c, hc⟩ := List.mem_iff_getElem?.1 hx
  have hcl : c < cntR (subL xss I J) N := by
    have := (List.getElem?_eq_some_iff.1 hc).1
    rwa [ownC_length] at this
  rw [ownC_get hcl] at hc
  obtain ⟨r, hr, hi, hl⟩ := idx_lab (c := c) hS hcl
  have hM := (sec_man hP hN hIJ hJ (f := (r : Int)) (by omega) (by omega)).1
  have e := Option.some.inj hc
  rw [← e]
  unfold frmL
  rw [hi]
  obtain ⟨F, hF⟩ : ∃ F, formL (subL xss I J) N (r : Int) = F := ⟨_, rfl⟩
  have hFl : F.length = J - I := by rw [← hF, formL_length, subL_length hJ (by omega)]
  rw [hF] at hM ⊢
  obtain ⟨g, hg, eg⟩ := leastGo_form F (flg F) (flg F)
  have h2 := hM.f2
  have h4 := hM.f4
  have hr1 := hM.r1
  have hcl := conn_lenR hM.sys hM.conn (x := (g : Int)) (by omega) (by omega)
  have hsy := form_sys hM.sys (x := (g : Int)) (by omega) (by omega)
  rw [eg]
  have hfl : flg (formL F (flg F) (g : Int)) = flg F := by rw [flg_form hr1, hcl]
  rw [hcl] at hsy
  rw [hfl]
  exact ⟨hsy, h4, by rw [formL_length, hFl]⟩
theorem sph_own {xss : List (List Int)} (hP : ManP xss) {i : Nat} (hi : i + 2 < xss.length) : SphAt xss i ↔ ∀ x ∈ ownC (subL xss i (i + 3)) (flg xss), eulN x = 2 :=
  (sph_iff hP rfl (show i < i + 3 by omega) (show i + 3 ≤ xss.length by omega)).symm
/-- what is returned: a Bool and a code -/
def RetB (F : Bool × Int) (e : Ending) : Prop := ∃ (y : Bool) (code : Int), e = .returned (.tuple #[.bool y, .int .i64 code]) ∧ Hid ((y, code) = F)
theorem retB {F : Bool × Int} {e : Ending} {y : Bool} {code : Int} (h : F = (y, code)) (he : e = .returned (.tuple #[.bool y, .int .i64 code])) : RetB F e := ⟨y, code, he, Lib.hid h.symm⟩
set_option maxHeartbeats 8000000 in
theorem i_lsp_core (w : World) (A : Option Addr) (n c : Nat) (xss : List (List Int)) {lo hi : Nat} (h : RS w lo hi A n xss) (hhi : hi ≤ w.heap.size) (hnc : n ≤ c) :
    Calls Try.prog 21 #[.agg #[.slice A n c]] w fun e w' => RetB (lspF xss) e ∧ Below w.heap.size w w' := by
  have hm := h.max
  have hl := h.len
  have hR := rs_alloc h hhi (.cells #[.slice A n c] 38)
  have hC : (w.alloc (.cells #[.slice A n c] 38)).cell? ⟨w.heap.size, 0, none⟩ = some (.slice A n c) := al_new _ _ _ _ rfl
  have hB : Below w.heap.size w (w.alloc (.cells #[.slice A n c] 38)) := (Below.refl _ _).alloc (Nat.le_refl _) _
  obtain ⟨t, hM⟩ : ∃ t, isManB xss = t := ⟨_, rfl⟩
  have hIs := isMan_any A n c xss (w.alloc (.cells #[.slice A n c] 38)) hR (by simp; omega) hnc
  rw [hM] at hIs
  cases t with
  | false =>
    have hF : lspF xss = (false, 1) := by unfold lspF; rw [hM]; rfl
    replace hF := Lib.hid hF
    replace hM := Lib.hid hM
    go_enter Try.func21, Try.ntmps21
    go_wp2_with fail
    ((with_reducible refine hIs.mono ?_); rintro e w2 ⟨rfl, f2⟩)
    have B2 := hB.trans (f2.mono (by simp))
    go_wp2_with fail
    go_ret2
    exact ⟨retB hF.out rfl, B2⟩
  | true =>
    have hP := isManB_iff.1 hM
    have hr1 := hP.r1
    have hr5 := hP.r5
    by_cases h1 : n < 3
    · have hF : lspF xss = (false, 5) := by unfold lspF; rw [if_pos hM, if_pos (by omega)]
      have d1 : (n : Int) < 3 := by omega
      replace hF := Lib.hid hF
      replace hM := Lib.hid hM
      replace h1 := Lib.hid h1
      replace hl := Lib.hid hl
      go_enter Try.func21, Try.ntmps21
      go_wp2_with fail
      ((with_reducible refine hIs.mono ?_); rintro e w2 ⟨rfl, f2⟩)
      have B2 := hB.trans (f2.mono (by simp))
      have C2 := (f2.cell (p := ⟨w.heap.size, 0, none⟩) (by simp)).trans hC
      go_wp2_with fail
      ((with_reducible refine (rank_any _ A n c w2 C2 (by omega)).mono ?_); rintro e w' ⟨rfl, rfl⟩)
      go_wp2_with fail
      go_ret2
      exact ⟨retB hF.out rfl, B2⟩
    · have d1 : ¬ (n : Int) < 3 := by omega
      have hv : ∀ t : Bool, (t = true ↔ LocSph xss) → lspF xss = (t, 0) := fun t ht => lsp_val hM (by omega) ht
      replace hv := Lib.hid hv
      replace hM := Lib.hid hM
      replace hl := Lib.hid hl
      go_enter Try.func21, Try.ntmps21
      go_wp2_with fail
      ((with_reducible refine hIs.mono ?_); rintro e w2 ⟨rfl, f2⟩)
      have B2 := hB.trans (f2.mono (by simp))
      have C2 := (f2.cell (p := ⟨w.heap.size, 0, none⟩) (by simp)).trans hC
      have R2 := hR.below f2 (by simp; omega)
      have y2 := B2.size
      have z2 : w.heap.size < w2.heap.size := by have := f2.size; simp at this; omega
      have hRk : ∀ V, Below w2.heap.size w2 V → Calls Try.prog 47 #[.pointer (some ⟨w.heap.size, 0, none⟩)] V fun e w' => e = .returned (.int .i64 n) ∧ V = w' := fun V hV => rank_any _ A n c V ((hV.cell (p := ⟨w.heap.size, 0, none⟩) z2).trans C2) (by omega)
      have hSF : ∀ V, Below w2.heap.size w2 V → ∀ i : Nat, i + 2 < n → _ := fun V hV i hi => sectionForms_any w.heap.size A n c xss (flg xss) i (i + 3) (i : Int) ((i : Int) + 2) rfl (by omega) V ((hV.cell (p := ⟨w.heap.size, 0, none⟩) z2).trans C2) (by have := hV.size; omega) (R2.below hV (by omega)) (by have := hV.size; omega) hnc (by omega) (by omega) hP rfl
      have hRk0 := hRk w2 (Below.refl _ _)
      replace hRk := Lib.hid hRk
      replace hSF := Lib.hid hSF
      replace hP := Lib.hid hP
      clear hIs C2 R2 hR hC f2
      go_wp2_with fail
      ((with_reducible refine hRk0.mono ?_); rintro e w' ⟨rfl, rfl⟩)
      clear hRk0
      go_wp2_with fail
      go_loopw [4] (fun iv wq => ∃ i : Nat, i + 2 ≤ n ∧ iv = .int .i64 i ∧ Hid (∀ k : Nat, k < i → SphAt xss k) ∧ Below w2.heap.size w2 wq) (fun iv _ => n - (intOf iv).toNat)
      case atStart => exact ⟨0, by omega, rfl, Lib.hid (fun k hk => by omega), Below.refl _ _⟩
      case round =>
        obtain ⟨i, hi, rfl, hsp, hBr⟩ := hrel
        have yr := hBr.size
        have hRr := hRk.out _ hBr
        by_cases hn3 : n = 3
        · have d3 : ¬ (3 : Int) < (n : Int) := by omega
          have hx : LocSph xss := fun k => by have := hl.out; omega
          have hxv := hv.out _ (lsp_true hx)
          have hBe := B2.trans (hBr.mono y2)
          replace hxv := Lib.hid hxv
          replace hn3 := Lib.hid hn3
          clear hx
          go_wp2_with fail
          ((with_reducible refine hRr.mono ?_); rintro e w' ⟨rfl, rfl⟩)
          go_wp2_with fail
          go_ret2
          exact ⟨retB hxv.out rfl, hBe⟩
        · have d3 : (3 : Int) < (n : Int) := by omega
          have hn4 : 3 < n := by omega
          clear hn3
          by_cases hlt : i + 2 < n
          · have hS2 := hSF.out _ hBr i hlt
            have e2 : (i : Int) + 2 < (n : Int) := by omega
            go_wp2_with fail
            ((with_reducible refine hRr.mono ?_); rintro e w' ⟨rfl, rfl⟩)
            go_wp2_with fail
            ((with_reducible refine hRr.mono ?_); rintro e w' ⟨rfl, rfl⟩)
            clear hRr
            go_wp2_with fail
            ((with_reducible refine hS2.mono ?_); rintro e w3 ⟨A1, c1, A2, c2, fs, rfl, hRf, hGf, hsf, f3⟩)
            clear hS2
            have y3 := f3.size
            have hfm : fs.length ≤ 9223372036854775807 := hRf.2.1
            have hB3 := hBr.trans (f3.mono yr)
            obtain ⟨w4, rfl⟩ : ∃ w4 : World, w4 = wr := ⟨_, rfl⟩
            replace hsf := Lib.hid hsf
            replace hGf := Lib.hid hGf
            go_wp2_with fail
            go_loopw [35] (fun kv wq => ∃ g : Nat, g ≤ fs.length ∧ kv = .int .i64 g ∧ Hid (∀ p ∈ fs.take g, eulN p.2 = 2) ∧ Below w3.heap.size w3 wq) (fun kv _ => fs.length - (intOf kv).toNat)
            case atStart => exact ⟨0, by omega, rfl, Lib.hid (fun p hp => by simp at hp), Below.refl _ _⟩
            case round =>
              obtain ⟨g, hg, rfl, heu, hB5⟩ := hrel
              have y5 := hB5.size
              by_cases hgl : g < fs.length
              · obtain ⟨b5, o5, v, rfl, _, hb5, hv5, hc5⟩ := (hRf.below hB5 (Nat.le_refl _)).at_ hgl
                rw [List.getElem?_map, Option.map_eq_some_iff] at hv5
                obtain ⟨p, hp, rfl⟩ := hv5
                obtain ⟨Ap, np, cp, ep, pp, _, rp⟩ := hGf.out p (List.mem_of_getElem? hp)
                obtain ⟨s1, s2, s3⟩ := own_sys hP.out rfl (show i < i + 3 by omega) (by have := hl.out; omega) (hsf.out.1 p (List.mem_of_getElem? hp))
                rw [ep] at hc5
                have hnp := rp.len
                have fW : Below wr.heap.size wr (wr.alloc (.cells #[.slice Ap np cp] 38)) := (Below.refl _ _).alloc (Nat.le_refl _) _
                have hFC := faceCounts_any wr.heap.size Ap np cp p.2 (wr.alloc (.cells #[.slice Ap np cp] 38)) (al_new _ _ _ _ rfl) (by simp) ((rp.below hB5 (Nat.le_refl _)).below fW (by omega)) (by simp; omega) (by omega) (flg p.2) rfl s2 s1
                have hcb := cntsL_bound (xss := p.2) s2
                have htk : fs.take (g + 1) = fs.take g ++ [p] := by rw [List.take_add_one, hp]; rfl
                have hpm := List.mem_of_getElem? hp
                replace hcb := Lib.hid hcb
                replace htk := Lib.hid htk
                replace hpm := Lib.hid hpm
                have hnp20 : np ≤ 20 := by omega
                replace hnp := Lib.hid hnp
                replace s1 := Lib.hid s1
                clear hp ep rp s3
                go_wp2_with fail
                ((with_reducible refine hFC.mono ?_); rintro e w6 ⟨A6, c6, rfl, o6, f6⟩)
                clear hFC
                have f7 : Below wr.heap.size wr w6 := fW.trans (f6.mono (by simp))
                have hB6 := hB5.trans (f7.mono y5)
                go_wp2_with fail
                ((with_reducible refine (eulerOf_any A6 np c6 _ _ o6.ri (by omega) hcb.out).mono ?_); rintro e w' ⟨rfl, rfl⟩)
                have hev : eulGo (cntsL p.2 (flg p.2)) np = eulN p.2 := by unfold eulN; rw [hnp.out]
                rw [hev]
                by_cases he : eulN p.2 = 2
                · have d6 : (eulN p.2 != 2) = false := by simpa using he
                  have heu2 : Hid (∀ q ∈ fs.take (g + 1), eulN q.2 = 2) := Lib.hid (fun q hq => by
                    rw [htk.out] at hq
                    rcases List.mem_append.1 hq with e | e
                    · exact heu.out q e
                    · rw [List.mem_singleton.1 e]; exact he)
                  replace he := Lib.hid he
                  go_wp2_with fail
                  go_roundw
                  case measure => simp [intOf]; omega
                  case rel => exact ⟨g + 1, by omega, by go_num, heu2, hB6⟩
                · have d6 : (eulN p.2 != 2) = true := by simpa using he
                  have hns : ¬ SphAt xss i := fun k => he ((sph_own hP.out (by have := hl.out; omega)).1 k p.2 (hsf.out.1 p hpm.out))
                  have hxv := hv.out _ (lsp_false (by have := hl.out; omega) (by have := hl.out; omega) hns)
                  have hBe := B2.trans ((hB3.trans (hB6.mono (by omega))).mono y2)
                  replace he := Lib.hid he
                  replace hxv := Lib.hid hxv
                  clear hns
                  go_wp2_with fail
                  go_ret2
                  exact ⟨retB hxv.out rfl, hBe⟩
              · obtain rfl : g = fs.length := by omega
                have hsi : SphAt xss i := (sph_own hP.out (by have := hl.out; omega)).2 (fun x hx => by
                  obtain ⟨p, hp, rfl⟩ := hsf.out.2.1 x hx
                  exact heu.out p (by rw [List.take_length]; exact hp))
                have hsp2 : Hid (∀ k : Nat, k < i + 1 → SphAt xss k) := Lib.hid (fun k hk => by
                  by_cases e : k = i
                  · rw [e]; exact hsi
                  · exact hsp.out k (by omega))
                have hB6 := hB3.trans (hB5.mono (by omega))
                replace hsi := Lib.hid hsi
                go_wp2_with fail
                go_roundw
                case measure => simp [intOf]; omega
                case rel => exact ⟨i + 1, by omega, by go_num, hsp2, hB6⟩
          · have e2 : ¬ (i : Int) + 2 < (n : Int) := by omega
            have hx : LocSph xss := fun _ k hk => hsp.out k (by have := hl.out; omega)
            have hxv := hv.out _ (lsp_true hx)
            have hBe := B2.trans (hBr.mono y2)
            replace hxv := Lib.hid hxv
            clear hx
            go_wp2_with fail
            ((with_reducible refine hRr.mono ?_); rintro e w' ⟨rfl, rfl⟩)
            go_wp2_with fail
            ((with_reducible refine hRr.mono ?_); rintro e w' ⟨rfl, rfl⟩)
            go_wp2_with fail
            go_ret2
            exact ⟨retB hxv.out rfl, hBe⟩
theorem i_IsLocallySpherical_any (w : World) (A : Option Addr) (n c : Nat) (xss : List (List Int)) {lo hi : Nat} (h : RS w lo hi A n xss) (hhi : hi ≤ w.heap.size) (hnc : n ≤ c) :
    Calls Try.prog 21 #[.agg #[.slice A n c]] w fun e w' => ∃ (y : Bool) (code : Int), e = .returned (.tuple #[.bool y, .int .i64 code]) ∧ Hid ((y, code) = lspF xss) ∧ Below w.heap.size w w' :=
  (i_lsp_core w A n c xss h hhi hnc).mono fun e w' ⟨⟨y, code, h1, h2⟩, h3⟩ => ⟨y, code, h1, h2, h3⟩
end Go.Proofs.Ytbioelmofceaaaa
/- LspS -/
namespace Go.Proofs.Ytbioelmofceaaaa
open Go.RowKit
set_option linter.unusedVariables false
set_option maxRecDepth 100000
set_option maxHeartbeats 8000000 in
theorem s_lsp_core (w : World) (A : Option Addr) (n c : Nat) (xss : List (List Int)) {lo hi : Nat} (h : RS w lo hi A n xss) (hhi : hi ≤ w.heap.size) (hnc : n ≤ c) :
    Calls Try.prog 20 #[.agg #[.slice A n c]] w fun e w' => RetB (lspF xss) e ∧ Below w.heap.size w w' := by
  have hm := h.max
  have hl := h.len
  have hR := rs_alloc h hhi (.cells #[.slice A n c] 38)
  have hC : (w.alloc (.cells #[.slice A n c] 38)).cell? ⟨w.heap.size, 0, none⟩ = some (.slice A n c) := al_new _ _ _ _ rfl
  have hB : Below w.heap.size w (w.alloc (.cells #[.slice A n c] 38)) := (Below.refl _ _).alloc (Nat.le_refl _) _
  obtain ⟨t, hM⟩ : ∃ t, isManB xss = t := ⟨_, rfl⟩
  have hIs := l02Is_any A n c xss (w.alloc (.cells #[.slice A n c] 38)) hR (by simp; omega)
  rw [hM] at hIs
  cases t with
  | false =>
    have hF : lspF xss = (false, 1) := by unfold lspF; rw [hM]; rfl
    replace hF := Lib.hid hF
    replace hM := Lib.hid hM
    go_enter Try.func20, Try.ntmps20
    go_wp2_with fail
    ((with_reducible refine hIs.mono ?_); rintro e w2 ⟨rfl, f2⟩)
    have B2 := hB.trans (f2.mono (by simp))
    go_wp2_with fail
    go_ret2
    exact ⟨retB hF.out rfl, B2⟩
  | true =>
    have hP := isManB_iff.1 hM
    have hr1 := hP.r1
    have hr5 := hP.r5
    by_cases h1 : n < 3
    · have hF : lspF xss = (false, 5) := by unfold lspF; rw [if_pos hM, if_pos (by omega)]
      have d1 : (n : Int) < 3 := by omega
      replace hF := Lib.hid hF
      replace hM := Lib.hid hM
      replace h1 := Lib.hid h1
      replace hl := Lib.hid hl
      go_enter Try.func20, Try.ntmps20
      go_wp2_with fail
      ((with_reducible refine hIs.mono ?_); rintro e w2 ⟨rfl, f2⟩)
      have B2 := hB.trans (f2.mono (by simp))
      have C2 := (f2.cell (p := ⟨w.heap.size, 0, none⟩) (by simp)).trans hC
      go_wp2_with fail
      go_ret2
      exact ⟨retB hF.out rfl, B2⟩
    · have d1 : ¬ (n : Int) < 3 := by omega
      have hv : ∀ t : Bool, (t = true ↔ LocSph xss) → lspF xss = (t, 0) := fun t ht => lsp_val hM (by omega) ht
      have hS := hP.sys
      have h4 := hP.f4
      obtain ⟨N, hN⟩ : ∃ N, flg xss = N := ⟨_, rfl⟩
      rw [hN] at hS h4
      have hn5 : n ≤ 5 := by omega
      replace hv := Lib.hid hv
      replace hM := Lib.hid hM
      replace hl := Lib.hid hl
      go_enter Try.func20, Try.ntmps20
      go_wp2_with fail
      ((with_reducible refine hIs.mono ?_); rintro e w2 ⟨rfl, f2⟩)
      have B2 := hB.trans (f2.mono (by simp))
      have C2 := (f2.cell (p := ⟨w.heap.size, 0, none⟩) (by simp)).trans hC
      have R2 := hR.below f2 (by simp; omega)
      have y2 := B2.size
      have z2 : w.heap.size < w2.heap.size := by have := f2.size; simp at this; omega
      have hCb : ∀ V, Below w2.heap.size w2 V → V.cell? ⟨w.heap.size, 0, none⟩ = some (.slice A n c) := fun V hV => (hV.cell (p := ⟨w.heap.size, 0, none⟩) z2).trans C2
      have hFl : ∀ V, Below w2.heap.size w2 V → Calls Try.prog 43 #[.agg #[.slice A n c]] V fun e w' => e = .returned (.int .i64 (N : Nat)) ∧ Below V.heap.size V w' := fun V hV => by
        have := l02Flags_any A n c xss V (R2.below hV (by omega)) (by have := hV.size; omega) (by omega)
        rw [hN] at this
        exact this
      have hSe : ∀ V, Below w2.heap.size w2 V → ∀ i f : Nat, i + 2 < n → f < N → Calls Try.prog 46 #[.agg #[.slice A n c], .int .i64 (f : Int), .int .i64 (i : Int), .int .i64 ((i : Int) + 2)] V fun e w' => ∃ (A1 : Option Addr) (c1 : Nat), e = .returned (.agg #[.slice A1 3 c1]) ∧ OwnS w' V.heap.size w'.heap.size 22 2 A1 3 c1 (formL (subL xss i (i + 3)) N (f : Int)) ∧ Below V.heap.size V w' := fun V hV i f hi hf => by
        have := l04Section_any N A n c xss (f : Int) i (i + 2) (i : Int) ((i : Int) + 2) rfl (by omega) V (R2.below hV (by omega)) (by have := hV.size; omega) hnc (by omega) (by omega) (by omega) hN h4 hS (by omega) (by omega)
        rw [show i + 2 + 1 - i = 3 by omega] at this
        exact this
      have hC2 := hCb w2 (Below.refl _ _)
      replace hCb := Lib.hid hCb
      replace hFl := Lib.hid hFl
      replace hSe := Lib.hid hSe
      replace hP := Lib.hid hP
      replace hS := Lib.hid hS
      replace hN := Lib.hid hN
      clear hIs C2 R2 hR hC f2
      go_wp2_with fail
      clear hC2
      go_loopw [5] (fun iv wq => ∃ i : Nat, i + 2 ≤ n ∧ iv = .int .i64 i ∧ Hid (∀ k : Nat, k < i → SphAt xss k) ∧ Below w2.heap.size w2 wq) (fun iv _ => n - (intOf iv).toNat)
      case atStart => exact ⟨0, by omega, rfl, Lib.hid (fun k hk => by omega), Below.refl _ _⟩
      case round =>
        obtain ⟨i, hi, rfl, hsp, hBr⟩ := hrel
        have yr := hBr.size
        by_cases hgo : i + 2 < n ∧ 3 < n
        · obtain ⟨hlt, hn4⟩ := hgo
          have e2 : (i : Int) + 2 < (n : Int) := by omega
          have d3 : (3 : Int) < (n : Int) := by omega
          go_wp2_with fail
          go_loopw [6] (fun fv wq => ∃ f : Nat, f ≤ N ∧ fv = .int .i64 f ∧ Hid (∀ k : Nat, k < f → eulN (formL (subL xss i (i + 3)) N (k : Int)) = 2) ∧ Below w2.heap.size w2 wq) (fun fv _ => N - (intOf fv).toNat)
          case atStart => exact ⟨0, by omega, rfl, Lib.hid (fun k hk => by omega), hBr⟩
          case round =>
            clear hBr yr
            obtain ⟨f, hf, rfl, heu, hBr⟩ := hrel
            have yr := hBr.size
            have hc1 := hCb.out _ hBr
            have hFl1 := hFl.out _ hBr
            go_wp2_with fail
            ((with_reducible refine hFl1.mono ?_); rintro e w3 ⟨rfl, f3⟩)
            have hB3 := hBr.trans (f3.mono yr)
            clear hFl1 hc1
            by_cases hfl : f < N
            · have hc3 := hCb.out _ hB3
              have hSe3 := hSe.out _ hB3 i f hlt hfl
              have y3 := hB3.size
              have hsys : SysOf (subL xss i (i + 3)) N := sysOf_sub hS.out i (i + 3)
              obtain ⟨F, hFe⟩ : ∃ F, formL (subL xss i (i + 3)) N (f : Int) = F := ⟨_, rfl⟩
              obtain ⟨hM3, hfl3⟩ := sec_man hP.out hN.out (show i < i + 3 by omega) (by have := hl.out; omega) (f := (f : Int)) (by omega) (by omega)
              rw [hFe] at hM3 hSe3
              have s2 := hM3.f4
              have s1 := hM3.sys
              have hcb := cntsL_bound (xss := F) s2
              replace hcb := Lib.hid hcb
              replace s1 := Lib.hid s1
              replace hFe := Lib.hid hFe
              clear hM3 hfl3 hsys
              go_wp2_with fail
              ((with_reducible refine hSe3.mono ?_); rintro e w4 ⟨A4, c4, rfl, o4, f4⟩)
              have hFl3 := o4.len
              have y4 := f4.size
              have hB4 := hB3.trans (f4.mono y3)
              replace hFl3 := Lib.hid hFl3
              clear hSe3 hc3
              go_wp2_with fail
              ((with_reducible refine (l02Counts_any A4 3 c4 F w4 o4.rs (Nat.le_refl _) (by omega) (flg F) rfl s2 s1.out).mono ?_); rintro e w5 ⟨A5, c5, rfl, o5, f5⟩)
              have hB5 := hB4.trans (f5.mono (by omega))
              go_wp2_with fail
              ((with_reducible refine (l02Euler_any A5 3 c5 _ _ o5.ri (by omega) hcb.out).mono ?_); rintro e w' ⟨rfl, rfl⟩)
              have hev : eulGo (cntsL F (flg F)) 3 = eulN F := by unfold eulN; rw [hFl3.out]
              rw [hev]
              by_cases he : eulN F = 2
              · have d6 : (eulN F != 2) = false := by simpa using he
                have heu2 : Hid (∀ k : Nat, k < f + 1 → eulN (formL (subL xss i (i + 3)) N (k : Int)) = 2) := Lib.hid (fun k hk => by
                  by_cases e : k = f
                  · rw [e, hFe.out]; exact he
                  · exact heu.out k (by omega))
                replace he := Lib.hid he
                go_wp2_with fail
                go_roundw
                case measure => simp [intOf]; omega
                case rel => exact ⟨f + 1, by omega, by go_num, heu2, hB5⟩
              · have d6 : (eulN F != 2) = true := by simpa using he
                have hns : ¬ SphAt xss i := fun k => he (by
                  have := k f (by rw [hN.out]; exact hfl)
                  rw [hN.out, hFe.out] at this
                  exact this)
                have hxv := hv.out _ (lsp_false (by have := hl.out; omega) (by have := hl.out; omega) hns)
                have hBe := B2.trans (hB5.mono y2)
                replace he := Lib.hid he
                replace hxv := Lib.hid hxv
                clear hns
                go_wp2_with fail
                go_ret2
                exact ⟨retB hxv.out rfl, hBe⟩
            · obtain rfl : f = N := by omega
              have hsi : SphAt xss i := fun k hk => by
                rw [hN.out] at hk ⊢
                exact heu.out k hk
              have hsp2 : Hid (∀ k : Nat, k < i + 1 → SphAt xss k) := Lib.hid (fun k hk => by
                by_cases e : k = i
                · rw [e]; exact hsi
                · exact hsp.out k (by omega))
              replace hsi := Lib.hid hsi
              go_wp2_with fail
              go_roundw
              case measure => simp [intOf]; omega
              case rel => exact ⟨i + 1, by omega, by go_num, hsp2, hB3⟩
        · have hx : LocSph xss := fun k3 k hk => hsp.out k (by have := hl.out; omega)
          have hxv := hv.out _ (lsp_true hx)
          have hBe := B2.trans (hBr.mono y2)
          replace hxv := Lib.hid hxv
          clear hx
          by_cases e2 : (i : Int) + 2 < (n : Int)
          · have d3 : ¬ (3 : Int) < (n : Int) := by omega
            clear hgo
            go_wp2_with fail
            go_ret2
            exact ⟨retB hxv.out rfl, hBe⟩
          · clear hgo
            go_wp2_with fail
            go_ret2
            exact ⟨retB hxv.out rfl, hBe⟩
theorem s_IsLocallySpherical_any (w : World) (A : Option Addr) (n c : Nat) (xss : List (List Int)) {lo hi : Nat} (h : RS w lo hi A n xss) (hhi : hi ≤ w.heap.size) (hnc : n ≤ c) :
    Calls Try.prog 20 #[.agg #[.slice A n c]] w fun e w' => ∃ (y : Bool) (code : Int), e = .returned (.tuple #[.bool y, .int .i64 code]) ∧ Hid ((y, code) = lspF xss) ∧ Below w.heap.size w w' :=
  (s_lsp_core w A n c xss h hhi hnc).mono fun e w' ⟨⟨y, code, h1, h2⟩, h3⟩ => ⟨y, code, h1, h2, h3⟩
end Go.Proofs.Ytbioelmofceaaaa
/- LIsLocallySpherical -/
namespace Go.Proofs.Ytbioelmofceaaaa.fnExactIsLocallySpherical
open Go.ChangeShapes Go.WideShapes Go.ChangeAt Go.RowKit
open Go.ChangeMaps (open_string shut_string)
set_option linter.unusedVariables false
theorem own : ownKnob Try.prog.godebug = none := by kernel_rfl
theorem laidOut : laidOutB Try.prog = true := by kernel_rfl
set_option maxRecDepth 100000 in
set_option maxHeartbeats 8000000 in
theorem walk (a0 : Option Addr) (n0 c0 : Nat) (xss0 : List (List Int)) (w : World) (h0 : RS w 0 w.heap.size a0 n0 xss0) (b0 : ∀ xs ∈ xss0, ∀ x ∈ xs, I64 x) :
    Calls Try.prog 5 #[.agg #[.slice a0 n0 c0]] w fun e w' => e = .returned (.bool true) ∧ Below w.heap.size w w' := by
  have m0 := h0.max
  have hR := rs_alloc h0 (Nat.le_refl _) (.cells #[.slice a0 n0 c0] 34)
  have hC0 : (w.alloc (.cells #[.slice a0 n0 c0] 34)).cell? ⟨w.heap.size, 0, none⟩ = some (.slice a0 n0 c0) := by simp
  have hB : Below w.heap.size w (w.alloc (.cells #[.slice a0 n0 c0] 34)) := (Below.refl _ _).alloc (Nat.le_refl _) _
  by_cases s0 : n0 + numsIn xss0 ≤ 1048576
  · skip
    have z0 := leftOf_pos s0
    replace z0 := Lib.hid z0
    go_enter Try.func5, Try.ntmps5
    go_wp2_with fail
    obtain ⟨W1, hW⟩ : ∃ W1 : World, (w.alloc (.cells #[.slice a0 n0 c0] 34)) = W1 := ⟨_, rfl⟩
    have hz1 : W1.heap.size = w.heap.size + 1 := by rw [← hW]; simp
    rw [hW] at hR hC0 hB ⊢
    clear hW
    have B0 : Below W1.heap.size W1 W1 := Below.refl _ _
    ((with_reducible refine (szM0_any a0 n0 c0 xss0 _ hR (by omega)).mono ?_); rintro e w1 ⟨rfl, f1⟩)
    rw [z0.out]
    have y1 := f1.size
    have B1 : Below W1.heap.size W1 w1 := below_then B0 f1 (by omega)
    clear B0
    have C0 := (B1.cell (p := ⟨w.heap.size, 0, none⟩) (by simp; omega)).trans hC0
    go_wp2_with fail
    ((with_reducible refine (toM_any a0 n0 c0 xss0 _ (hR.below B1 (by omega)) (by omega) (by omega)).mono ?_); rintro e w2 ⟨T2, rfl, t2, f2⟩)
    have y2 := f2.size
    have B2 : Below W1.heap.size W1 w2 := below_then B1 f2 (by omega)
    clear B1
    clear C0
    go_wp2_with fail
    ((with_reducible refine (s_IsLocallySpherical_any _ T2 n0 n0 xss0 t2.rs (by omega) (Nat.le_refl _)).mono ?_); rintro e w3 ⟨p0, p1, rfl, Hp, f3⟩)
    have y3 := f3.size
    have B3 : Below W1.heap.size W1 w3 := below_then B2 f3 (by omega)
    have t2 := t2.below f3 (by omega)
    clear B2
    clear t2
    have C0 := (B3.cell (p := ⟨w.heap.size, 0, none⟩) (by simp; omega)).trans hC0
    go_wp2_with fail
    ((with_reducible refine (toM_any a0 n0 c0 xss0 _ (hR.below B3 (by omega)) (by omega) (by omega)).mono ?_); rintro e w4 ⟨T4, rfl, t4, f4⟩)
    have y4 := f4.size
    have B4 : Below W1.heap.size W1 w4 := below_then B3 f4 (by omega)
    clear B3
    clear C0
    have f5 : Below w4.heap.size w4 (w4.alloc (.cells #[.slice T4 n0 n0] 38)) := (Below.refl _ _).alloc (Nat.le_refl _) _
    have Z5 : (w4.alloc (.cells #[.slice T4 n0 n0] 38)).heap.size = w4.heap.size + 1 := by simp
    have D5_0 : (w4.alloc (.cells #[.slice T4 n0 n0] 38)).cell? ⟨w4.heap.size, 0, none⟩ = some (.slice T4 n0 n0) := by simp
    have t4 := t4.below f5 (by omega)
    have X0 := (f5.cell (p := ⟨w.heap.size, 0, none⟩) (by simp; omega)).trans ((B4.cell (p := ⟨w.heap.size, 0, none⟩) (by simp; omega)).trans hC0)
    go_wp2_with fail
    obtain ⟨w5, hq5⟩ : ∃ w5 : World, (w4.alloc (.cells #[.slice T4 n0 n0] 38)) = w5 := ⟨_, rfl⟩
    rw [hq5] at f5 Z5 D5_0 t4 X0 ⊢
    clear hq5
    have y5 := f5.size
    have B5 : Below W1.heap.size W1 w5 := below_then B4 f5 (by omega)
    clear B4 X0
    go_wp2_with fail
    ((with_reducible refine (i_IsLocallySpherical_any _ T4 n0 n0 xss0 t4.rs (by omega) (Nat.le_refl _)).mono ?_); rintro e w6 ⟨q0, q1, rfl, Hq, f6⟩)
    have y6 := f6.size
    have B6 : Below W1.heap.size W1 w6 := below_then B5 f6 (by omega)
    have t4 := t4.below f6 (by omega)
    have D5_0 := (f6.cell (p := ⟨w4.heap.size, 0, none⟩) (by simp; omega)).trans D5_0
    clear B5
    obtain ⟨rfl, rfl⟩ : p0 = q0 ∧ p1 = q1 := by have e := Hp.out.trans Hq.out.symm; simpa [and_assoc] using e
    clear Hq
    have C0 := (B6.cell (p := ⟨w.heap.size, 0, none⟩) (by simp; omega)).trans hC0
    have Bd := below_drew B6
    have hT := toM_any a0 n0 c0 xss0 w6.drew (rs_drew (hR.below B6 (by omega))) (show _ ≤ w6.heap.size by omega) (by omega)
    have rd := rs_drew t4.rs
    go_wp2_with fail
    go_region_with (first
      | (go_at_call 14; refine hT.mono ?_; rintro e w7 ⟨T7, rfl, t7, f7⟩; have GD5_0 := (f7.cell (p := ⟨w4.heap.size, 0, none⟩) (by simp; omega)).trans D5_0; have y7 : w6.heap.size ≤ w7.heap.size := f7.size; have qe := eqM_any T4 n0 n0 xss0 T7 n0 n0 xss0 w7 (rd.below f7 (show _ ≤ w6.heap.size by omega)) t7.rs (by omega) (Nat.le_refl _))
      | (go_at_call 16; refine qe.mono ?_; rintro e w8 ⟨rfl, f8⟩))
    all_goals
      clear qe hT rd GD5_0
      have f7 : Below w6.heap.size w6 w7 := ⟨f7.os, f7.tape, f7.output, f7.size, f7.block⟩
      clear y7 Bd
      have y7 := f7.size
      have B7 : Below W1.heap.size W1 w7 := below_then B6 f7 (by omega)
      have t4 := t4.below f7 (by omega)
      have D5_0 := (f7.cell (p := ⟨w4.heap.size, 0, none⟩) (by simp; omega)).trans D5_0
      clear B6
      have y8 := f8.size
      have B8 : Below W1.heap.size W1 w8 := below_then B7 f8 (by omega)
      have t4 := t4.below f8 (by omega)
      have D5_0 := (f8.cell (p := ⟨w4.heap.size, 0, none⟩) (by simp; omega)).trans D5_0
      clear B7
      clear C0
      go_wp2_with fail
      go_ret
      exact ⟨rfl, hB.trans (B8.mono (by omega))⟩
  · have z0 := leftOf_neg s0
    replace z0 := Lib.hid z0
    go_enter Try.func5, Try.ntmps5
    go_wp2_with fail
    ((with_reducible refine (szM0_any a0 n0 c0 xss0 _ hR (by simp)).mono ?_); rintro e w2 ⟨rfl, f2⟩)
    rw [z0.out]
    go_wp2_with fail
    go_ret
    exact ⟨rfl, hB.trans (f2.mono (by simp))⟩
set_option maxRecDepth 100000 in
theorem lifted (os : Os) (started : os.Started) (H : Type) (enc : TypeId × Value → H) :
    ReturnsInHanded {} Try.checked os 5 .any (Rows.fnExactIsLocallySphericalSpec.pre6 enc Try.prog Try.f5 Rows.fnExactIsLocallySphericalRow.domain false) (Rows.fnExactIsLocallySphericalSpec.post enc Try.prog Try.f5 false true false false) := by
  refine returnsInHanded_of_change (C := Try.checked) own started (by kernel_rfl) Try.func5
    (ChangeSpec.witness6 (enc := enc) (C := Try.checked) false ⟨#[], #[.agg #[.slice none 0 0]], []⟩ 8 (by kernel_rfl) (by kernel_rfl) (by kernel_rfl) (by kernel_rfl)) ?_
  intro W base args ds gs before hval0 hW hcnd _
  have hval : ∀ (j : Nat) t v, Try.f5.params[j]? = some t → args[j]? = some v → Value.okWide Try.prog W .any base t v := hval0
  have hW' := hW
  obtain ⟨p, q, hA0, hV, rfl, hfz, hnd⟩ := hW
  have hA : DataW.TrodAll enc Try.prog W 0 (fun _ => true) true Try.f5.params.toList args.toList ds p := hA0
  rw [Try.params5] at hA hval
  obtain ⟨v0, vs0, dd0, ds0, p0, q0, hargs, rfl, rfl, h0, rr0⟩ := trodAll_cons hA
  obtain ⟨rfl, rfl, rfl⟩ := trodAll_nil rr0
  obtain rfl : args = #[v0] := by cases args; simp_all
  obtain ⟨rfl, rfl⟩ := trodVars_none hV
  have kk0 := h0
  have lt0 : ∀ x ∈ p0, x.block < W.heap.size := by obtain ⟨m, hm⟩ := kk0; exact DataW.trod_lt m _ _ _ hm
  obtain ⟨a0, n0, c0, xss0, rfl, w0, b0⟩ := open_RM Try.underlying34 (by kernel_rfl) (by kernel_rfl) rfl Try.underlying23 Try.underlying22 Try.underlying2 (by kernel_rfl) (by kernel_rfl) (hval 0 34 v0 rfl rfl) h0
  clear hA0 hval0
  refine (walk a0 n0 c0 xss0 W w0 b0).mono fun e W' ⟨he, bel⟩ => ?_
  subst he
  exact ⟨_, rfl, _, _, _, [], _, [], hW', trodAll_mk1 (shut_bool Try.underlying4 _), (trodAll_cons_mk (Below.trod laidOut (by kernel_rfl) (of_decide_eq_true (by kernel_rfl)) kk0 bel lt0) trodAll_mk0), rfl, bel.frame _, fun h => by cases h⟩
theorem over : Rows.fnExactIsLocallySphericalRow.holds Try.pinned (OpenSpec.ofChange Rows.fnExactIsLocallySphericalSpec) :=
  OpenClaim.holds_of_wide 5 Try.f5 rfl rfl rfl rfl rfl rfl rfl ⟨rfl, rfl, rfl, rfl, rfl⟩ rfl rfl rfl rfl rfl (by kernel_rfl) Try.func5 (by kernel_rfl)
    (of_decide_eq_true (by kernel_rfl)) (by unfold Func.isWrapper; first | (rw [if_pos (by decide +kernel)]; kernel_rfl) | (rw [if_neg (by decide +kernel)]; exact ⟨rfl, rfl⟩))
    (fun os started H enc _ => lifted os started H enc)
/-- THE STATEMENT -/
theorem proved : Rows.FnExactIsLocallySphericalSaid := over
end Go.Proofs.Ytbioelmofceaaaa.fnExactIsLocallySpherical
