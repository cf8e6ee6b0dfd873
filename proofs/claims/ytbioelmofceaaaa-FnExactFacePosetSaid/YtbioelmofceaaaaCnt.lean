/- Walks: the numbers of faces and their alternating sum, the program's and the reference's. Up to 400 flags. -/
import Derived.Test.YtbioelmofceaaaaCntP
import Derived.Test.YtbioelmofceaaaaFaceS
namespace Go.Proofs.Ytbioelmofceaaaa
open Go.RowKit
set_option linter.unusedVariables false
set_option maxRecDepth 100000
theorem labL_bound {list : List (List Int)} {n : Nat} (hs : SysOf list n) (h4 : n ≤ 400) : ∀ x ∈ labL list n, 0 ≤ x ∧ x ≤ 400 := by
  intro v hv
  obtain ⟨x, hx, rfl⟩ := List.mem_map.1 hv
  have h1 := lab_lt hs (List.mem_range.1 hx)
  have h2 := labOf_nonneg list x
  have h3 := cntR_le_n (list := list) n
  omega
theorem grt_le {l : List Int} (h : ∀ x ∈ l, 0 ≤ x ∧ x ≤ 400) : 0 ≤ grt l ∧ grt l ≤ 401 := by
  have h0 := grt_nonneg l (fun x hx => (h x hx).1)
  rcases grt_mem l with e | e
  · omega
  · have := h _ e; omega
theorem cntsL_bound {xss : List (List Int)} {n : Nat} (h4 : n ≤ 400) : ∀ x ∈ cntsL xss n, -400 ≤ x ∧ x ≤ 400 := by
  intro v hv
  obtain ⟨i, _, rfl⟩ := List.mem_map.1 hv
  have h3 := cntR_le_n (list := xss.eraseIdx i) n
  omega
theorem l02Greatest_any (A : Option Addr) (n c : Nat) (xs : List Int) (w : World) {lo hi : Nat} (h : RI w lo hi A n xs) (hb : ∀ x ∈ xs, 0 ≤ x ∧ x ≤ 400) :
    Calls Try.prog 64 #[.slice A n c] w fun e w' => e = .returned (.int .i64 (grt xs)) ∧ w = w' := by
  have hm := h.max
  have hl := Lib.hid h.len
  replace hb := Lib.hid hb
  go_enter Try.func64, Try.ntmps64
  go_wp2_with fail
  go_loopw [3, 4] (fun mv kv wq => ∃ k : Nat, k ≤ n ∧ kv = .int .i64 k ∧ mv = .int .i64 (grt (xs.take k)) ∧ w = wq) (fun _ kv _ => n - (intOf kv).toNat)
  case atStart => exact ⟨0, by omega, rfl, by simp [grt], by first | rfl | trivial⟩
  case round =>
    obtain ⟨k, hk, rfl, rfl, rfl⟩ := hrel
    by_cases hlt : k < n
    · obtain ⟨b, o, v, rfl, _, _, hv, hcv⟩ := h.at_ hlt
      have hst := grt_snoc (xs.take k) v
      rw [← take_succ_of hv] at hst
      have hbd := grt_le (l := xs.take k) (fun x hx => hb.out x (mem_of_take hx))
      obtain ⟨hv0, hv1⟩ := hb.out v (mem_of_get? hv)
      replace hv := Lib.hid hv
      generalize grt (xs.take k) = m at *
      obtain ⟨hb0, hb1⟩ := hbd
      by_cases hge : m ≤ v
      · rw [if_pos hge] at hst
        have hd : decide (v ≥ m) = true := decide_eq_true hge
        replace hst := Lib.hid hst
        go_wp2_with fail
        go_roundw
        case measure => simp [intOf]; omega
        case rel => exact ⟨k + 1, by omega, by go_num, by rw [hst.out], by first | rfl | trivial⟩
      · rw [if_neg hge] at hst
        have hd : decide (v ≥ m) = false := decide_eq_false hge
        have hd2 : decide (m ≤ v) = false := decide_eq_false hge
        replace hst := Lib.hid hst
        go_wp2_with fail
        go_roundw
        case measure => simp [intOf]; omega
        case rel => exact ⟨k + 1, by omega, by go_num, by rw [hst.out], by first | rfl | trivial⟩
    · go_wp2_with fail
      go_ret
      have hkn : k = n := by omega
      subst hkn
      exact ⟨ret_int (by rw [List.take_of_length_le (by have := hl.out; omega)]), rfl⟩
set_option maxHeartbeats 2000000 in
theorem faceCounts_any (b : Nat) (A : Option Addr) (n c : Nat) (xss : List (List Int)) (w : World) (hc : w.cell? ⟨b, 0, none⟩ = some (.slice A n c)) (hbs : b < w.heap.size) {lo hi : Nat} (h : RS w lo hi A n xss) (hhi : hi ≤ w.heap.size) (hn2 : n ≤ 1048576) (N : Nat) (hN : flg xss = N) (h4 : N ≤ 400) (hs : SysOf xss N) :
    Calls Try.prog 50 #[.pointer (some ⟨b, 0, none⟩)] w fun e w' => ∃ (A1 : Option Addr) (c1 : Nat), e = .returned (.slice A1 n c1) ∧ Own w' w.heap.size w'.heap.size 2 A1 n c1 ((cntsL xss N).map (Value.int .i64)) ∧ Below w.heap.size w w' := by
  obtain ⟨j0, hj0, hy0, hy1, hy2⟩ := info_parts infoI
  have hl := h.len
  have hcl := cntsL_length xss N
  rw [hl] at hcl
  have hget : ∀ k, k < n → (cntsL xss N)[k]? = some (cntR (xss.eraseIdx k) N : Int) := fun k hk => cntsL_get (by omega)
  generalize hcs : cntsL xss N = cs at *
  replace hcs := Lib.hid hcs
  replace hget := Lib.hid hget
  replace hcl := Lib.hid hcl
  replace hl := Lib.hid hl
  replace hs := Lib.hid hs
  go_enter Try.func50, Try.ntmps50
  go_wp2_with fail
  ((with_reducible refine (rank_any _ A n c _ hc (by omega)).mono ?_); rintro e w' ⟨rfl, rfl⟩)
  go_wp2_with fail
  go_loopw [3, 9] (fun sv kv wq => ∃ (k : Nat) (A2 : Option Addr) (c2 : Nat), k ≤ n ∧ sv = .slice A2 k c2 ∧ kv = .int .i64 k ∧ Own wq w.heap.size wq.heap.size 2 A2 k c2 ((cs.take k).map (Value.int .i64)) ∧ Below w.heap.size w wq) (fun _ kv _ => n - (intOf kv).toNat)
  case atStart => exact ⟨0, none, 0, by omega, rfl, rfl, by simpa using Own.nil, Below.refl _ _⟩
  case round =>
    obtain ⟨k, A2, c2, hk, rfl, rfl, ho, hb⟩ := hrel
    have hz := hb.size
    by_cases hlt : k < n
    · have hCk := (hb.cell (p := ⟨b, 0, none⟩) (by simp; omega)).trans hc
      have htk := take_succ_of (hget.out k hlt)
      replace htk := Lib.hid htk
      go_wp2_with fail
      ((with_reducible refine (faces_any b A n c k xss _ hCk (h.below hb hhi) (by omega) hlt hn2 N hN h4 hs.out).mono ?_); rintro e w2 ⟨A9, rfl, o9, f9⟩)
      have y9 := f9.size
      have ho2 := ho.below f9 (Nat.le_refl _)
      have hb2 := below_then hb f9 hz
      clear ho hb f9 o9 hCk
      generalize (cntR (xss.eraseIdx k) N : Int) = u at *
      go_wp2_with (at_builtin; refine wpList_append1 w2 rfl (.tmp 18) (.tmp 20) 22 rfl w.heap.size 2 j0 (.int .i64 0) 8 Try.underlying22 hj0 hy0 hy1 hy2 rfl (by omega) _ k c2 _ (.int .i64 u) rfl ho2.1 _ rfl rfl rfl (by omega) (by omega) ?_)
      intro g4 c4 w3 ho3 hg3 hlo3 hlt3 hor3
      have hb3 : Below w.heap.size w w3 := hb2.grown hg3 (by omega) (fun q hq => by have := (ho2.1.lt q hq).1; omega)
      have ho3' := Own.of_row ho3
      clear ho2 hb2 hg3 ho3
      go_wp2_with fail
      go_roundw
      case measure => simp [intOf]; omega
      case rel => exact ⟨k + 1, _, c4, by omega, rfl, by go_num, by rw [htk.out]; simpa using ho3', hb3⟩
    · go_wp2_with fail
      go_ret
      have hkn : k = n := by omega
      subst hkn
      rw [List.take_of_length_le (by have := hcl.out; omega)] at ho
      exact ⟨A2, c2, rfl, ho, hb⟩
set_option maxHeartbeats 2000000 in
theorem l02Counts_any (A : Option Addr) (n c : Nat) (xss : List (List Int)) (w : World) {lo hi : Nat} (h : RS w lo hi A n xss) (hhi : hi ≤ w.heap.size) (hn2 : n ≤ 1048576) (N : Nat) (hN : flg xss = N) (h4 : N ≤ 400) (hs : SysOf xss N) :
    Calls Try.prog 45 #[.agg #[.slice A n c]] w fun e w' => ∃ (A1 : Option Addr) (c1 : Nat), e = .returned (.slice A1 n c1) ∧ Own w' w.heap.size w'.heap.size 2 A1 n c1 ((cntsL xss N).map (Value.int .i64)) ∧ Below w.heap.size w w' := by
  obtain ⟨j0, hj0, hy0, hy1, hy2⟩ := info_parts infoI
  have hl := h.len
  have hcl := cntsL_length xss N
  rw [hl] at hcl
  have hget : ∀ k, k < n → (cntsL xss N)[k]? = some (cntR (xss.eraseIdx k) N : Int) := fun k hk => cntsL_get (by omega)
  generalize hcs : cntsL xss N = cs at *
  replace hcs := Lib.hid hcs
  replace hget := Lib.hid hget
  replace hcl := Lib.hid hcl
  replace hl := Lib.hid hl
  replace hs := Lib.hid hs
  have hR := rs_alloc h hhi (.cells #[.slice A n c] 38)
  have hC : (w.alloc (.cells #[.slice A n c] 38)).cell? ⟨w.heap.size, 0, none⟩ = some (.slice A n c) := al_new _ _ _ _ rfl
  have hB : Below w.heap.size w (w.alloc (.cells #[.slice A n c] 38)) := (Below.refl _ _).alloc (Nat.le_refl _) _
  have h0 := World.ownsRow_lit (e := 2) (base := (w.alloc (.cells #[.slice A n c] 38)).heap.size) (size := 1) (w.alloc (.cells #[.slice A n c] 38)) #[] 0 (Nat.le_refl _) (by omega) rfl
  go_enter Try.func45, Try.ntmps45
  go_wp2_with fail
  obtain ⟨W1, hW⟩ : ∃ W1 : World, w.alloc (.cells #[.slice A n c] 38) = W1 := ⟨_, rfl⟩
  have hz1 : W1.heap.size = w.heap.size + 1 := by rw [← hW]; simp
  rw [hW] at hR hC hB h0 ⊢
  clear hW h
  have h0 : (W1.alloc (.cells #[] 2)).ownsRow W1.heap.size 2 1 (.slice (some ⟨w.heap.size + 1, 0, none⟩) 0 0) 0 (([] : List Int).map (Value.int .i64)) := by rw [← hz1]; exact h0
  go_loopw [3, 4] (fun sv kv wq => ∃ (k : Nat) (A2 : Option Addr) (c2 : Nat), k ≤ n ∧ sv = .slice A2 k c2 ∧ kv = .int .i64 k ∧ Own wq W1.heap.size wq.heap.size 2 A2 k c2 ((cs.take k).map (Value.int .i64)) ∧ Below W1.heap.size W1 wq) (fun _ kv _ => n - (intOf kv).toNat)
  case atStart => exact ⟨0, _, 0, by omega, rfl, rfl, by simpa using Own.of_row h0, (Below.refl _ _).alloc (Nat.le_refl _) _⟩
  case round =>
    clear h0
    obtain ⟨k, A2, c2, hk, rfl, rfl, ho, hb⟩ := hrel
    have hz := hb.size
    have hCk := (hb.cell (p := ⟨w.heap.size, 0, none⟩) (by simp; omega)).trans hC
    by_cases hlt : k < n
    · have htk := take_succ_of (hget.out k hlt)
      have hgl := grt_lab (sysOf_erase hs.out k)
      have hlb := labL_bound (sysOf_erase hs.out k) h4
      replace htk := Lib.hid htk
      go_wp2_with fail
      ((with_reducible refine (l02Faces_any A n c k xss _ (hR.below hb (by omega)) (by omega) hlt hn2 N hN h4 hs.out).mono ?_); rintro e w2 ⟨A9, c9, rfl, o9, f9⟩)
      have y9 := f9.size
      have ho2 := ho.below f9 (Nat.le_refl _)
      have hb2 := below_then hb f9 hz
      clear ho hb f9 hCk
      go_wp2_with fail
      ((with_reducible refine (l02Greatest_any A9 N c9 _ _ o9.ri hlb).mono ?_); rintro e w' ⟨rfl, rfl⟩)
      rw [hgl]
      clear o9
      replace hgl := Lib.hid hgl
      replace hlb := Lib.hid hlb
      generalize (cntR (xss.eraseIdx k) N : Int) = u at *
      go_wp2_with (at_builtin; refine wpList_append1 w2 rfl (.tmp 13) (.tmp 18) 22 rfl W1.heap.size 2 j0 (.int .i64 0) 8 Try.underlying22 hj0 hy0 hy1 hy2 rfl (by omega) _ k c2 _ (.int .i64 u) rfl ho2.1 _ rfl rfl rfl (by omega) (by omega) ?_)
      intro g4 c4 w3 ho3 hg3 hlo3 hlt3 hor3
      have hb3 : Below W1.heap.size W1 w3 := hb2.grown hg3 (by omega) (fun q hq => by have := (ho2.1.lt q hq).1; omega)
      have ho3' := Own.of_row ho3
      clear ho2 hb2 hg3 ho3
      go_wp2_with fail
      go_roundw
      case measure => simp [intOf]; omega
      case rel => exact ⟨k + 1, _, c4, by omega, rfl, by go_num, by rw [htk.out, hz1]; simpa using ho3', hb3⟩
    · go_wp2_with fail
      go_ret
      have hkn : k = n := by omega
      subst hkn
      rw [List.take_of_length_le (by have := hcl.out; omega)] at ho
      exact ⟨A2, c2, rfl, ho.more (by omega) (Nat.le_refl _), hB.trans (hb.mono (by omega))⟩
theorem eulerOf_any (A : Option Addr) (n c : Nat) (xs : List Int) (w : World) {lo hi : Nat} (h : RI w lo hi A n xs) (hn5 : n ≤ 20) (hb : ∀ x ∈ xs, -400 ≤ x ∧ x ≤ 400) :
    Calls Try.prog 49 #[.slice A n c] w fun e w' => e = .returned (.int .i64 (eulGo xs n)) ∧ w = w' := by
  have hm := h.max
  have hbd := eulGo_bound (B := 400) (by omega) hb
  replace hb := Lib.hid hb
  replace hbd := Lib.hid hbd
  go_enter Try.func49, Try.ntmps49
  go_wp2_with fail
  go_loopw [3, 8] (fun mv kv wq => ∃ k : Nat, k ≤ n ∧ kv = .int .i64 k ∧ mv = .int .i64 (eulGo xs k) ∧ w = wq) (fun _ kv _ => n - (intOf kv).toNat)
  case atStart => exact ⟨0, by omega, rfl, by simp [eulGo], by first | rfl | trivial⟩
  case round =>
    obtain ⟨k, hk, rfl, rfl, rfl⟩ := hrel
    by_cases hlt : k < n
    · obtain ⟨b, o, v, rfl, _, _, hv, hcv⟩ := h.at_ hlt
      have hst := eulGo_succ xs k
      rw [getD_some hv] at hst
      obtain ⟨hb0, hb1⟩ := hbd.out k
      obtain ⟨hv0, hv1⟩ := hb.out v (mem_of_get? hv)
      replace hv := Lib.hid hv
      generalize eulGo xs k = m at *
      have hb2 : -8000 ≤ m := by omega
      have hb3 : m ≤ 8000 := by omega
      have htm : Int.tmod (k : Int) 2 = ((k % 2 : Nat) : Int) := rfl
      clear hb0 hb1
      by_cases hpar : k % 2 = 0
      · rw [if_pos hpar] at hst
        replace hst := Lib.hid hst
        rw [hpar] at htm
        go_wp2_with fail
        go_roundw
        case measure => simp [intOf]; omega
        case rel => exact ⟨k + 1, by omega, by go_num, by rw [hst.out], by first | rfl | trivial⟩
      · rw [if_neg hpar] at hst
        replace hst := Lib.hid hst
        have hp1 : k % 2 = 1 := by omega
        rw [hp1] at htm
        go_wp2_with fail
        go_roundw
        case measure => simp [intOf]; omega
        case rel => exact ⟨k + 1, by omega, by go_num, by rw [hst.out], by first | rfl | trivial⟩
    · go_wp2_with fail
      go_ret
      have hkn : k = n := by omega
      subst hkn
      exact ⟨rfl, rfl⟩
theorem l02Euler_any (A : Option Addr) (n c : Nat) (xs : List Int) (w : World) {lo hi : Nat} (h : RI w lo hi A n xs) (hn5 : n ≤ 20) (hb : ∀ x ∈ xs, -400 ≤ x ∧ x ≤ 400) :
    Calls Try.prog 44 #[.slice A n c] w fun e w' => e = .returned (.int .i64 (eulGo xs n)) ∧ w = w' := by
  have hm := h.max
  have hbd := eulGo_bound (B := 400) (by omega) hb
  replace hb := Lib.hid hb
  replace hbd := Lib.hid hbd
  go_enter Try.func44, Try.ntmps44
  go_wp2_with fail
  go_loopw [3, 4] (fun mv kv wq => ∃ k : Nat, k ≤ n ∧ kv = .int .i64 k ∧ mv = .int .i64 (eulGo xs k) ∧ w = wq) (fun _ kv _ => n - (intOf kv).toNat)
  case atStart => exact ⟨0, by omega, rfl, by simp [eulGo], by first | rfl | trivial⟩
  case round =>
    obtain ⟨k, hk, rfl, rfl, rfl⟩ := hrel
    by_cases hlt : k < n
    · obtain ⟨b, o, v, rfl, _, _, hv, hcv⟩ := h.at_ hlt
      have hst := eulGo_succ xs k
      rw [getD_some hv] at hst
      obtain ⟨hb0, hb1⟩ := hbd.out k
      obtain ⟨hv0, hv1⟩ := hb.out v (mem_of_get? hv)
      replace hv := Lib.hid hv
      generalize eulGo xs k = m at *
      have hb2 : -8000 ≤ m := by omega
      have hb3 : m ≤ 8000 := by omega
      have htm : Int.tmod (k : Int) 2 = ((k % 2 : Nat) : Int) := rfl
      clear hb0 hb1
      by_cases hpar : k % 2 = 0
      · rw [if_pos hpar] at hst
        replace hst := Lib.hid hst
        rw [hpar] at htm
        go_wp2_with fail
        go_roundw
        case measure => simp [intOf]; omega
        case rel => exact ⟨k + 1, by omega, by go_num, by rw [hst.out], by first | rfl | trivial⟩
      · rw [if_neg hpar] at hst
        replace hst := Lib.hid hst
        have hp1 : k % 2 = 1 := by omega
        rw [hp1] at htm
        go_wp2_with fail
        go_roundw
        case measure => simp [intOf]; omega
        case rel => exact ⟨k + 1, by omega, by go_num, by rw [hst.out], by first | rfl | trivial⟩
    · go_wp2_with fail
      go_ret
      have hkn : k = n := by omega
      subst hkn
      exact ⟨rfl, rfl⟩
end Go.Proofs.Ytbioelmofceaaaa
