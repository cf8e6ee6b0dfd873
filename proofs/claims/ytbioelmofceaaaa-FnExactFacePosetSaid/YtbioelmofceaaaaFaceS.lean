/- Walks: the faces of a rank, the reference's. Up to 400 flags. -/
import Derived.Test.YtbioelmofceaaaaFace
namespace Go.Proofs.Ytbioelmofceaaaa
open Go.RowKit
set_option linter.unusedVariables false
set_option maxRecDepth 100000
theorem erase_snoc {α : Type} {xs : List α} {k i : Nat} {x : α} (h : xs[k]? = some x) : (xs.take (k + 1)).eraseIdx i = if k = i then (xs.take k).eraseIdx i else (xs.take k).eraseIdx i ++ [x] := by
  have hk := (List.getElem?_eq_some_iff.1 h).1
  have hl : (xs.take k).length = k := by simp; omega
  rw [take_succ_of h]
  by_cases e : k = i
  · subst e
    rw [if_pos rfl, List.eraseIdx_append_of_length_le (by omega), hl, Nat.sub_self, List.eraseIdx_of_length_le (l := xs.take k) (by omega)]
    simp
  · rw [if_neg e]
    by_cases hlt : i < k
    · rw [List.eraseIdx_append_of_lt_length (by omega)]
    · rw [List.eraseIdx_append_of_length_le (by omega), hl, List.eraseIdx_of_length_le (l := [x]) (by simp; omega), List.eraseIdx_of_length_le (l := xs.take k) (by omega)]
set_option maxHeartbeats 4000000 in
theorem l02Others_any (A : Option Addr) (n c i : Nat) (A' : Option Addr) (c' : Nat) (xss : List (List Int)) (w : World) {lo hi lo' hi' : Nat} (h : RS w lo hi A n xss) (hhi : hi ≤ w.heap.size) (h' : RI w lo' hi' A' 1 [(i : Int)]) (hhi' : hi' ≤ w.heap.size) (hn2 : n ≤ 1048576) :
    Calls Try.prog 91 #[.agg #[.slice A n c], .slice A' 1 c'] w fun e w' => ∃ (A1 : Option Addr) (n1 c1 : Nat), e = .returned (.slice A1 n1 c1) ∧ RS w' 0 w'.heap.size A1 n1 (xss.eraseIdx i) ∧ Below w.heap.size w w' := by
  obtain ⟨s0, hs0, hu0, hu1, hu2⟩ := info_parts infoS
  have hl := Lib.hid h.len
  have hR := rs_alloc h hhi (.cells #[.slice A n c] 38)
  have hI : RI (w.alloc (.cells #[.slice A n c] 38)) lo' hi' A' 1 [(i : Int)] := h'.keep (same_alloc w _ _ _ hhi')
  have hC : (w.alloc (.cells #[.slice A n c] 38)).cell? ⟨w.heap.size, 0, none⟩ = some (.slice A n c) := al_new _ _ _ _ rfl
  have hB : Below w.heap.size w (w.alloc (.cells #[.slice A n c] 38)) := (Below.refl _ _).alloc (Nat.le_refl _) _
  have h0 := World.ownsRow_lit (e := 22) (base := (w.alloc (.cells #[.slice A n c] 38)).heap.size) (size := 1) (w.alloc (.cells #[.slice A n c] 38)) #[] 0 (Nat.le_refl _) (by omega) rfl
  go_enter Try.func91, Try.ntmps91
  go_wp2_with fail
  obtain ⟨W1, hW⟩ : ∃ W1 : World, w.alloc (.cells #[.slice A n c] 38) = W1 := ⟨_, rfl⟩
  have hz1 : W1.heap.size = w.heap.size + 1 := by rw [← hW]; simp
  rw [hW] at hR hI hC hB h0 ⊢
  clear hW h h'
  have h0 : (W1.alloc (.cells #[] 22)).ownsRow W1.heap.size 22 1 (.slice (some ⟨w.heap.size + 1, 0, none⟩) 0 0) 0 [] := by rw [← hz1]; exact h0
  go_loopw [5, 6] (fun ov kv wq => ∃ (k m : Nat) (vs : List Value) (A1 : Option Addr) (c1 : Nat), k ≤ n ∧ m ≤ k ∧ ov = .slice A1 m c1 ∧ kv = .int .i64 k ∧ Own wq W1.heap.size wq.heap.size 22 A1 m c1 vs ∧ Hid (RowsAt wq lo hi vs ((xss.take k).eraseIdx i)) ∧ Below W1.heap.size W1 wq) (fun _ kv _ => n - (intOf kv).toNat)
  case atStart => exact ⟨0, 0, [], _, 0, by omega, by omega, rfl, rfl, Own.of_row h0, Lib.hid ⟨by simp, fun k v xs h1 h2 => by simp at h1⟩, (Below.refl _ _).alloc (Nat.le_refl _) _⟩
  case round =>
    clear h0
    obtain ⟨k, m, vs, A1, c1, hk, hmk, rfl, rfl, ho, hrows, hb⟩ := hrel
    have hsz := hb.size
    have hCk := (hb.cell (p := ⟨w.heap.size, 0, none⟩) (by simp; omega)).trans hC
    by_cases hlt : k < n
    · obtain ⟨bb, oo, Ak, nk, ck, p, rfl, _, _, hp, hpc, hpr⟩ := (hR.below hb (by omega)).at_ hlt
      have hes := erase_snoc (i := i) hp
      by_cases hki : k = i
      · have hhas : decide ((k : Int) ∈ [(i : Int)]) = true := by simp [hki]
        rw [if_pos hki] at hes
        replace hes := Lib.hid hes
        replace hp := Lib.hid hp
        replace hki := Lib.hid hki
        go_wp2_with fail
        ((with_reducible refine (l01Has_any A' 1 c' [(i : Int)] (k : Int) _ (hI.below hb (by omega))).mono ?_); rintro e w' ⟨rfl, rfl⟩)
        rw [hhas]
        go_wp2_with fail
        go_roundw
        case measure => simp [intOf]; omega
        case rel => exact ⟨k + 1, m, vs, A1, c1, by omega, by omega, rfl, by go_num, ho, Lib.hid (by rw [hes.out]; exact hrows.out), hb⟩
      · have hhas : decide ((k : Int) ∈ [(i : Int)]) = false := by simp; omega
        rw [if_neg hki] at hes
        replace hes := Lib.hid hes
        replace hp := Lib.hid hp
        replace hki := Lib.hid hki
        go_wp2_with fail
        ((with_reducible refine (l01Has_any A' 1 c' [(i : Int)] (k : Int) _ (hI.below hb (by omega))).mono ?_); rintro e w' ⟨rfl, rfl⟩)
        rw [hhas]
        go_wp2_with (at_builtin; refine wpList_append1 wr rfl (.tmp 19) (.tmp 25) 23 rfl W1.heap.size 22 s0 (.slice none 0 0) 24 Try.underlying23 hs0 hu0 hu1 hu2 rfl (by omega) A1 m c1 _ (.slice Ak nk ck) rfl ho.1 _ rfl rfl rfl (by omega) (by omega) ?_)
        intro g4 c4 w5 ho5 hg5 hlo5 hlt5 hor5
        have hb5 : Below W1.heap.size W1 w5 := hb.grown hg5 (by omega) (fun q hq => by have := (ho.1.lt q hq).1; omega)
        have hsame : Same lo hi wr w5 := same_grown hg5 (by omega) (fun q hq => .inr (by have := (ho.1.lt q hq).1; omega))
        have hrw5 := rowsAt_snoc (c := ck) (hrows.out.keep hsame) (hpr.keep hsame)
        replace hrw5 := Lib.hid hrw5
        replace hsame := Lib.hid hsame
        have ho5' := Own.of_row ho5
        clear ho hb hg5 ho5 hpc hpr hCk
        go_wp2_with fail
        go_roundw
        case measure => simp [intOf]; omega
        case rel => exact ⟨k + 1, m + 1, vs ++ [.slice Ak nk ck], _, c4, by omega, by omega, rfl, by go_num, by rw [hz1]; exact ho5', Lib.hid (by rw [hes.out]; exact hrw5.out), hb5⟩
    · have hkn : k = n := by omega
      subst hkn
      go_wp2_with fail
      go_ret
      refine ⟨A1, m, c1, rfl, ⟨vs, ho.rd.more (by omega) (Nat.le_refl _), ?_⟩, hB.trans (hb.mono (by omega))⟩
      have := hrows.out
      rw [List.take_of_length_le (by have := hl.out; omega)] at this
      exact this.more (by omega) (by omega)
theorem below_undrew {B : Nat} {a w : World} (h : Below a.drew.heap.size a.drew w) (hB : B ≤ a.heap.size) : Below B a w := ⟨h.os, h.tape, h.output, h.size, fun k hk => h.block k (show k < a.heap.size by omega)⟩
set_option maxHeartbeats 4000000 in
theorem l02Faces_any (A : Option Addr) (n c i : Nat) (xss : List (List Int)) (w : World) {lo hi : Nat} (h : RS w lo hi A n xss) (hhi : hi ≤ w.heap.size) (hi0 : i < n) (hn2 : n ≤ 1048576) (N : Nat) (hN : flg xss = N) (h4 : N ≤ 400) (hs : SysOf xss N) :
    Calls Try.prog 63 #[.agg #[.slice A n c], .int .i64 i] w fun e w' => ∃ (A1 : Option Addr) (c1 : Nat), e = .returned (.slice A1 N c1) ∧ Own w' w.heap.size w'.heap.size 2 A1 N c1 ((labL (xss.eraseIdx i) N).map (Value.int .i64)) ∧ Below w.heap.size w w' := by
  have hR := rs_alloc h hhi (.cells #[.slice A n c] 38)
  have hC : (w.alloc (.cells #[.slice A n c] 38)).cell? ⟨w.heap.size, 0, none⟩ = some (.slice A n c) := al_new _ _ _ _ rfl
  have hB : Below w.heap.size w (w.alloc (.cells #[.slice A n c] 38)) := (Below.refl _ _).alloc (Nat.le_refl _) _
  replace hs := Lib.hid hs
  go_enter Try.func63, Try.ntmps63
  go_wp2_with fail
  obtain ⟨W1, hW⟩ : ∃ W1 : World, w.alloc (.cells #[.slice A n c] 38) = W1 := ⟨_, rfl⟩
  have hz1 : W1.heap.size = w.heap.size + 1 := by rw [← hW]; simp
  rw [hW] at hR hC hB ⊢
  clear hW h
  have hFa := l02Flags_any A n c xss W1.drew (rs_drew hR) (show _ ≤ W1.heap.size by omega) (by omega)
  have hFb0 := l02Flags_any A n c xss (W1.alloc (.cells #[.int .i64 (i : Int)] 2)).drew (rs_drew (rs_alloc hR (by omega) _)) (show _ ≤ (W1.alloc (.cells #[.int .i64 (i : Int)] 2)).heap.size by simp; omega) (by omega)
  rw [hN] at hFa hFb0
  have hFb : Calls Try.prog 43 #[.agg #[.slice A n c]] (W1.alloc (.cells #[.int .i64 (i : Int)] 2)).drew fun e w' => e = .returned (.int .i64 (N : Nat)) ∧ Below (W1.heap.size + 1) (W1.alloc (.cells #[.int .i64 (i : Int)] 2)) w' := hFb0.mono (fun e w' hh => ⟨hh.1, below_undrew hh.2 (by simp)⟩)
  clear hFb0
  have hCb : (W1.alloc (.cells #[.int .i64 (i : Int)] 2)).cell? ⟨w.heap.size, 0, none⟩ = some (.slice A n c) := (al_old _ _ _ _ (by omega)).trans hC
  go_region_with (first
    | (go_at_call 43; (with_reducible refine hFa.mono ?_); rintro e w8 ⟨rfl, f8⟩; have f8 : Below W1.heap.size W1 w8 := ⟨f8.os, f8.tape, f8.output, f8.size, f8.block⟩; have y8 := f8.size; have C8 := (f8.cell (p := ⟨w.heap.size, 0, none⟩) (by simp; omega)).trans hC; have C8a : (w8.alloc (.cells #[.int .i64 (i : Int)] 2)).cell? ⟨w.heap.size, 0, none⟩ = some (.slice A n c) := (al_old _ _ _ _ (by omega)).trans C8; have B8 : Below W1.heap.size W1 (w8.alloc (.cells #[.int .i64 (i : Int)] 2)) := f8.alloc y8 _; have qo := l02Others_any A n c i (some ⟨w8.heap.size, 0, none⟩) 1 xss _ (rs_alloc (hR.below f8 (by omega)) (by omega) (.cells #[.int .i64 (i : Int)] 2)) (by simp; omega) (ri_lit1 w8 2 (i : Int)) (by simp) hn2)
    | (go_at_call 43; (with_reducible refine hFb.mono ?_); rintro e w8 ⟨rfl, f8⟩; have y8 : W1.heap.size + 1 ≤ w8.heap.size := (by have := f8.size; simpa using this); have B8 : Below W1.heap.size W1 w8 := ((Below.refl _ _).alloc (Nat.le_refl _) _).trans (f8.mono (by omega)); have C8 := (B8.cell (p := ⟨w.heap.size, 0, none⟩) (by first | omega | (simp; done) | (simp; omega))).trans hC; have rl : RI w8 W1.heap.size (W1.heap.size + 1) (some ⟨w.heap.size + 1, 0, none⟩) 1 [(i : Int)] := (by rw [← hz1]; exact (ri_lit1 W1 2 (i : Int)).below f8 (Nat.le_refl _)); have qo := l02Others_any A n c i (some ⟨w.heap.size + 1, 0, none⟩) 1 xss w8 (hR.below B8 (by omega)) (by omega) rl (by omega) hn2)
    | (go_at_call 91; (with_reducible refine qo.mono ?_); rintro e w9 ⟨A9, n9, c9, rfl, r9, f9⟩; have y9 := f9.size; have B9 : Below W1.heap.size W1 w9 := below_then B8 f9 (by first | omega | (simp; omega)); have qp := l01Orbits_any N A9 n9 c9 (xss.eraseIdx i) w9 r9 (Nat.le_refl _) h4 (sysOf_erase hs.out i))
    | (go_at_call 90; (with_reducible refine qp.mono ?_); rintro e w10 ⟨A10, c10, rfl, o10, f10⟩))
  all_goals
    have z9 := B9.size
    have B10 := below_then B9 f10 z9
    go_wp2_with fail
    go_ret
    exact ⟨A10, c10, rfl, o10.more (by omega) (Nat.le_refl _), hB.trans (B10.mono (by omega))⟩
end Go.Proofs.Ytbioelmofceaaaa
