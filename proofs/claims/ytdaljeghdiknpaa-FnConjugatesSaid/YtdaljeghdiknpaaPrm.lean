/- Draws: a permutation out of the dice of laws.go (perm5). -/
import Derived.Test.YtdaljeghdiknpaaDic
import Derived.Test.YtdaljeghdiknpaaDrwD
import Derived.Test.YtdaljeghdiknpaaStep
import Derived.Test.YtdaljeghdiknpaaRow
namespace Go.Proofs.Ytdaljeghdiknpaa
open Go.RowKit
set_option linter.unusedVariables false
set_option maxRecDepth 100000
theorem below_drw {B : Nat} {a w : World} (h : Below B a w) : Below B a w.drew := ⟨h.os, h.tape, h.output, h.size, h.block⟩
theorem ins_perm {l : List Int} {i k : Nat} (h : l.Perm (idL i)) (hk : k ≤ i) : ((l.take k ++ [(i : Int)]) ++ l.drop k).Perm (idL (i + 1)) := by
  have e : idL (i + 1) = idL i ++ [(i : Int)] := by unfold idL; rw [List.range_succ, List.map_append]; rfl
  rw [e, List.append_assoc]
  have h1 : (l.take k ++ ([(i : Int)] ++ l.drop k)).Perm (l.take k ++ (l.drop k ++ [(i : Int)])) := List.Perm.append_left _ List.perm_append_comm
  refine h1.trans ?_
  rw [← List.append_assoc, List.take_append_drop]
  exact h.append_right _
theorem ri_part {w : World} {lo hi n b : Nat} {xs : List Int} (h : RI w lo hi (some ⟨b, 0, none⟩) n xs) {i j : Nat} (hij : i ≤ j) (hj : j ≤ n) {A' : Option Addr} (hA : i < j → A' = some ⟨b, i, none⟩) : RI w lo hi A' (j - i) ((xs.drop i).take (j - i)) := by
  refine ⟨by have := h.1; simp at this ⊢; omega, by have := h.2.1; omega, fun hn => ?_⟩
  obtain ⟨b', o', e, h1, h2, hc⟩ := h.2.2 (by omega)
  injection e with e
  injection e with e1 e2 _
  subst e1; subst e2
  refine ⟨b, i, hA (by omega), h1, h2, fun k v hv => ?_⟩
  have hk := (List.getElem?_eq_some_iff.1 hv).1
  simp at hk
  rw [List.getElem?_map, List.getElem?_take_of_lt (by omega), List.getElem?_drop] at hv
  have := hc (i + k) v (by rw [List.getElem?_map]; exact hv)
  simpa using this
theorem cell_one_of {w : World} {b : Nat} {u : Value} {T : TypeId} (h : w.heap[b]? = some (.cells #[u] T (0, 0))) : ∀ z v, [u][z]? = some v → w.cell? ((⟨b, 0, none⟩ : Addr).add z) = some v := by
  intro z v hv
  have hz : z = 0 := by have := (List.getElem?_eq_some_iff.1 hv).1; simp at this; omega
  subst hz
  simp at hv
  subst hv
  rw [Addr.add_lit, cell_of_row _ _ _ _ _ _ h]
  rfl
theorem lit_own {w : World} {lo z : Nat} {T : TypeId} (h : w.heap[z]? = some (.cells #[] T (0, 0))) (hz : lo ≤ z) : w.ownsRow lo T 1 (.slice (some ⟨z, 0, none⟩) 0 0) 0 [] := blk_own (vs := []) h rfl hz (by simp)
set_option maxHeartbeats 8000000 in
theorem perm5_any (w : World) (lo g : Nat) (A : Option Addr) (n c : Nat) (bs : List Int) (i0 h0 : Nat) (s : Src w lo g 79 A n c bs i0 h0) (N : Nat) (hN : N ≤ 1048576) :
    Calls Try.prog 41 #[.pointer (some ⟨g, 0, none⟩), .int .i64 (N : Int)] w fun e w' => ∃ (A1 : Option Addr) (c1 : Nat), e = .returned (.slice A1 N c1) ∧ DrawnP w w' lo g 79 2 A n c bs A1 N c1 := by
  obtain ⟨j0, hj0, hy0, hy1, hy2⟩ := info_parts infoI
  have hgl := s.lt
  have hlit := own_lit0 w 2 (Nat.le_refl _)
  have s1 : Src (w.alloc (.cells #[] 2)) lo g 79 A n c bs i0 h0 := s.below ((Below.refl _ _).alloc (Nat.le_refl _) _) hgl
  replace s1 := Lib.hid s1
  clear s
  go_enter Try.func41, Try.ntmps41
  go_wp2_with fail
  go_loopw [5, 6] (fun lv iv wq => ∃ (i b2 c2 i' h' : Nat) (xs : List Int), i ≤ N ∧ iv = .int .i64 i ∧ lv = .slice (some ⟨b2, 0, none⟩) i c2 ∧ Own wq w.heap.size wq.heap.size 2 (some ⟨b2, 0, none⟩) i c2 (xs.map (Value.int .i64)) ∧ Hid (xs.Perm (idL i)) ∧ Hid (Src wq lo g 79 A n c bs i' h') ∧ Chg g (g + 1) w wq) (fun _ iv _ => N - (intOf iv).toNat)
  case atStart => exact ⟨0, w.heap.size, 0, i0, h0, [], by omega, rfl, rfl, by simpa using hlit, Lib.hid (by simp [idL]), s1, (Chg.refl _ _ _).alloc _⟩
  case round =>
    clear hlit s1
    obtain ⟨i, b2, c2, i', h', xs, hi, rfl, rfl, ho, hpm, hs, hch⟩ := hrel
    have hzz := hch.size
    by_cases hlt : i < N
    · have hb := below_any wr lo g A n c bs i' h' hs.out ((i : Int) + 1) (by omega) (by omega)
      have hw1 : IntKind.i64.wrap ((i : Int) + 1) = (i : Int) + 1 := by rw [IntKind.wrap_i64]; omega
      replace hb := Lib.hid hb
      go_wp2_with fail
      ((with_reducible refine hb.out.mono ?_); rintro e w2 ⟨v, i2, rfl, np⟩)
      clear hb hw1
      obtain ⟨v0, v1⟩ : 0 ≤ v ∧ v < (i : Int) + 1 := ⟨np.ge, np.lt⟩
      obtain ⟨k, rfl⟩ : ∃ z : Nat, v = z := ⟨v.toNat, by omega⟩
      have hki : k ≤ i := by omega
      have hsz := np.size
      have s2 := np.src
      have hch2 : Chg g (g + 1) w w2 := hch.trans np.chg ⟨Nat.le_refl _, Nat.le_refl _⟩ ⟨Nat.le_refl _, Nat.le_refl _⟩
      have ho2 : Own w2 w.heap.size w2.heap.size 2 (some ⟨b2, 0, none⟩) i c2 (xs.map (Value.int .i64)) := (ho.keep (Same.of_chg np.chg (Nat.le_refl _) (.inr (by omega)))).more (Nat.le_refl _) (by omega)
      have hxl := ho2.lenI
      have hcap : i ≤ c2 := ho2.cap
      have hpn := ins_perm hpm.out hki
      have hwz : w.heap.size ≤ w2.heap.size := by omega
      clear np hch ho hs hsz hpm hzz
      replace s2 := Lib.hid s2
      replace hpn := Lib.hid hpn
      replace hxl := Lib.hid hxl
      --REGION
      by_cases hkc : c2 = k
      · obtain rfl : i = k := by omega
        obtain rfl : i = c2 := hkc.symm
        have hT : RI w2 w.heap.size w2.heap.size (some ⟨b2, 0, none⟩) i (xs.take i) := by simpa using ri_part ho2.ri (i := 0) (j := i) (by omega) hki (fun _ => rfl)
        have hD : RI w2 w.heap.size w2.heap.size (some ⟨b2, 0, none⟩) 0 (xs.drop i) := by
          have h1 := ri_part ho2.ri (i := i) (j := i) hki (Nat.le_refl _) (A' := (some ⟨b2, 0, none⟩)) (fun h => by first | rfl | omega)
          rw [List.take_of_length_le (by simp; have := hxl.out; omega)] at h1; simpa using h1
        have hB1 : Below w2.heap.size w2 (w2.alloc (.cells #[] 2)).drew := below_drw ((Below.refl _ _).alloc (Nat.le_refl _) _)
        have hA1 : Hid ((w2.alloc (.cells #[] 2)).ownsRow w2.heap.size 2 1 (.slice (some ⟨w2.heap.size, 0, none⟩) 0 0) 0 []) := Lib.hid (lit_own (heap_new _ _ _ rfl) (by omega))
        have hT1 : Hid (Rd (w2.alloc (.cells #[] 2)).drew w.heap.size w2.heap.size (some ⟨b2, 0, none⟩) i ((xs.take i).map (Value.int .i64))) := Lib.hid (hT.below hB1 (Nat.le_refl _))
        have hS1 : Hid (w2.heap.size ≤ (w2.alloc (.cells #[] 2)).drew.heap.size) := Lib.hid (hB1.size)
        replace hB1 := Lib.hid hB1
        have hB2 : Below w2.heap.size w2 ((w2.alloc (.cells #[] 2)).alloc (.cells #[.int .i64 (i : Int)] 2)).drew := below_drw (((Below.refl _ _).alloc (Nat.le_refl _) _).alloc (by simp) _)
        have hA2 : Hid (((w2.alloc (.cells #[] 2)).alloc (.cells #[.int .i64 (i : Int)] 2)).ownsRow w2.heap.size 2 1 (.slice (some ⟨w2.heap.size, 0, none⟩) 0 0) 0 []) := Lib.hid (lit_own ((Below.heap_alloc _ _ _ (by simp)).trans (heap_new _ _ _ rfl)) (by omega))
        have hT2 : Hid (Rd ((w2.alloc (.cells #[] 2)).alloc (.cells #[.int .i64 (i : Int)] 2)).drew w.heap.size w2.heap.size (some ⟨b2, 0, none⟩) i ((xs.take i).map (Value.int .i64))) := Lib.hid (hT.below hB2 (Nat.le_refl _))
        have hS2 : Hid (w2.heap.size ≤ ((w2.alloc (.cells #[] 2)).alloc (.cells #[.int .i64 (i : Int)] 2)).drew.heap.size) := Lib.hid (hB2.size)
        have hL2 : Hid (((w2.alloc (.cells #[] 2)).alloc (.cells #[.int .i64 (i : Int)] 2)).heap[w2.heap.size + 1]? = some (.cells #[.int .i64 (i : Int)] 2 (0, 0))) := Lib.hid (heap_new _ _ _ (by simp))
        replace hB2 := Lib.hid hB2
        have hB3 : Below w2.heap.size w2 ((w2.alloc (.cells #[.int .i64 (i : Int)] 2)).alloc (.cells #[] 2)).drew := below_drw (((Below.refl _ _).alloc (Nat.le_refl _) _).alloc (by simp) _)
        have hA3 : Hid (((w2.alloc (.cells #[.int .i64 (i : Int)] 2)).alloc (.cells #[] 2)).ownsRow w2.heap.size 2 1 (.slice (some ⟨w2.heap.size + 1, 0, none⟩) 0 0) 0 []) := Lib.hid (lit_own (heap_new _ _ _ (by simp)) (by omega))
        have hT3 : Hid (Rd ((w2.alloc (.cells #[.int .i64 (i : Int)] 2)).alloc (.cells #[] 2)).drew w.heap.size w2.heap.size (some ⟨b2, 0, none⟩) i ((xs.take i).map (Value.int .i64))) := Lib.hid (hT.below hB3 (Nat.le_refl _))
        have hS3 : Hid (w2.heap.size ≤ ((w2.alloc (.cells #[.int .i64 (i : Int)] 2)).alloc (.cells #[] 2)).drew.heap.size) := Lib.hid (hB3.size)
        have hL3 : Hid (((w2.alloc (.cells #[.int .i64 (i : Int)] 2)).alloc (.cells #[] 2)).heap[w2.heap.size]? = some (.cells #[.int .i64 (i : Int)] 2 (0, 0))) := Lib.hid ((Below.heap_alloc _ _ _ (by simp)).trans (heap_new _ _ _ rfl))
        replace hB3 := Lib.hid hB3
        have hml : Hid (i + 1 ≤ maxLen) := Lib.hid (by simp only [maxLen]; omega)
        have hDr : ∀ wq, Below w2.heap.size w2 wq → Rd wq w.heap.size w2.heap.size (some ⟨b2, 0, none⟩) 0 ((xs.drop i).map (Value.int .i64)) := fun wq hq => hD.below hq (Nat.le_refl _)
        replace hDr := Lib.hid hDr
        clear hT hD
        have hI0 : (0 : Int) ≤ (i : Int) := by omega
        have hI1 : (i : Int) ≤ (i : Int) := by omega
        have hI2 : (i : Int) ≤ (i : Int) := by omega
        have hI3 : (i : Int) ≤ (i : Int) := by omega
        go_wp2_with fail
        go_region_law? (first
          | (refine step_appendL (w2.alloc (.cells #[] 2)).drew rfl (.tmp 18) (.tmp 21) 27 rfl w2.heap.size 2 j0 (.int .i64 0) 8 Try.underlying27 hj0 hy0 hy1 hy2 rfl (by omega) (some ⟨w2.heap.size, 0, none⟩) 0 0 [] (by rfl) hA1.out (some ⟨b2, 0, none⟩) i i ((xs.take i).map (Value.int .i64)) w.heap.size w2.heap.size (by rfl) hT1.out (ints_oneCell _ _) (by omega) hS1.out ?_; intro A5 c5 w5 r5 g5 b5; have f5 : Below w2.heap.size w2 w5 := hB1.out.grown g5 hS1.out (fun z hz => by simp [Value.ownBlock] at hz; omega); simp only [Nat.zero_add, List.nil_append] at r5; have z5 := f5.size; have q25 : Hid ((w5.alloc (.cells #[.int .i64 (i : Int)] 2)).ownsRow w2.heap.size 2 1 (.slice A5 i c5) i ((xs.take i).map (Value.int .i64))) := Lib.hid (r5.alloc _); have n25 : Hid (∀ z v, [Value.int .i64 (i : Int)][z]? = some v → (w5.alloc (.cells #[.int .i64 (i : Int)] 2)).cell? ((⟨w5.heap.size, 0, none⟩ : Addr).add z) = some v) := Lib.hid (cell_one_new w5 _ _); have s25 : Hid (w2.heap.size ≤ (w5.alloc (.cells #[.int .i64 (i : Int)] 2)).heap.size) := Lib.hid (by simp; omega); have f25 : Hid (Below w2.heap.size w2 (w5.alloc (.cells #[.int .i64 (i : Int)] 2))) := Lib.hid (f5.alloc z5 _))
          | (refine step_appendL ((w2.alloc (.cells #[] 2)).alloc (.cells #[.int .i64 (i : Int)] 2)).drew rfl (.tmp 18) (.tmp 21) 27 rfl w2.heap.size 2 j0 (.int .i64 0) 8 Try.underlying27 hj0 hy0 hy1 hy2 rfl (by omega) (some ⟨w2.heap.size, 0, none⟩) 0 0 [] (by rfl) hA2.out (some ⟨b2, 0, none⟩) i i ((xs.take i).map (Value.int .i64)) w.heap.size w2.heap.size (by rfl) hT2.out (ints_oneCell _ _) (by omega) hS2.out ?_; intro A5 c5 w5 r5 g5 b5; have f5 : Below w2.heap.size w2 w5 := hB2.out.grown g5 hS2.out (fun z hz => by simp [Value.ownBlock] at hz; omega); simp only [Nat.zero_add, List.nil_append] at r5; have z5 := f5.size; have k5 := (g5.block (w2.heap.size + 1) (by simp <;> omega) (by simp [Value.ownBlock] <;> omega)).trans hL2.out; have q252 : Hid (w5.ownsRow w2.heap.size 2 1 (.slice A5 i c5) i ((xs.take i).map (Value.int .i64))) := Lib.hid r5; have n252 : Hid (∀ z v, [Value.int .i64 (i : Int)][z]? = some v → w5.cell? ((⟨w2.heap.size + 1, 0, none⟩ : Addr).add z) = some v) := Lib.hid (cell_one_of k5); have s252 : Hid (w2.heap.size ≤ w5.heap.size) := Lib.hid z5; have f252 : Hid (Below w2.heap.size w2 w5) := Lib.hid f5)
          | (refine step_appendL ((w2.alloc (.cells #[.int .i64 (i : Int)] 2)).alloc (.cells #[] 2)).drew rfl (.tmp 18) (.tmp 21) 27 rfl w2.heap.size 2 j0 (.int .i64 0) 8 Try.underlying27 hj0 hy0 hy1 hy2 rfl (by omega) (some ⟨w2.heap.size + 1, 0, none⟩) 0 0 [] (by rfl) hA3.out (some ⟨b2, 0, none⟩) i i ((xs.take i).map (Value.int .i64)) w.heap.size w2.heap.size (by rfl) hT3.out (ints_oneCell _ _) (by omega) hS3.out ?_; intro A5 c5 w5 r5 g5 b5; have f5 : Below w2.heap.size w2 w5 := hB3.out.grown g5 hS3.out (fun z hz => by simp [Value.ownBlock] at hz; omega); simp only [Nat.zero_add, List.nil_append] at r5; have z5 := f5.size; have k5 := (g5.block (w2.heap.size) (by simp <;> omega) (by simp [Value.ownBlock] <;> omega)).trans hL3.out; have q253 : Hid (w5.ownsRow w2.heap.size 2 1 (.slice A5 i c5) i ((xs.take i).map (Value.int .i64))) := Lib.hid r5; have n253 : Hid (∀ z v, [Value.int .i64 (i : Int)][z]? = some v → w5.cell? ((⟨w2.heap.size, 0, none⟩ : Addr).add z) = some v) := Lib.hid (cell_one_of k5); have s253 : Hid (w2.heap.size ≤ w5.heap.size) := Lib.hid z5; have f253 : Hid (Below w2.heap.size w2 w5) := Lib.hid f5)
          | (refine step_append_lies _ rfl (.tmp 22) (.tmp 24) 27 rfl w2.heap.size 2 j0 (.int .i64 0) 1 8 Try.underlying27 hj0 hy0 hy1 hy2 rfl (by decide) (.slice A5 i c5) i ((xs.take i).map (Value.int .i64)) (by simp [Act.eval]) q25.out ⟨w5.heap.size, 0, none⟩ 1 1 [.int .i64 (i : Int)] (by simp [Act.eval]) rfl n25.out (by simp [Value.oneCell']) (by decide) hml.out (by omega) s25.out _ rfl ?_; intro g6 c6 w6 r6 gg6 hor6 hlt6; have f6 : Below w2.heap.size w2 w6 := f25.out.grown gg6 s25.out (fun z hz => (r5.lt z hz).1); have d6 := hDr.out w6 f6; have z6 := f6.size)
          | (refine step_append_lies _ rfl (.tmp 22) (.tmp 24) 27 rfl w2.heap.size 2 j0 (.int .i64 0) 1 8 Try.underlying27 hj0 hy0 hy1 hy2 rfl (by decide) (.slice A5 i c5) i ((xs.take i).map (Value.int .i64)) (by simp [Act.eval]) q252.out ⟨w2.heap.size + 1, 0, none⟩ 1 1 [.int .i64 (i : Int)] (by simp [Act.eval]) rfl n252.out (by simp [Value.oneCell']) (by decide) hml.out (by omega) s252.out _ rfl ?_; intro g6 c6 w6 r6 gg6 hor6 hlt6; have f6 : Below w2.heap.size w2 w6 := f252.out.grown gg6 s252.out (fun z hz => (r5.lt z hz).1); have d6 := hDr.out w6 f6; have z6 := f6.size)
          | (refine step_append_lies _ rfl (.tmp 22) (.tmp 24) 27 rfl w2.heap.size 2 j0 (.int .i64 0) 1 8 Try.underlying27 hj0 hy0 hy1 hy2 rfl (by decide) (.slice A5 i c5) i ((xs.take i).map (Value.int .i64)) (by simp [Act.eval]) q253.out ⟨w2.heap.size, 0, none⟩ 1 1 [.int .i64 (i : Int)] (by simp [Act.eval]) rfl n253.out (by simp [Value.oneCell']) (by decide) hml.out (by omega) s253.out _ rfl ?_; intro g6 c6 w6 r6 gg6 hor6 hlt6; have f6 : Below w2.heap.size w2 w6 := f253.out.grown gg6 s253.out (fun z hz => (r5.lt z hz).1); have d6 := hDr.out w6 f6; have z6 := f6.size)
          | (refine step_appendL w6 rfl (.tmp 25) (.tmp 28) 27 rfl w2.heap.size 2 j0 (.int .i64 0) 8 Try.underlying27 hj0 hy0 hy1 hy2 rfl (by omega) (some ⟨g6, 0, none⟩) (i + 1) c6 (((xs.take i).map (Value.int .i64)) ++ [.int .i64 (i : Int)]) (by rfl) r6 (some ⟨b2, 0, none⟩) 0 0 ((xs.drop i).map (Value.int .i64)) w.heap.size w2.heap.size (by rfl) d6 (ints_oneCell _ _) (by omega) z6 ?_; intro A7 c7 w7 r7 gg7 b7))
        all_goals
          have f7 : Below w2.heap.size w2 w7 := f6.grown gg7 z6 (fun z hz => (r6.lt z hz).1)
          have z7 := f7.size
          have e7 : i + 1 + 0 = i + 1 := by omega
          rw [e7] at r7
          (try rw [e7])
          obtain ⟨g8, c8, hsl, hg8, _⟩ := slice_of_own r7 (by omega)
          injection hsl with h1 _ h3
          subst h1; subst h3
          have o7 : Own w7 w.heap.size w7.heap.size 2 (some ⟨g8, 0, none⟩) (i + 1) c7 (((xs.take i ++ [(i : Int)]) ++ xs.drop i).map (Value.int .i64)) := (Own.of_row (by rw [List.map_append, List.map_append]; exact r7)).more (by omega) (Nat.le_refl _)
          have s7 := s2.out.below f7 (by omega)
          have h7 := hch2.trans_below f7
          replace s7 := Lib.hid s7
          clear r7 gg7 r6 gg6 r5 g5 f6 d6 f5 e7
          go_wp2_with fail
          go_roundw
          case measure => simp [intOf]; omega
          case rel => exact ⟨i + 1, g8, c7, i2, _, _, by omega, by go_num, rfl, o7, hpn, s7, h7⟩
      · skip
        have hT : RI w2 w.heap.size w2.heap.size (some ⟨b2, 0, none⟩) k (xs.take k) := by simpa using ri_part ho2.ri (i := 0) (j := k) (by omega) hki (fun _ => rfl)
        have hD : RI w2 w.heap.size w2.heap.size (some ⟨b2, k, none⟩) (i - k) (xs.drop k) := by
          have h1 := ri_part ho2.ri (i := k) (j := i) hki (Nat.le_refl _) (A' := (some ⟨b2, k, none⟩)) (fun h => by first | rfl | omega)
          rw [List.take_of_length_le (by simp; have := hxl.out; omega)] at h1; simpa using h1
        have hB1 : Below w2.heap.size w2 (w2.alloc (.cells #[] 2)).drew := below_drw ((Below.refl _ _).alloc (Nat.le_refl _) _)
        have hA1 : Hid ((w2.alloc (.cells #[] 2)).ownsRow w2.heap.size 2 1 (.slice (some ⟨w2.heap.size, 0, none⟩) 0 0) 0 []) := Lib.hid (lit_own (heap_new _ _ _ rfl) (by omega))
        have hT1 : Hid (Rd (w2.alloc (.cells #[] 2)).drew w.heap.size w2.heap.size (some ⟨b2, 0, none⟩) k ((xs.take k).map (Value.int .i64))) := Lib.hid (hT.below hB1 (Nat.le_refl _))
        have hS1 : Hid (w2.heap.size ≤ (w2.alloc (.cells #[] 2)).drew.heap.size) := Lib.hid (hB1.size)
        replace hB1 := Lib.hid hB1
        have hB2 : Below w2.heap.size w2 ((w2.alloc (.cells #[] 2)).alloc (.cells #[.int .i64 (i : Int)] 2)).drew := below_drw (((Below.refl _ _).alloc (Nat.le_refl _) _).alloc (by simp) _)
        have hA2 : Hid (((w2.alloc (.cells #[] 2)).alloc (.cells #[.int .i64 (i : Int)] 2)).ownsRow w2.heap.size 2 1 (.slice (some ⟨w2.heap.size, 0, none⟩) 0 0) 0 []) := Lib.hid (lit_own ((Below.heap_alloc _ _ _ (by simp)).trans (heap_new _ _ _ rfl)) (by omega))
        have hT2 : Hid (Rd ((w2.alloc (.cells #[] 2)).alloc (.cells #[.int .i64 (i : Int)] 2)).drew w.heap.size w2.heap.size (some ⟨b2, 0, none⟩) k ((xs.take k).map (Value.int .i64))) := Lib.hid (hT.below hB2 (Nat.le_refl _))
        have hS2 : Hid (w2.heap.size ≤ ((w2.alloc (.cells #[] 2)).alloc (.cells #[.int .i64 (i : Int)] 2)).drew.heap.size) := Lib.hid (hB2.size)
        have hL2 : Hid (((w2.alloc (.cells #[] 2)).alloc (.cells #[.int .i64 (i : Int)] 2)).heap[w2.heap.size + 1]? = some (.cells #[.int .i64 (i : Int)] 2 (0, 0))) := Lib.hid (heap_new _ _ _ (by simp))
        replace hB2 := Lib.hid hB2
        have hB3 : Below w2.heap.size w2 ((w2.alloc (.cells #[.int .i64 (i : Int)] 2)).alloc (.cells #[] 2)).drew := below_drw (((Below.refl _ _).alloc (Nat.le_refl _) _).alloc (by simp) _)
        have hA3 : Hid (((w2.alloc (.cells #[.int .i64 (i : Int)] 2)).alloc (.cells #[] 2)).ownsRow w2.heap.size 2 1 (.slice (some ⟨w2.heap.size + 1, 0, none⟩) 0 0) 0 []) := Lib.hid (lit_own (heap_new _ _ _ (by simp)) (by omega))
        have hT3 : Hid (Rd ((w2.alloc (.cells #[.int .i64 (i : Int)] 2)).alloc (.cells #[] 2)).drew w.heap.size w2.heap.size (some ⟨b2, 0, none⟩) k ((xs.take k).map (Value.int .i64))) := Lib.hid (hT.below hB3 (Nat.le_refl _))
        have hS3 : Hid (w2.heap.size ≤ ((w2.alloc (.cells #[.int .i64 (i : Int)] 2)).alloc (.cells #[] 2)).drew.heap.size) := Lib.hid (hB3.size)
        have hL3 : Hid (((w2.alloc (.cells #[.int .i64 (i : Int)] 2)).alloc (.cells #[] 2)).heap[w2.heap.size]? = some (.cells #[.int .i64 (i : Int)] 2 (0, 0))) := Lib.hid ((Below.heap_alloc _ _ _ (by simp)).trans (heap_new _ _ _ rfl))
        replace hB3 := Lib.hid hB3
        have hml : Hid (k + 1 ≤ maxLen) := Lib.hid (by simp only [maxLen]; omega)
        have hDr : ∀ wq, Below w2.heap.size w2 wq → Rd wq w.heap.size w2.heap.size (some ⟨b2, k, none⟩) (i - k) ((xs.drop k).map (Value.int .i64)) := fun wq hq => hD.below hq (Nat.le_refl _)
        replace hDr := Lib.hid hDr
        clear hT hD
        have hI0 : (0 : Int) ≤ (k : Int) := by omega
        have hI1 : (k : Int) ≤ (i : Int) := by omega
        have hI2 : (k : Int) ≤ (c2 : Int) := by omega
        have hI3 : (i : Int) ≤ (c2 : Int) := by omega
        go_wp2_with fail
        go_region_law? (first
          | (refine step_appendL (w2.alloc (.cells #[] 2)).drew rfl (.tmp 18) (.tmp 21) 27 rfl w2.heap.size 2 j0 (.int .i64 0) 8 Try.underlying27 hj0 hy0 hy1 hy2 rfl (by omega) (some ⟨w2.heap.size, 0, none⟩) 0 0 [] (by rfl) hA1.out (some ⟨b2, 0, none⟩) k c2 ((xs.take k).map (Value.int .i64)) w.heap.size w2.heap.size (by rfl) hT1.out (ints_oneCell _ _) (by omega) hS1.out ?_; intro A5 c5 w5 r5 g5 b5; have f5 : Below w2.heap.size w2 w5 := hB1.out.grown g5 hS1.out (fun z hz => by simp [Value.ownBlock] at hz; omega); simp only [Nat.zero_add, List.nil_append] at r5; have z5 := f5.size; have q25 : Hid ((w5.alloc (.cells #[.int .i64 (i : Int)] 2)).ownsRow w2.heap.size 2 1 (.slice A5 k c5) k ((xs.take k).map (Value.int .i64))) := Lib.hid (r5.alloc _); have n25 : Hid (∀ z v, [Value.int .i64 (i : Int)][z]? = some v → (w5.alloc (.cells #[.int .i64 (i : Int)] 2)).cell? ((⟨w5.heap.size, 0, none⟩ : Addr).add z) = some v) := Lib.hid (cell_one_new w5 _ _); have s25 : Hid (w2.heap.size ≤ (w5.alloc (.cells #[.int .i64 (i : Int)] 2)).heap.size) := Lib.hid (by simp; omega); have f25 : Hid (Below w2.heap.size w2 (w5.alloc (.cells #[.int .i64 (i : Int)] 2))) := Lib.hid (f5.alloc z5 _))
          | (refine step_appendL ((w2.alloc (.cells #[] 2)).alloc (.cells #[.int .i64 (i : Int)] 2)).drew rfl (.tmp 18) (.tmp 21) 27 rfl w2.heap.size 2 j0 (.int .i64 0) 8 Try.underlying27 hj0 hy0 hy1 hy2 rfl (by omega) (some ⟨w2.heap.size, 0, none⟩) 0 0 [] (by rfl) hA2.out (some ⟨b2, 0, none⟩) k c2 ((xs.take k).map (Value.int .i64)) w.heap.size w2.heap.size (by rfl) hT2.out (ints_oneCell _ _) (by omega) hS2.out ?_; intro A5 c5 w5 r5 g5 b5; have f5 : Below w2.heap.size w2 w5 := hB2.out.grown g5 hS2.out (fun z hz => by simp [Value.ownBlock] at hz; omega); simp only [Nat.zero_add, List.nil_append] at r5; have z5 := f5.size; have k5 := (g5.block (w2.heap.size + 1) (by simp <;> omega) (by simp [Value.ownBlock] <;> omega)).trans hL2.out; have q252 : Hid (w5.ownsRow w2.heap.size 2 1 (.slice A5 k c5) k ((xs.take k).map (Value.int .i64))) := Lib.hid r5; have n252 : Hid (∀ z v, [Value.int .i64 (i : Int)][z]? = some v → w5.cell? ((⟨w2.heap.size + 1, 0, none⟩ : Addr).add z) = some v) := Lib.hid (cell_one_of k5); have s252 : Hid (w2.heap.size ≤ w5.heap.size) := Lib.hid z5; have f252 : Hid (Below w2.heap.size w2 w5) := Lib.hid f5)
          | (refine step_appendL ((w2.alloc (.cells #[.int .i64 (i : Int)] 2)).alloc (.cells #[] 2)).drew rfl (.tmp 18) (.tmp 21) 27 rfl w2.heap.size 2 j0 (.int .i64 0) 8 Try.underlying27 hj0 hy0 hy1 hy2 rfl (by omega) (some ⟨w2.heap.size + 1, 0, none⟩) 0 0 [] (by rfl) hA3.out (some ⟨b2, 0, none⟩) k c2 ((xs.take k).map (Value.int .i64)) w.heap.size w2.heap.size (by rfl) hT3.out (ints_oneCell _ _) (by omega) hS3.out ?_; intro A5 c5 w5 r5 g5 b5; have f5 : Below w2.heap.size w2 w5 := hB3.out.grown g5 hS3.out (fun z hz => by simp [Value.ownBlock] at hz; omega); simp only [Nat.zero_add, List.nil_append] at r5; have z5 := f5.size; have k5 := (g5.block (w2.heap.size) (by simp <;> omega) (by simp [Value.ownBlock] <;> omega)).trans hL3.out; have q253 : Hid (w5.ownsRow w2.heap.size 2 1 (.slice A5 k c5) k ((xs.take k).map (Value.int .i64))) := Lib.hid r5; have n253 : Hid (∀ z v, [Value.int .i64 (i : Int)][z]? = some v → w5.cell? ((⟨w2.heap.size, 0, none⟩ : Addr).add z) = some v) := Lib.hid (cell_one_of k5); have s253 : Hid (w2.heap.size ≤ w5.heap.size) := Lib.hid z5; have f253 : Hid (Below w2.heap.size w2 w5) := Lib.hid f5)
          | (refine step_append_lies _ rfl (.tmp 22) (.tmp 24) 27 rfl w2.heap.size 2 j0 (.int .i64 0) 1 8 Try.underlying27 hj0 hy0 hy1 hy2 rfl (by decide) (.slice A5 k c5) k ((xs.take k).map (Value.int .i64)) (by simp [Act.eval]) q25.out ⟨w5.heap.size, 0, none⟩ 1 1 [.int .i64 (i : Int)] (by simp [Act.eval]) rfl n25.out (by simp [Value.oneCell']) (by decide) hml.out (by omega) s25.out _ rfl ?_; intro g6 c6 w6 r6 gg6 hor6 hlt6; have f6 : Below w2.heap.size w2 w6 := f25.out.grown gg6 s25.out (fun z hz => (r5.lt z hz).1); have d6 := hDr.out w6 f6; have z6 := f6.size)
          | (refine step_append_lies _ rfl (.tmp 22) (.tmp 24) 27 rfl w2.heap.size 2 j0 (.int .i64 0) 1 8 Try.underlying27 hj0 hy0 hy1 hy2 rfl (by decide) (.slice A5 k c5) k ((xs.take k).map (Value.int .i64)) (by simp [Act.eval]) q252.out ⟨w2.heap.size + 1, 0, none⟩ 1 1 [.int .i64 (i : Int)] (by simp [Act.eval]) rfl n252.out (by simp [Value.oneCell']) (by decide) hml.out (by omega) s252.out _ rfl ?_; intro g6 c6 w6 r6 gg6 hor6 hlt6; have f6 : Below w2.heap.size w2 w6 := f252.out.grown gg6 s252.out (fun z hz => (r5.lt z hz).1); have d6 := hDr.out w6 f6; have z6 := f6.size)
          | (refine step_append_lies _ rfl (.tmp 22) (.tmp 24) 27 rfl w2.heap.size 2 j0 (.int .i64 0) 1 8 Try.underlying27 hj0 hy0 hy1 hy2 rfl (by decide) (.slice A5 k c5) k ((xs.take k).map (Value.int .i64)) (by simp [Act.eval]) q253.out ⟨w2.heap.size, 0, none⟩ 1 1 [.int .i64 (i : Int)] (by simp [Act.eval]) rfl n253.out (by simp [Value.oneCell']) (by decide) hml.out (by omega) s253.out _ rfl ?_; intro g6 c6 w6 r6 gg6 hor6 hlt6; have f6 : Below w2.heap.size w2 w6 := f253.out.grown gg6 s253.out (fun z hz => (r5.lt z hz).1); have d6 := hDr.out w6 f6; have z6 := f6.size)
          | (refine step_appendL w6 rfl (.tmp 25) (.tmp 28) 27 rfl w2.heap.size 2 j0 (.int .i64 0) 8 Try.underlying27 hj0 hy0 hy1 hy2 rfl (by omega) (some ⟨g6, 0, none⟩) (k + 1) c6 (((xs.take k).map (Value.int .i64)) ++ [.int .i64 (i : Int)]) (by rfl) r6 (some ⟨b2, k, none⟩) (i - k) (c2 - k) ((xs.drop k).map (Value.int .i64)) w.heap.size w2.heap.size (by rfl) d6 (ints_oneCell _ _) (by omega) z6 ?_; intro A7 c7 w7 r7 gg7 b7))
        all_goals
          have f7 : Below w2.heap.size w2 w7 := f6.grown gg7 z6 (fun z hz => (r6.lt z hz).1)
          have z7 := f7.size
          have e7 : k + 1 + (i - k) = i + 1 := by omega
          rw [e7] at r7
          (try rw [e7])
          obtain ⟨g8, c8, hsl, hg8, _⟩ := slice_of_own r7 (by omega)
          injection hsl with h1 _ h3
          subst h1; subst h3
          have o7 : Own w7 w.heap.size w7.heap.size 2 (some ⟨g8, 0, none⟩) (i + 1) c7 (((xs.take k ++ [(i : Int)]) ++ xs.drop k).map (Value.int .i64)) := (Own.of_row (by rw [List.map_append, List.map_append]; exact r7)).more (by omega) (Nat.le_refl _)
          have s7 := s2.out.below f7 (by omega)
          have h7 := hch2.trans_below f7
          replace s7 := Lib.hid s7
          clear r7 gg7 r6 gg6 r5 g5 f6 d6 f5 e7
          go_wp2_with fail
          go_roundw
          case measure => simp [intOf]; omega
          case rel => exact ⟨i + 1, g8, c7, i2, _, _, by omega, by go_num, rfl, o7, hpn, s7, h7⟩
      --END
    · have hiN : i = N := by omega
      subst hiN
      go_wp2_with fail
      go_ret
      exact ⟨some ⟨b2, 0, none⟩, c2, rfl, i', h', xs, ho, hpm.out, hs.out, hch⟩
end Go.Proofs.Ytdaljeghdiknpaa
