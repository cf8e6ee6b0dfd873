/- Merged texts, part 3: walks and plain lemmas of the functions that the statements reach (Prm .. Dra). No condition but those that each lemma names. -/
import Derived.Deep.Cut
import Derived.Deep.CutRange
import Derived.Deep.CutBlock
import Derived.Test.YtdaljeghdiknpaaGb
/- Prm -/
namespace Go.Proofs.Ytdaljeghdiknpaa
open Go.RowKit
set_option linter.unusedVariables false
set_option maxRecDepth 100000
theorem below_drw {B : Nat} {a w : World} (h : Below B a w) : Below B a w.drew := ⟨h.os, h.tape, h.output, h.size, h.block⟩
theorem ins_perm {l : List Int} {i k : Nat} (h : l.Perm (idL i)) (hk : k ≤ i) : ((l.take k ++ [(i : Int)]) ++ l.drop k).Perm (idL (i + 1)) := by
  have e : idL (i + 1) = idL i ++ [(i : Int)] := by unfold idL; rw [List.range_succ, List.map_append]; rfl
  rw [e, List.append_assoc]
  have h1 : (l.take k ++ ([(i : Int)] ++ l.drop k)).Perm (l.take k ++ (l.drop k ++ [(i : Int)])) := List.Perm.append_left _ List.perm_append_comm
  refine h1.trans ?_
  rw [← List.append_assoc, List.take_append_drop]
  exact h.append_right _
theorem ri_part {w : World} {lo hi n b : Nat} {xs : List Int} (h : RI w lo hi (some ⟨b, 0, none⟩) n xs) {i j : Nat} (hij : i ≤ j) (hj : j ≤ n) {A' : Option Addr} (hA : i < j → A' = some ⟨b, i, none⟩) : RI w lo hi A' (j - i) ((xs.drop i).take (j - i)) := by
  refine ⟨by have := h.1; simp at this ⊢; omega, by have := h.2.1; omega, fun hn => ?_⟩
  obtain ⟨b', o', e, h1, h2, hc⟩ := h.2.2 (by omega)
  injection e with e
  injection e with e1 e2 _
  subst e1; subst e2
  refine ⟨b, i, hA (by omega), h1, h2, fun k v hv => ?_⟩
  have hk := (List.getElem?_eq_some_iff.1 hv).1
  simp at hk
  rw [List.getElem?_map, List.getElem?_take_of_lt (by omega), List.getElem?_drop] at hv
  have := hc (i + k) v (by rw [List.getElem?_map]; exact hv)
  simpa using this
theorem cell_one_of {w : World} {b : Nat} {u : Value} {T : TypeId} (h : w.heap[b]? = some (.cells #[u] T (0, 0))) : ∀ z v, [u][z]? = some v → w.cell? ((⟨b, 0, none⟩ : Addr).add z) = some v := by
  intro z v hv
  have hz : z = 0 := by have := (List.getElem?_eq_some_iff.1 hv).1; simp at this; omega
  subst hz
  simp at hv
  subst hv
  rw [Addr.add_lit, cell_of_row _ _ _ _ _ _ h]
  rfl
theorem lit_own {w : World} {lo z : Nat} {T : TypeId} (h : w.heap[z]? = some (.cells #[] T (0, 0))) (hz : lo ≤ z) : w.ownsRow lo T 1 (.slice (some ⟨z, 0, none⟩) 0 0) 0 [] := blk_own (vs := []) h rfl hz (by simp)
set_option maxHeartbeats 8000000 in
theorem perm5_any (w : World) (lo g : Nat) (A : Option Addr) (n c : Nat) (bs : List Int) (i0 h0 : Nat) (s : Src w lo g 79 A n c bs i0 h0) (N : Nat) (hN : N ≤ 1048576) :
    Calls Try.prog 41 #[.pointer (some ⟨g, 0, none⟩), .int .i64 (N : Int)] w fun e w' => ∃ (A1 : Option Addr) (c1 : Nat), e = .returned (.slice A1 N c1) ∧ DrawnP w w' lo g 79 2 A n c bs A1 N c1 := by
  obtain ⟨j0, hj0, hy0, hy1, hy2⟩ := info_parts infoI
  have hgl := s.lt
  have hlit := own_lit0 w 2 (Nat.le_refl _)
  have s1 : Src (w.alloc (.cells #[] 2)) lo g 79 A n c bs i0 h0 := s.below ((Below.refl _ _).alloc (Nat.le_refl _) _) hgl
  replace s1 := Lib.hid s1
  clear s
  go_enter Try.func41, Try.ntmps41
  go_wp2_with fail
  go_loopw [5, 6] (fun lv iv wq => ∃ (i b2 c2 i' h' : Nat) (xs : List Int), i ≤ N ∧ iv = .int .i64 i ∧ lv = .slice (some ⟨b2, 0, none⟩) i c2 ∧ Own wq w.heap.size wq.heap.size 2 (some ⟨b2, 0, none⟩) i c2 (xs.map (Value.int .i64)) ∧ Hid (xs.Perm (idL i)) ∧ Hid (Src wq lo g 79 A n c bs i' h') ∧ Chg g (g + 1) w wq) (fun _ iv _ => N - (intOf iv).toNat)
  case atStart => exact ⟨0, w.heap.size, 0, i0, h0, [], by omega, rfl, rfl, by simpa using hlit, Lib.hid (by simp [idL]), s1, (Chg.refl _ _ _).alloc _⟩
  case round =>
    clear hlit s1
    obtain ⟨i, b2, c2, i', h', xs, hi, rfl, rfl, ho, hpm, hs, hch⟩ := hrel
    have hzz := hch.size
    by_cases hlt : i < N
    · have hb := below_any wr lo g A n c bs i' h' hs.out ((i : Int) + 1) (by omega) (by omega)
      have hw1 : IntKind.i64.wrap ((i : Int) + 1) = (i : Int) + 1 := by rw [IntKind.wrap_i64]; omega
      replace hb := Lib.hid hb
      go_wp2_with fail
      ((with_reducible refine hb.out.mono ?_); rintro e w2 ⟨v, i2, rfl, np⟩)
      clear hb hw1
      obtain ⟨v0, v1⟩ : 0 ≤ v ∧ v < (i : Int) + 1 := ⟨np.ge, np.lt⟩
      obtain ⟨k, rfl⟩ : ∃ z : Nat, v = z := ⟨v.toNat, by omega⟩
      have hki : k ≤ i := by omega
      have hsz := np.size
      have s2 := np.src
      have hch2 : Chg g (g + 1) w w2 := hch.trans np.chg ⟨Nat.le_refl _, Nat.le_refl _⟩ ⟨Nat.le_refl _, Nat.le_refl _⟩
      have ho2 : Own w2 w.heap.size w2.heap.size 2 (some ⟨b2, 0, none⟩) i c2 (xs.map (Value.int .i64)) := (ho.keep (Same.of_chg np.chg (Nat.le_refl _) (.inr (by omega)))).more (Nat.le_refl _) (by omega)
      have hxl := ho2.lenI
      have hcap : i ≤ c2 := ho2.cap
      have hpn := ins_perm hpm.out hki
      have hwz : w.heap.size ≤ w2.heap.size := by omega
      clear np hch ho hs hsz hpm hzz
      replace s2 := Lib.hid s2
      replace hpn := Lib.hid hpn
      replace hxl := Lib.hid hxl
      --REGION
      by_cases hkc : c2 = k
      · obtain rfl : i = k := by omega
        obtain rfl : i = c2 := hkc.symm
        have hT : RI w2 w.heap.size w2.heap.size (some ⟨b2, 0, none⟩) i (xs.take i) := by simpa using ri_part ho2.ri (i := 0) (j := i) (by omega) hki (fun _ => rfl)
        have hD : RI w2 w.heap.size w2.heap.size (some ⟨b2, 0, none⟩) 0 (xs.drop i) := by
          have h1 := ri_part ho2.ri (i := i) (j := i) hki (Nat.le_refl _) (A' := (some ⟨b2, 0, none⟩)) (fun h => by first | rfl | omega)
          rw [List.take_of_length_le (by simp; have := hxl.out; omega)] at h1; simpa using h1
        have hB1 : Below w2.heap.size w2 (w2.alloc (.cells #[] 2)).drew := below_drw ((Below.refl _ _).alloc (Nat.le_refl _) _)
        have hA1 : Hid ((w2.alloc (.cells #[] 2)).ownsRow w2.heap.size 2 1 (.slice (some ⟨w2.heap.size, 0, none⟩) 0 0) 0 []) := Lib.hid (lit_own (heap_new _ _ _ rfl) (by omega))
        have hT1 : Hid (Rd (w2.alloc (.cells #[] 2)).drew w.heap.size w2.heap.size (some ⟨b2, 0, none⟩) i ((xs.take i).map (Value.int .i64))) := Lib.hid (hT.below hB1 (Nat.le_refl _))
        have hS1 : Hid (w2.heap.size ≤ (w2.alloc (.cells #[] 2)).drew.heap.size) := Lib.hid (hB1.size)
        replace hB1 := Lib.hid hB1
        have hB2 : Below w2.heap.size w2 ((w2.alloc (.cells #[] 2)).alloc (.cells #[.int .i64 (i : Int)] 2)).drew := below_drw (((Below.refl _ _).alloc (Nat.le_refl _) _).alloc (by simp) _)
        have hA2 : Hid (((w2.alloc (.cells #[] 2)).alloc (.cells #[.int .i64 (i : Int)] 2)).ownsRow w2.heap.size 2 1 (.slice (some ⟨w2.heap.size, 0, none⟩) 0 0) 0 []) := Lib.hid (lit_own ((Below.heap_alloc _ _ _ (by simp)).trans (heap_new _ _ _ rfl)) (by omega))
        have hT2 : Hid (Rd ((w2.alloc (.cells #[] 2)).alloc (.cells #[.int .i64 (i : Int)] 2)).drew w.heap.size w2.heap.size (some ⟨b2, 0, none⟩) i ((xs.take i).map (Value.int .i64))) := Lib.hid (hT.below hB2 (Nat.le_refl _))
        have hS2 : Hid (w2.heap.size ≤ ((w2.alloc (.cells #[] 2)).alloc (.cells #[.int .i64 (i : Int)] 2)).drew.heap.size) := Lib.hid (hB2.size)
        have hL2 : Hid (((w2.alloc (.cells #[] 2)).alloc (.cells #[.int .i64 (i : Int)] 2)).heap[w2.heap.size + 1]? = some (.cells #[.int .i64 (i : Int)] 2 (0, 0))) := Lib.hid (heap_new _ _ _ (by simp))
        replace hB2 := Lib.hid hB2
        have hB3 : Below w2.heap.size w2 ((w2.alloc (.cells #[.int .i64 (i : Int)] 2)).alloc (.cells #[] 2)).drew := below_drw (((Below.refl _ _).alloc (Nat.le_refl _) _).alloc (by simp) _)
        have hA3 : Hid (((w2.alloc (.cells #[.int .i64 (i : Int)] 2)).alloc (.cells #[] 2)).ownsRow w2.heap.size 2 1 (.slice (some ⟨w2.heap.size + 1, 0, none⟩) 0 0) 0 []) := Lib.hid (lit_own (heap_new _ _ _ (by simp)) (by omega))
        have hT3 : Hid (Rd ((w2.alloc (.cells #[.int .i64 (i : Int)] 2)).alloc (.cells #[] 2)).drew w.heap.size w2.heap.size (some ⟨b2, 0, none⟩) i ((xs.take i).map (Value.int .i64))) := Lib.hid (hT.below hB3 (Nat.le_refl _))
        have hS3 : Hid (w2.heap.size ≤ ((w2.alloc (.cells #[.int .i64 (i : Int)] 2)).alloc (.cells #[] 2)).drew.heap.size) := Lib.hid (hB3.size)
        have hL3 : Hid (((w2.alloc (.cells #[.int .i64 (i : Int)] 2)).alloc (.cells #[] 2)).heap[w2.heap.size]? = some (.cells #[.int .i64 (i : Int)] 2 (0, 0))) := Lib.hid ((Below.heap_alloc _ _ _ (by simp)).trans (heap_new _ _ _ rfl))
        replace hB3 := Lib.hid hB3
        have hml : Hid (i + 1 ≤ maxLen) := Lib.hid (by simp only [maxLen]; omega)
        have hDr : ∀ wq, Below w2.heap.size w2 wq → Rd wq w.heap.size w2.heap.size (some ⟨b2, 0, none⟩) 0 ((xs.drop i).map (Value.int .i64)) := fun wq hq => hD.below hq (Nat.le_refl _)
        replace hDr := Lib.hid hDr
        clear hT hD
        have hI0 : (0 : Int) ≤ (i : Int) := by omega
        have hI1 : (i : Int) ≤ (i : Int) := by omega
        have hI2 : (i : Int) ≤ (i : Int) := by omega
        have hI3 : (i : Int) ≤ (i : Int) := by omega
        go_wp2_with fail
        go_region_law? (first
          | (refine step_appendL (w2.alloc (.cells #[] 2)).drew rfl (.tmp 18) (.tmp 21) 27 rfl w2.heap.size 2 j0 (.int .i64 0) 8 Try.underlying27 hj0 hy0 hy1 hy2 rfl (by omega) (some ⟨w2.heap.size, 0, none⟩) 0 0 [] (by rfl) hA1.out (some ⟨b2, 0, none⟩) i i ((xs.take i).map (Value.int .i64)) w.heap.size w2.heap.size (by rfl) hT1.out (ints_oneCell _ _) (by omega) hS1.out ?_; intro A5 c5 w5 r5 g5 b5; have f5 : Below w2.heap.size w2 w5 := hB1.out.grown g5 hS1.out (fun z hz => by simp [Value.ownBlock] at hz; omega); simp only [Nat.zero_add, List.nil_append] at r5; have z5 := f5.size; have q25 : Hid ((w5.alloc (.cells #[.int .i64 (i : Int)] 2)).ownsRow w2.heap.size 2 1 (.slice A5 i c5) i ((xs.take i).map (Value.int .i64))) := Lib.hid (r5.alloc _); have n25 : Hid (∀ z v, [Value.int .i64 (i : Int)][z]? = some v → (w5.alloc (.cells #[.int .i64 (i : Int)] 2)).cell? ((⟨w5.heap.size, 0, none⟩ : Addr).add z) = some v) := Lib.hid (cell_one_new w5 _ _); have s25 : Hid (w2.heap.size ≤ (w5.alloc (.cells #[.int .i64 (i : Int)] 2)).heap.size) := Lib.hid (by simp; omega); have f25 : Hid (Below w2.heap.size w2 (w5.alloc (.cells #[.int .i64 (i : Int)] 2))) := Lib.hid (f5.alloc z5 _))
          | (refine step_appendL ((w2.alloc (.cells #[] 2)).alloc (.cells #[.int .i64 (i : Int)] 2)).drew rfl (.tmp 18) (.tmp 21) 27 rfl w2.heap.size 2 j0 (.int .i64 0) 8 Try.underlying27 hj0 hy0 hy1 hy2 rfl (by omega) (some ⟨w2.heap.size, 0, none⟩) 0 0 [] (by rfl) hA2.out (some ⟨b2, 0, none⟩) i i ((xs.take i).map (Value.int .i64)) w.heap.size w2.heap.size (by rfl) hT2.out (ints_oneCell _ _) (by omega) hS2.out ?_; intro A5 c5 w5 r5 g5 b5; have f5 : Below w2.heap.size w2 w5 := hB2.out.grown g5 hS2.out (fun z hz => by simp [Value.ownBlock] at hz; omega); simp only [Nat.zero_add, List.nil_append] at r5; have z5 := f5.size; have k5 := (g5.block (w2.heap.size + 1) (by simp <;> omega) (by simp [Value.ownBlock] <;> omega)).trans hL2.out; have q252 : Hid (w5.ownsRow w2.heap.size 2 1 (.slice A5 i c5) i ((xs.take i).map (Value.int .i64))) := Lib.hid r5; have n252 : Hid (∀ z v, [Value.int .i64 (i : Int)][z]? = some v → w5.cell? ((⟨w2.heap.size + 1, 0, none⟩ : Addr).add z) = some v) := Lib.hid (cell_one_of k5); have s252 : Hid (w2.heap.size ≤ w5.heap.size) := Lib.hid z5; have f252 : Hid (Below w2.heap.size w2 w5) := Lib.hid f5)
          | (refine step_appendL ((w2.alloc (.cells #[.int .i64 (i : Int)] 2)).alloc (.cells #[] 2)).drew rfl (.tmp 18) (.tmp 21) 27 rfl w2.heap.size 2 j0 (.int .i64 0) 8 Try.underlying27 hj0 hy0 hy1 hy2 rfl (by omega) (some ⟨w2.heap.size + 1, 0, none⟩) 0 0 [] (by rfl) hA3.out (some ⟨b2, 0, none⟩) i i ((xs.take i).map (Value.int .i64)) w.heap.size w2.heap.size (by rfl) hT3.out (ints_oneCell _ _) (by omega) hS3.out ?_; intro A5 c5 w5 r5 g5 b5; have f5 : Below w2.heap.size w2 w5 := hB3.out.grown g5 hS3.out (fun z hz => by simp [Value.ownBlock] at hz; omega); simp only [Nat.zero_add, List.nil_append] at r5; have z5 := f5.size; have k5 := (g5.block (w2.heap.size) (by simp <;> omega) (by simp [Value.ownBlock] <;> omega)).trans hL3.out; have q253 : Hid (w5.ownsRow w2.heap.size 2 1 (.slice A5 i c5) i ((xs.take i).map (Value.int .i64))) := Lib.hid r5; have n253 : Hid (∀ z v, [Value.int .i64 (i : Int)][z]? = some v → w5.cell? ((⟨w2.heap.size, 0, none⟩ : Addr).add z) = some v) := Lib.hid (cell_one_of k5); have s253 : Hid (w2.heap.size ≤ w5.heap.size) := Lib.hid z5; have f253 : Hid (Below w2.heap.size w2 w5) := Lib.hid f5)
          | (refine step_append_lies _ rfl (.tmp 22) (.tmp 24) 27 rfl w2.heap.size 2 j0 (.int .i64 0) 1 8 Try.underlying27 hj0 hy0 hy1 hy2 rfl (by decide) (.slice A5 i c5) i ((xs.take i).map (Value.int .i64)) (by simp [Act.eval]) q25.out ⟨w5.heap.size, 0, none⟩ 1 1 [.int .i64 (i : Int)] (by simp [Act.eval]) rfl n25.out (by simp [Value.oneCell']) (by decide) hml.out (by omega) s25.out _ rfl ?_; intro g6 c6 w6 r6 gg6 hor6 hlt6; have f6 : Below w2.heap.size w2 w6 := f25.out.grown gg6 s25.out (fun z hz => (r5.lt z hz).1); have d6 := hDr.out w6 f6; have z6 := f6.size)
          | (refine step_append_lies _ rfl (.tmp 22) (.tmp 24) 27 rfl w2.heap.size 2 j0 (.int .i64 0) 1 8 Try.underlying27 hj0 hy0 hy1 hy2 rfl (by decide) (.slice A5 i c5) i ((xs.take i).map (Value.int .i64)) (by simp [Act.eval]) q252.out ⟨w2.heap.size + 1, 0, none⟩ 1 1 [.int .i64 (i : Int)] (by simp [Act.eval]) rfl n252.out (by simp [Value.oneCell']) (by decide) hml.out (by omega) s252.out _ rfl ?_; intro g6 c6 w6 r6 gg6 hor6 hlt6; have f6 : Below w2.heap.size w2 w6 := f252.out.grown gg6 s252.out (fun z hz => (r5.lt z hz).1); have d6 := hDr.out w6 f6; have z6 := f6.size)
          | (refine step_append_lies _ rfl (.tmp 22) (.tmp 24) 27 rfl w2.heap.size 2 j0 (.int .i64 0) 1 8 Try.underlying27 hj0 hy0 hy1 hy2 rfl (by decide) (.slice A5 i c5) i ((xs.take i).map (Value.int .i64)) (by simp [Act.eval]) q253.out ⟨w2.heap.size, 0, none⟩ 1 1 [.int .i64 (i : Int)] (by simp [Act.eval]) rfl n253.out (by simp [Value.oneCell']) (by decide) hml.out (by omega) s253.out _ rfl ?_; intro g6 c6 w6 r6 gg6 hor6 hlt6; have f6 : Below w2.heap.size w2 w6 := f253.out.grown gg6 s253.out (fun z hz => (r5.lt z hz).1); have d6 := hDr.out w6 f6; have z6 := f6.size)
          | (refine step_appendL w6 rfl (.tmp 25) (.tmp 28) 27 rfl w2.heap.size 2 j0 (.int .i64 0) 8 Try.underlying27 hj0 hy0 hy1 hy2 rfl (by omega) (some ⟨g6, 0, none⟩) (i + 1) c6 (((xs.take i).map (Value.int .i64)) ++ [.int .i64 (i : Int)]) (by rfl) r6 (some ⟨b2, 0, none⟩) 0 0 ((xs.drop i).map (Value.int .i64)) w.heap.size w2.heap.size (by rfl) d6 (ints_oneCell _ _) (by omega) z6 ?_; intro A7 c7 w7 r7 gg7 b7))
        all_goals
          have f7 : Below w2.heap.size w2 w7 := f6.grown gg7 z6 (fun z hz => (r6.lt z hz).1)
          have z7 := f7.size
          have e7 : i + 1 + 0 = i + 1 := by omega
          rw [e7] at r7
          (try rw [e7])
          obtain ⟨g8, c8, hsl, hg8, _⟩ := slice_of_own r7 (by omega)
          injection hsl with h1 _ h3
          subst h1; subst h3
          have o7 : Own w7 w.heap.size w7.heap.size 2 (some ⟨g8, 0, none⟩) (i + 1) c7 (((xs.take i ++ [(i : Int)]) ++ xs.drop i).map (Value.int .i64)) := (Own.of_row (by rw [List.map_append, List.map_append]; exact r7)).more (by omega) (Nat.le_refl _)
          have s7 := s2.out.below f7 (by omega)
          have h7 := hch2.trans_below f7
          replace s7 := Lib.hid s7
          clear r7 gg7 r6 gg6 r5 g5 f6 d6 f5 e7
          go_wp2_with fail
          go_roundw
          case measure => simp [intOf]; omega
          case rel => exact ⟨i + 1, g8, c7, i2, _, _, by omega, by go_num, rfl, o7, hpn, s7, h7⟩
      · skip
        have hT : RI w2 w.heap.size w2.heap.size (some ⟨b2, 0, none⟩) k (xs.take k) := by simpa using ri_part ho2.ri (i := 0) (j := k) (by omega) hki (fun _ => rfl)
        have hD : RI w2 w.heap.size w2.heap.size (some ⟨b2, k, none⟩) (i - k) (xs.drop k) := by
          have h1 := ri_part ho2.ri (i := k) (j := i) hki (Nat.le_refl _) (A' := (some ⟨b2, k, none⟩)) (fun h => by first | rfl | omega)
          rw [List.take_of_length_le (by simp; have := hxl.out; omega)] at h1; simpa using h1
        have hB1 : Below w2.heap.size w2 (w2.alloc (.cells #[] 2)).drew := below_drw ((Below.refl _ _).alloc (Nat.le_refl _) _)
        have hA1 : Hid ((w2.alloc (.cells #[] 2)).ownsRow w2.heap.size 2 1 (.slice (some ⟨w2.heap.size, 0, none⟩) 0 0) 0 []) := Lib.hid (lit_own (heap_new _ _ _ rfl) (by omega))
        have hT1 : Hid (Rd (w2.alloc (.cells #[] 2)).drew w.heap.size w2.heap.size (some ⟨b2, 0, none⟩) k ((xs.take k).map (Value.int .i64))) := Lib.hid (hT.below hB1 (Nat.le_refl _))
        have hS1 : Hid (w2.heap.size ≤ (w2.alloc (.cells #[] 2)).drew.heap.size) := Lib.hid (hB1.size)
        replace hB1 := Lib.hid hB1
        have hB2 : Below w2.heap.size w2 ((w2.alloc (.cells #[] 2)).alloc (.cells #[.int .i64 (i : Int)] 2)).drew := below_drw (((Below.refl _ _).alloc (Nat.le_refl _) _).alloc (by simp) _)
        have hA2 : Hid (((w2.alloc (.cells #[] 2)).alloc (.cells #[.int .i64 (i : Int)] 2)).ownsRow w2.heap.size 2 1 (.slice (some ⟨w2.heap.size, 0, none⟩) 0 0) 0 []) := Lib.hid (lit_own ((Below.heap_alloc _ _ _ (by simp)).trans (heap_new _ _ _ rfl)) (by omega))
        have hT2 : Hid (Rd ((w2.alloc (.cells #[] 2)).alloc (.cells #[.int .i64 (i : Int)] 2)).drew w.heap.size w2.heap.size (some ⟨b2, 0, none⟩) k ((xs.take k).map (Value.int .i64))) := Lib.hid (hT.below hB2 (Nat.le_refl _))
        have hS2 : Hid (w2.heap.size ≤ ((w2.alloc (.cells #[] 2)).alloc (.cells #[.int .i64 (i : Int)] 2)).drew.heap.size) := Lib.hid (hB2.size)
        have hL2 : Hid (((w2.alloc (.cells #[] 2)).alloc (.cells #[.int .i64 (i : Int)] 2)).heap[w2.heap.size + 1]? = some (.cells #[.int .i64 (i : Int)] 2 (0, 0))) := Lib.hid (heap_new _ _ _ (by simp))
        replace hB2 := Lib.hid hB2
        have hB3 : Below w2.heap.size w2 ((w2.alloc (.cells #[.int .i64 (i : Int)] 2)).alloc (.cells #[] 2)).drew := below_drw (((Below.refl _ _).alloc (Nat.le_refl _) _).alloc (by simp) _)
        have hA3 : Hid (((w2.alloc (.cells #[.int .i64 (i : Int)] 2)).alloc (.cells #[] 2)).ownsRow w2.heap.size 2 1 (.slice (some ⟨w2.heap.size + 1, 0, none⟩) 0 0) 0 []) := Lib.hid (lit_own (heap_new _ _ _ (by simp)) (by omega))
        have hT3 : Hid (Rd ((w2.alloc (.cells #[.int .i64 (i : Int)] 2)).alloc (.cells #[] 2)).drew w.heap.size w2.heap.size (some ⟨b2, 0, none⟩) k ((xs.take k).map (Value.int .i64))) := Lib.hid (hT.below hB3 (Nat.le_refl _))
        have hS3 : Hid (w2.heap.size ≤ ((w2.alloc (.cells #[.int .i64 (i : Int)] 2)).alloc (.cells #[] 2)).drew.heap.size) := Lib.hid (hB3.size)
        have hL3 : Hid (((w2.alloc (.cells #[.int .i64 (i : Int)] 2)).alloc (.cells #[] 2)).heap[w2.heap.size]? = some (.cells #[.int .i64 (i : Int)] 2 (0, 0))) := Lib.hid ((Below.heap_alloc _ _ _ (by simp)).trans (heap_new _ _ _ rfl))
        replace hB3 := Lib.hid hB3
        have hml : Hid (k + 1 ≤ maxLen) := Lib.hid (by simp only [maxLen]; omega)
        have hDr : ∀ wq, Below w2.heap.size w2 wq → Rd wq w.heap.size w2.heap.size (some ⟨b2, k, none⟩) (i - k) ((xs.drop k).map (Value.int .i64)) := fun wq hq => hD.below hq (Nat.le_refl _)
        replace hDr := Lib.hid hDr
        clear hT hD
        have hI0 : (0 : Int) ≤ (k : Int) := by omega
        have hI1 : (k : Int) ≤ (i : Int) := by omega
        have hI2 : (k : Int) ≤ (c2 : Int) := by omega
        have hI3 : (i : Int) ≤ (c2 : Int) := by omega
        go_wp2_with fail
        go_region_law? (first
          | (refine step_appendL (w2.alloc (.cells #[] 2)).drew rfl (.tmp 18) (.tmp 21) 27 rfl w2.heap.size 2 j0 (.int .i64 0) 8 Try.underlying27 hj0 hy0 hy1 hy2 rfl (by omega) (some ⟨w2.heap.size, 0, none⟩) 0 0 [] (by rfl) hA1.out (some ⟨b2, 0, none⟩) k c2 ((xs.take k).map (Value.int .i64)) w.heap.size w2.heap.size (by rfl) hT1.out (ints_oneCell _ _) (by omega) hS1.out ?_; intro A5 c5 w5 r5 g5 b5; have f5 : Below w2.heap.size w2 w5 := hB1.out.grown g5 hS1.out (fun z hz => by simp [Value.ownBlock] at hz; omega); simp only [Nat.zero_add, List.nil_append] at r5; have z5 := f5.size; have q25 : Hid ((w5.alloc (.cells #[.int .i64 (i : Int)] 2)).ownsRow w2.heap.size 2 1 (.slice A5 k c5) k ((xs.take k).map (Value.int .i64))) := Lib.hid (r5.alloc _); have n25 : Hid (∀ z v, [Value.int .i64 (i : Int)][z]? = some v → (w5.alloc (.cells #[.int .i64 (i : Int)] 2)).cell? ((⟨w5.heap.size, 0, none⟩ : Addr).add z) = some v) := Lib.hid (cell_one_new w5 _ _); have s25 : Hid (w2.heap.size ≤ (w5.alloc (.cells #[.int .i64 (i : Int)] 2)).heap.size) := Lib.hid (by simp; omega); have f25 : Hid (Below w2.heap.size w2 (w5.alloc (.cells #[.int .i64 (i : Int)] 2))) := Lib.hid (f5.alloc z5 _))
          | (refine step_appendL ((w2.alloc (.cells #[] 2)).alloc (.cells #[.int .i64 (i : Int)] 2)).drew rfl (.tmp 18) (.tmp 21) 27 rfl w2.heap.size 2 j0 (.int .i64 0) 8 Try.underlying27 hj0 hy0 hy1 hy2 rfl (by omega) (some ⟨w2.heap.size, 0, none⟩) 0 0 [] (by rfl) hA2.out (some ⟨b2, 0, none⟩) k c2 ((xs.take k).map (Value.int .i64)) w.heap.size w2.heap.size (by rfl) hT2.out (ints_oneCell _ _) (by omega) hS2.out ?_; intro A5 c5 w5 r5 g5 b5; have f5 : Below w2.heap.size w2 w5 := hB2.out.grown g5 hS2.out (fun z hz => by simp [Value.ownBlock] at hz; omega); simp only [Nat.zero_add, List.nil_append] at r5; have z5 := f5.size; have k5 := (g5.block (w2.heap.size + 1) (by simp <;> omega) (by simp [Value.ownBlock] <;> omega)).trans hL2.out; have q252 : Hid (w5.ownsRow w2.heap.size 2 1 (.slice A5 k c5) k ((xs.take k).map (Value.int .i64))) := Lib.hid r5; have n252 : Hid (∀ z v, [Value.int .i64 (i : Int)][z]? = some v → w5.cell? ((⟨w2.heap.size + 1, 0, none⟩ : Addr).add z) = some v) := Lib.hid (cell_one_of k5); have s252 : Hid (w2.heap.size ≤ w5.heap.size) := Lib.hid z5; have f252 : Hid (Below w2.heap.size w2 w5) := Lib.hid f5)
          | (refine step_appendL ((w2.alloc (.cells #[.int .i64 (i : Int)] 2)).alloc (.cells #[] 2)).drew rfl (.tmp 18) (.tmp 21) 27 rfl w2.heap.size 2 j0 (.int .i64 0) 8 Try.underlying27 hj0 hy0 hy1 hy2 rfl (by omega) (some ⟨w2.heap.size + 1, 0, none⟩) 0 0 [] (by rfl) hA3.out (some ⟨b2, 0, none⟩) k c2 ((xs.take k).map (Value.int .i64)) w.heap.size w2.heap.size (by rfl) hT3.out (ints_oneCell _ _) (by omega) hS3.out ?_; intro A5 c5 w5 r5 g5 b5; have f5 : Below w2.heap.size w2 w5 := hB3.out.grown g5 hS3.out (fun z hz => by simp [Value.ownBlock] at hz; omega); simp only [Nat.zero_add, List.nil_append] at r5; have z5 := f5.size; have k5 := (g5.block (w2.heap.size) (by simp <;> omega) (by simp [Value.ownBlock] <;> omega)).trans hL3.out; have q253 : Hid (w5.ownsRow w2.heap.size 2 1 (.slice A5 k c5) k ((xs.take k).map (Value.int .i64))) := Lib.hid r5; have n253 : Hid (∀ z v, [Value.int .i64 (i : Int)][z]? = some v → w5.cell? ((⟨w2.heap.size, 0, none⟩ : Addr).add z) = some v) := Lib.hid (cell_one_of k5); have s253 : Hid (w2.heap.size ≤ w5.heap.size) := Lib.hid z5; have f253 : Hid (Below w2.heap.size w2 w5) := Lib.hid f5)
          | (refine step_append_lies _ rfl (.tmp 22) (.tmp 24) 27 rfl w2.heap.size 2 j0 (.int .i64 0) 1 8 Try.underlying27 hj0 hy0 hy1 hy2 rfl (by decide) (.slice A5 k c5) k ((xs.take k).map (Value.int .i64)) (by simp [Act.eval]) q25.out ⟨w5.heap.size, 0, none⟩ 1 1 [.int .i64 (i : Int)] (by simp [Act.eval]) rfl n25.out (by simp [Value.oneCell']) (by decide) hml.out (by omega) s25.out _ rfl ?_; intro g6 c6 w6 r6 gg6 hor6 hlt6; have f6 : Below w2.heap.size w2 w6 := f25.out.grown gg6 s25.out (fun z hz => (r5.lt z hz).1); have d6 := hDr.out w6 f6; have z6 := f6.size)
          | (refine step_append_lies _ rfl (.tmp 22) (.tmp 24) 27 rfl w2.heap.size 2 j0 (.int .i64 0) 1 8 Try.underlying27 hj0 hy0 hy1 hy2 rfl (by decide) (.slice A5 k c5) k ((xs.take k).map (Value.int .i64)) (by simp [Act.eval]) q252.out ⟨w2.heap.size + 1, 0, none⟩ 1 1 [.int .i64 (i : Int)] (by simp [Act.eval]) rfl n252.out (by simp [Value.oneCell']) (by decide) hml.out (by omega) s252.out _ rfl ?_; intro g6 c6 w6 r6 gg6 hor6 hlt6; have f6 : Below w2.heap.size w2 w6 := f252.out.grown gg6 s252.out (fun z hz => (r5.lt z hz).1); have d6 := hDr.out w6 f6; have z6 := f6.size)
          | (refine step_append_lies _ rfl (.tmp 22) (.tmp 24) 27 rfl w2.heap.size 2 j0 (.int .i64 0) 1 8 Try.underlying27 hj0 hy0 hy1 hy2 rfl (by decide) (.slice A5 k c5) k ((xs.take k).map (Value.int .i64)) (by simp [Act.eval]) q253.out ⟨w2.heap.size, 0, none⟩ 1 1 [.int .i64 (i : Int)] (by simp [Act.eval]) rfl n253.out (by simp [Value.oneCell']) (by decide) hml.out (by omega) s253.out _ rfl ?_; intro g6 c6 w6 r6 gg6 hor6 hlt6; have f6 : Below w2.heap.size w2 w6 := f253.out.grown gg6 s253.out (fun z hz => (r5.lt z hz).1); have d6 := hDr.out w6 f6; have z6 := f6.size)
          | (refine step_appendL w6 rfl (.tmp 25) (.tmp 28) 27 rfl w2.heap.size 2 j0 (.int .i64 0) 8 Try.underlying27 hj0 hy0 hy1 hy2 rfl (by omega) (some ⟨g6, 0, none⟩) (k + 1) c6 (((xs.take k).map (Value.int .i64)) ++ [.int .i64 (i : Int)]) (by rfl) r6 (some ⟨b2, k, none⟩) (i - k) (c2 - k) ((xs.drop k).map (Value.int .i64)) w.heap.size w2.heap.size (by rfl) d6 (ints_oneCell _ _) (by omega) z6 ?_; intro A7 c7 w7 r7 gg7 b7))
        all_goals
          have f7 : Below w2.heap.size w2 w7 := f6.grown gg7 z6 (fun z hz => (r6.lt z hz).1)
          have z7 := f7.size
          have e7 : k + 1 + (i - k) = i + 1 := by omega
          rw [e7] at r7
          (try rw [e7])
          obtain ⟨g8, c8, hsl, hg8, _⟩ := slice_of_own r7 (by omega)
          injection hsl with h1 _ h3
          subst h1; subst h3
          have o7 : Own w7 w.heap.size w7.heap.size 2 (some ⟨g8, 0, none⟩) (i + 1) c7 (((xs.take k ++ [(i : Int)]) ++ xs.drop k).map (Value.int .i64)) := (Own.of_row (by rw [List.map_append, List.map_append]; exact r7)).more (by omega) (Nat.le_refl _)
          have s7 := s2.out.below f7 (by omega)
          have h7 := hch2.trans_below f7
          replace s7 := Lib.hid s7
          clear r7 gg7 r6 gg6 r5 g5 f6 d6 f5 e7
          go_wp2_with fail
          go_roundw
          case measure => simp [intOf]; omega
          case rel => exact ⟨i + 1, g8, c7, i2, _, _, by omega, by go_num, rfl, o7, hpn, s7, h7⟩
      --END
    · have hiN : i = N := by omega
      subst hiN
      go_wp2_with fail
      go_ret
      exact ⟨some ⟨b2, 0, none⟩, c2, rfl, i', h', xs, ho, hpm.out, hs.out, hch⟩
end Go.Proofs.Ytdaljeghdiknpaa
/- Mat -/
namespace Go.Proofs.Ytdaljeghdiknpaa
open Go.RowKit
set_option linter.unusedVariables false
set_option maxRecDepth 100000
def prt (t : Nat) : Nat := if t % 2 = 0 then t + 1 else t - 1
/-- the first 2 * j places of xs are matched in zs -/
def MatI (xs zs : List Int) (N j : Nat) : Prop := zs.length = N ∧ ∀ t, t < 2 * j → ∀ u : Nat, xs[t]? = some (u : Int) → zs[u]? = xs[prt t]?
theorem MatI.step {xs zs : List Int} {N j a b : Nat} (h : MatI xs zs N j) (hn : xs.Nodup) (ha : xs[2 * j]? = some (a : Int)) (hb : xs[2 * j + 1]? = some (b : Int)) (haN : a < N) (hbN : b < N) : MatI xs ((zs.set a (b : Int)).set b (a : Int)) N (j + 1) := by
  obtain ⟨hl, h⟩ := h
  have inj : ∀ (s t u : Nat), xs[s]? = some (u : Int) → xs[t]? = some (u : Int) → s = t := by
    intro s t u h1 h2
    exact (idxOf_of_get? hn h1).symm.trans (idxOf_of_get? hn h2)
  have hab : a ≠ b := fun e => by subst e; have := inj _ _ _ ha hb; omega
  refine ⟨by simp [hl], fun t ht u hu => ?_⟩
  by_cases e0 : t = 2 * j
  · subst e0
    have e1 : a = u := by rw [ha] at hu; have := Option.some.inj hu; omega
    subst e1
    have e2 : prt (2 * j) = 2 * j + 1 := by unfold prt; rw [if_pos (by omega)]
    rw [e2, hb, List.getElem?_set, if_neg (Ne.symm hab), List.getElem?_set, if_pos rfl, if_pos (by omega)]
  · by_cases e1 : t = 2 * j + 1
    · subst e1
      have e3 : b = u := by rw [hb] at hu; have := Option.some.inj hu; omega
      subst e3
      have e2 : prt (2 * j + 1) = 2 * j := by unfold prt; rw [if_neg (by omega)]; omega
      rw [e2, ha, List.getElem?_set, if_pos rfl, if_pos (by rw [List.length_set]; omega)]
    · have n1 : b ≠ u := fun e => by subst e; have := inj _ _ _ hb hu; omega
      have n2 : a ≠ u := fun e => by subst e; have := inj _ _ _ ha hu; omega
      rw [List.getElem?_set, if_neg n1, List.getElem?_set, if_neg n2]
      exact h t (by omega) u hu
theorem perm_id {xs : List Int} {N : Nat} (h : xs.Perm (idL N)) : xs.Nodup ∧ xs.length = N ∧ (∀ x ∈ xs, 0 ≤ x ∧ x < N) ∧ ∀ u : Nat, u < N → (u : Int) ∈ xs := by
  refine ⟨h.nodup_iff.2 ?_, by rw [h.length_eq, idL_length], fun x hx => mem_ints.1 (h.mem_iff.1 hx), fun u hu => h.mem_iff.2 (mem_ints.2 (by omega))⟩
  unfold idL
  rw [List.nodup_iff_pairwise_ne, List.pairwise_map]
  exact (List.nodup_iff_pairwise_ne.1 List.nodup_range).imp (by intro a b h e; exact h (Int.ofNat.inj e))
theorem MatI.end_ {xs zs : List Int} {k : Nat} (h : MatI xs zs (2 * k) k) (hp : xs.Perm (idL (2 * k))) : (∀ x ∈ zs, 0 ≤ x ∧ x < (2 * k : Nat)) ∧ zs.Nodup ∧ zs.length = 2 * k := by
  obtain ⟨hn, hl, hr, hall⟩ := perm_id hp
  obtain ⟨hzl, h⟩ := h
  have key : ∀ u, u < 2 * k → ∃ t, t < 2 * k ∧ xs[t]? = some (u : Int) ∧ zs[u]? = xs[prt t]? ∧ prt t < 2 * k := by
    intro u hu
    obtain ⟨t, ht⟩ := List.mem_iff_getElem?.1 (hall u hu)
    have htl := (List.getElem?_eq_some_iff.1 ht).1
    refine ⟨t, by omega, ht, h t (by omega) u ht, ?_⟩
    unfold prt
    by_cases e : t % 2 = 0
    · rw [if_pos e]; omega
    · rw [if_neg e]; omega
  refine ⟨fun x hx => ?_, ?_, hzl⟩
  · obtain ⟨u, hu⟩ := List.mem_iff_getElem?.1 hx
    obtain ⟨t, _, _, h3, _⟩ := key u (by have := (List.getElem?_eq_some_iff.1 hu).1; omega)
    rw [hu] at h3
    exact hr x (List.mem_of_getElem? h3.symm)
  · rw [List.nodup_iff_pairwise_ne, List.pairwise_iff_getElem]
    intro i j hi hj hij e
    obtain ⟨t, t1, t2, t3, t4⟩ := key i (by omega)
    obtain ⟨s, s1, s2, s3, s4⟩ := key j (by omega)
    rw [List.getElem?_eq_getElem hi] at t3
    rw [List.getElem?_eq_getElem hj, ← e] at s3
    have h3 : prt t = prt s := by
      have q1 := idxOf_of_get? hn t3.symm
      have q2 := idxOf_of_get? hn s3.symm
      exact q1.symm.trans q2
    have h4 : t = s := by
      unfold prt at h3
      by_cases e1 : t % 2 = 0
      · rw [if_pos e1] at h3
        by_cases e2 : s % 2 = 0
        · rw [if_pos e2] at h3; omega
        · rw [if_neg e2] at h3; omega
      · rw [if_neg e1] at h3
        by_cases e2 : s % 2 = 0
        · rw [if_pos e2] at h3; omega
        · rw [if_neg e2] at h3; omega
    subst h4
    rw [t2] at s2
    have := Option.some.inj s2
    omega
/-- a permutation of N points in a row of its own -/
def MatP (w w' : World) (lo g : Nat) (T T1 : TypeId) (A : Option Addr) (n c : Nat) (bs : List Int) (A1 : Option Addr) (N c1 : Nat) : Prop :=
  ∃ (i' h' : Nat) (zs : List Int), Own w' w.heap.size w'.heap.size T1 A1 N c1 (zs.map (Value.int .i64)) ∧ ((∀ x ∈ zs, 0 ≤ x ∧ x < N) ∧ zs.Nodup ∧ zs.length = N) ∧ Src w' lo g T A n c bs i' h' ∧ Chg g (g + 1) w w'
/-- the drawn permutation and the row to be filled -/
def MatC (w wx : World) (lo g : Nat) (T T1 : TypeId) (A : Option Addr) (n c : Nat) (bs : List Int) (A5 : Option Addr) (N c5 g6 : Nat) : Prop :=
  ∃ (lo5 hi5 i' h' : Nat) (xs : List Int), Own wx lo5 hi5 T1 A5 N c5 (xs.map (Value.int .i64)) ∧ (g6 < lo5 ∨ hi5 ≤ g6) ∧ w.heap.size ≤ lo5 ∧ w.heap.size ≤ g6 ∧ hi5 ≤ wx.heap.size ∧ Own wx g6 (g6 + 1) T1 (some ⟨g6, 0, none⟩) N N ((List.replicate N 0).map (Value.int .i64)) ∧ xs.Perm (idL N) ∧ Src wx lo g T A n c bs i' h' ∧ Chg g (g + 1) w wx
theorem matC1 {w v w5 : World} {lo g : Nat} {T T1 : TypeId} {A : Option Addr} {n c : Nat} {bs : List Int} {A5 : Option Addr} {N c5 i' h' : Nat} {xs : List Int} (hB : Below w.heap.size w v) (hz : v.heap.size = w.heap.size) (hg : g < w.heap.size) (hml : N ≤ maxLen)
    (o : Own w5 v.heap.size w5.heap.size T1 A5 N c5 (xs.map (Value.int .i64))) (hp : xs.Perm (idL N)) (s : Src w5 lo g T A n c bs i' h') (C : Chg g (g + 1) v w5) :
    MatC w (w5.alloc (.cells (madeCells #[.int .i64 0] N) T1)) lo g T T1 A n c bs A5 N c5 w5.heap.size := by
  have C1 : Chg g (g + 1) w w5 := (Chg.of_below g (g + 1) hB).trans C ⟨Nat.le_refl _, Nat.le_refl _⟩ ⟨Nat.le_refl _, Nat.le_refl _⟩
  have hs := C1.size
  have Bz : Below w5.heap.size w5 (w5.alloc (.cells (madeCells #[.int .i64 0] N) T1)) := (Below.refl _ _).alloc (Nat.le_refl _) _
  refine ⟨v.heap.size, w5.heap.size, i', h', xs, o.below Bz (Nat.le_refl _), .inr (Nat.le_refl _), by omega, hs, by simp, ⟨?_, fun ad e => by injection e with e; subst e; simp⟩, hp, s.below Bz s.lt, C1.trans_below Bz⟩
  simpa using made_own (z := .int .i64 0) rfl (heap_new w5 _ _ rfl) (Nat.le_refl _) hml
theorem matC2 {w v w5 : World} {lo g : Nat} {T T1 : TypeId} {A : Option Addr} {n c : Nat} {bs : List Int} {A5 : Option Addr} {N c5 i' h' : Nat} {xs : List Int} (hB : Below w.heap.size w v) (hz : v.heap.size = w.heap.size + 1) (hv : v.heap[w.heap.size]? = some (.cells (madeCells #[.int .i64 0] N) T1 (0, 0))) (hg : g < w.heap.size) (hml : N ≤ maxLen)
    (o : Own w5 v.heap.size w5.heap.size T1 A5 N c5 (xs.map (Value.int .i64))) (hp : xs.Perm (idL N)) (s : Src w5 lo g T A n c bs i' h') (C : Chg g (g + 1) v w5) :
    MatC w w5 lo g T T1 A n c bs A5 N c5 w.heap.size := by
  have C1 : Chg g (g + 1) w w5 := (Chg.of_below g (g + 1) hB).trans C ⟨Nat.le_refl _, Nat.le_refl _⟩ ⟨Nat.le_refl _, Nat.le_refl _⟩
  have hs := C.size
  refine ⟨v.heap.size, w5.heap.size, i', h', xs, o, .inl (by omega), by omega, Nat.le_refl _, Nat.le_refl _, ⟨?_, fun ad e => by injection e with e; subst e; simp⟩, hp, s, C1⟩
  simpa using made_own (z := .int .i64 0) rfl ((C.block w.heap.size (by omega) (by omega)).trans hv) (Nat.le_refl _) hml
theorem Src.drew1 {w : World} {lo g : Nat} {T : TypeId} {A : Option Addr} {n c : Nat} {bs : List Int} {i h : Nat} (s : Src w lo g T A n c bs i h) : Src w.drew lo g T A n c bs i h := ⟨s.blk, s.above, s.code, s.byte, s.le, s.st⟩
set_option maxHeartbeats 4000000 in
theorem matching_any (w : World) (lo g : Nat) (A : Option Addr) (n c : Nat) (bs : List Int) (i h : Nat) (s : Src w lo g 122 A n c bs i h) (k : Nat) (hk4 : 2 * k ≤ 400) :
    Calls Try.prog 135 #[.pointer (some ⟨g, 0, none⟩), .int .i64 ((2 * k : Nat) : Int)] w fun e w' => ∃ (A1 : Option Addr) (c1 : Nat), e = .returned (.slice A1 (2 * k) c1) ∧ MatP w w' lo g 122 2 A n c bs A1 (2 * k) c1 := by
  obtain ⟨N, hN⟩ : ∃ N, 2 * k = N := ⟨_, rfl⟩
  rw [hN]
  have hgl := s.lt
  have mk1 := run_make_row' (P := Try.prog) 27 2 (.int .i64 0) 8 Try.underlying27 infoI rfl .i64 .i64 N (by omega) (by omega)
  have hDr : ∀ wq, Below w.heap.size w wq → _ := fun wq hq => draw_any wq lo g A n c bs i h (s.below hq hgl) N (by omega)
  replace hDr := Lib.hid hDr
  go_enter Try.func135, Try.ntmps135
  go_wp2_with fail
  go_cut [5, 6] from 8 to 12 (fun s5 s6 wx => ∃ (A5 : Option Addr) (c5 g6 : Nat), s5 = .slice A5 N c5 ∧ s6 = .slice (some ⟨g6, 0, none⟩) N N ∧ MatC w wx lo g 122 2 A n c bs A5 N c5 g6)
  case first =>
    have hml : N ≤ maxLen := by simp only [maxLen]; omega
    go_region_law? (first | (refine step_call rfl 124 #[.pointer (some ⟨g, 0, none⟩), .int .i64 (N : Int)] (by go_simp) (hDr.out _ (by first | exact below_drw (Below.refl _ _) | exact below_drw ((Below.refl _ _).alloc (Nat.le_refl _) _) | exact (below_drw (Below.refl _ _)).alloc (Nat.le_refl _) _)) ?_; rintro e w5 ⟨A5, c5, rfl, i5, h5, xs, o5, hp5, s5, C5⟩; refine ⟨_, rfl, ?_⟩))
    all_goals (go_wp2_with fail; go_meet)
    all_goals
      first
        | exact ⟨_, _, _, rfl, rfl, matC1 (below_drw (Below.refl _ _)) (by simp) hgl hml o5 hp5 s5 C5⟩
        | exact ⟨_, _, _, rfl, rfl, matC2 (below_drw ((Below.refl _ _).alloc (Nat.le_refl _) _)) (by simp) (heap_new _ _ _ rfl) hgl hml o5 hp5 s5 C5⟩
        | trace_state
  case rest =>
    obtain ⟨A5, c5, g6, rfl, rfl, lo5, hi5, i', h', xs, o5, hg6, hlo, hlg, hhi, o6, hp, s5, C5⟩ := hcut
    clear mk1 hDr
    obtain ⟨hn5, hl5, hr5, _⟩ := perm_id hp
    replace hn5 := Lib.hid hn5
    replace hr5 := Lib.hid hr5
    replace hp := Lib.hid hp
    replace hl5 := Lib.hid hl5
    replace s5 := Lib.hid s5
    go_wp2_with fail
    go_loopw [7] (fun iv wq => ∃ (t j : Nat) (zs : List Int), t = 2 * j ∧ t ≤ N ∧ iv = .int .i64 t ∧ Hid (MatI xs zs N j) ∧ Own wq lo5 hi5 2 A5 N c5 (xs.map (Value.int .i64)) ∧ Own wq g6 (g6 + 1) 2 (some ⟨g6, 0, none⟩) N N (zs.map (Value.int .i64)) ∧ Hid (Src wq lo g 122 A n c bs i' h') ∧ Chg g (g + 1) w wq ∧ hi5 ≤ wq.heap.size) (fun iv _ => N + 2 - (intOf iv).toNat)
    case atStart => exact ⟨0, 0, List.replicate N 0, by omega, by omega, rfl, Lib.hid ⟨by simp, fun t ht => by omega⟩, o5, o6, s5, C5, hhi⟩
    case round =>
      clear o5 o6 s5 C5 hhi
      obtain ⟨t, j, zs, rfl, htN, rfl, hmt, o5, o6, s5, C5, hhi⟩ := hrel
      have hzl := Lib.hid o6.lenI
      by_cases hlt : 2 * j + 1 < N
      · obtain ⟨bx, av, rfl, hb1, hb2, hb3, hav, hca, _⟩ := o5.atI (show 2 * j < N by omega)
        obtain ⟨bv, hbv⟩ : ∃ v, xs[2 * j + 1]? = some v := ⟨_, List.getElem?_eq_getElem (by have := hl5.out; omega)⟩
        have hcb := o5.cellI hbv
        obtain ⟨ha0, haN⟩ := hr5.out av (List.mem_of_getElem? hav)
        obtain ⟨hb0, hbN⟩ := hr5.out bv (List.mem_of_getElem? hbv)
        obtain ⟨a, rfl⟩ := Int.eq_ofNat_of_zero_le ha0
        obtain ⟨b, rfl⟩ := Int.eq_ofNat_of_zero_le hb0
        have haN' : a < N := by omega
        have hbN' : b < N := by omega
        have hst := hmt.out.step hn5.out hav hbv haN' hbN'
        have hg6l := (o6.1.lt g6 (by simp [Value.ownBlock])).2
        have hne : bx ≠ g6 := by omega
        obtain ⟨za, hza⟩ : ∃ v, zs[a]? = some v := ⟨_, List.getElem?_eq_getElem (by have := hzl.out; omega)⟩
        obtain ⟨zb, hzb⟩ : ∃ v, (zs.set a (b : Int))[b]? = some v := ⟨_, List.getElem?_eq_getElem (by have := hzl.out; simp; omega)⟩
        have hcA := o6.cellI hza
        have hfA := o6.frz a
        have p5 : Own (wr.setCell ⟨g6, a, none⟩ (.int .i64 (b : Int))).drew lo5 hi5 2 (some ⟨bx, 0, none⟩) N c5 (xs.map (Value.int .i64)) := (o5.far (by simp; omega) _).keep (fun _ _ _ => rfl)
        have p6 : Own (wr.setCell ⟨g6, a, none⟩ (.int .i64 (b : Int))).drew g6 (g6 + 1) 2 (some ⟨g6, 0, none⟩) N N ((zs.set a (b : Int)).map (Value.int .i64)) := (o6.setI _).keep (fun _ _ _ => rfl)
        have hca2 := p5.cellI hav
        have hcb2 := p5.cellI hbv
        have hcA2 := p6.cellI hzb
        have hfA2 := p6.frz b
        have q5 : Own ((wr.setCell ⟨g6, a, none⟩ (.int .i64 (b : Int))).drew.setCell ⟨g6, b, none⟩ (.int .i64 (a : Int))).drew lo5 hi5 2 (some ⟨bx, 0, none⟩) N c5 (xs.map (Value.int .i64)) := (p5.far (by simp; omega) _).keep (fun _ _ _ => rfl)
        have q6 : Own ((wr.setCell ⟨g6, a, none⟩ (.int .i64 (b : Int))).drew.setCell ⟨g6, b, none⟩ (.int .i64 (a : Int))).drew g6 (g6 + 1) 2 (some ⟨g6, 0, none⟩) N N (((zs.set a (b : Int)).set b (a : Int)).map (Value.int .i64)) := (p6.setI _).keep (fun _ _ _ => rfl)
        have hgg := s5.out.above
        have q7 : Src ((wr.setCell ⟨g6, a, none⟩ (.int .i64 (b : Int))).drew.setCell ⟨g6, b, none⟩ (.int .i64 (a : Int))).drew lo g 122 A n c bs i' h' := ((s5.out.far (by simp; omega) (by simp; omega) _).drew1.far (by simp; omega) (by simp; omega) _).drew1
        have q8 : Chg g (g + 1) w ((wr.setCell ⟨g6, a, none⟩ (.int .i64 (b : Int))).drew.setCell ⟨g6, b, none⟩ (.int .i64 (a : Int))).drew := ((C5.setNew (by simp; omega) _).drew.setNew (by simp; omega) _).drew
        replace hst := Lib.hid hst
        replace hav := Lib.hid hav
        replace hbv := Lib.hid hbv
        replace hza := Lib.hid hza
        replace hzb := Lib.hid hzb
        replace q7 := Lib.hid q7
        clear p5 p6 o5 o6 hmt s5 C5 ha0 haN hb0 hbN hb1
        go_wp2_with fail
        go_region
        go_wp2_with fail
        go_region
        go_wp2_with fail
        go_roundw
        case rel => exact ⟨2 * j + 2, j + 1, (zs.set a (b : Int)).set b (a : Int), by omega, by omega, by go_num, hst, q5, q6, q7, q8, by simp; omega⟩
        case measure => simp [intOf]; omega
      · have hjk : j = k := by omega
        subst hjk
        subst hN
        have hE := hmt.out.end_ hp.out
        replace hE := Lib.hid hE
        clear hmt hzl
        go_wp2_with fail
        go_ret
        exact ⟨_, _, rfl, i', h', zs, o6.more hlg (by have := (o6.1.lt g6 (by simp [Value.ownBlock])).2; omega), hE.out, s5.out, C5⟩
end Go.Proofs.Ytdaljeghdiknpaa
/- MapP -/
namespace Go.Proofs.Ytdaljeghdiknpaa
set_option linter.unusedVariables false
/-- f xor 2 -/
def xor2 (f : Nat) : Int := if f / 2 % 2 = 0 then (f : Int) + 2 else (f : Int) - 2
theorem xor1_perm (n : Nat) : (∀ x ∈ (List.range (4 * n)).map plyA, 0 ≤ x ∧ x < (4 * n : Nat)) ∧ ((List.range (4 * n)).map plyA).Nodup ∧ ((List.range (4 * n)).map plyA).length = 4 * n := by
  refine fun_perm (fun f hf => ?_) (fun f h hf hh e => ?_)
  · unfold plyA
    by_cases g : f % 2 = 0
    · rw [if_pos g]; omega
    · rw [if_neg g]; omega
  · unfold plyA at e
    by_cases g : f % 2 = 0
    · rw [if_pos g] at e
      by_cases g2 : h % 2 = 0
      · rw [if_pos g2] at e; omega
      · rw [if_neg g2] at e; omega
    · rw [if_neg g] at e
      by_cases g2 : h % 2 = 0
      · rw [if_pos g2] at e; omega
      · rw [if_neg g2] at e; omega
theorem xor2_perm (n : Nat) : (∀ x ∈ (List.range (4 * n)).map xor2, 0 ≤ x ∧ x < (4 * n : Nat)) ∧ ((List.range (4 * n)).map xor2).Nodup ∧ ((List.range (4 * n)).map xor2).length = 4 * n := by
  refine fun_perm (fun f hf => ?_) (fun f h hf hh e => ?_)
  · unfold xor2
    by_cases g : f / 2 % 2 = 0
    · rw [if_pos g]; omega
    · rw [if_neg g]; omega
  · unfold xor2 at e
    by_cases g : f / 2 % 2 = 0
    · rw [if_pos g] at e
      by_cases g2 : h / 2 % 2 = 0
      · rw [if_pos g2] at e; omega
      · rw [if_neg g2] at e; omega
    · rw [if_neg g] at e
      by_cases g2 : h / 2 % 2 = 0
      · rw [if_pos g2] at e; omega
      · rw [if_neg g2] at e; omega
theorem xor1_free (N : Nat) (hN : 4 ∣ N) (z : Int) (z0 : 0 ≤ z) (z1 : z < N) : at' ((List.range N).map plyA) z ≠ z ∧ at' ((List.range N).map plyA) (at' ((List.range N).map plyA) z) = z := by
  obtain ⟨f, rfl⟩ := Int.eq_ofNat_of_zero_le z0
  have key : ∀ f : Nat, f < N → at' ((List.range N).map plyA) (f : Int) = plyA f := fun f hf => by
    unfold at'
    rw [Int.toNat_natCast]
    exact getD_some (by simp [hf])
  rw [key f (by omega)]
  obtain ⟨q, hq⟩ := hN
  unfold plyA
  by_cases g : f % 2 = 0
  · rw [if_pos g]
    have := key (f + 1) (by omega)
    rw [Int.natCast_add] at this
    refine ⟨by omega, this.trans ?_⟩
    unfold plyA
    rw [if_neg (by omega)]
    omega
  · rw [if_neg g]
    have := key (f - 1) (by omega)
    rw [Int.natCast_sub (by omega)] at this
    refine ⟨by omega, this.trans ?_⟩
    unfold plyA
    rw [if_pos (by omega)]
    omega
/-- a row cut down to the points of ls, numbered by their places in it -/
def subRow (ls row : List Int) : List Int := (List.range ls.length).map fun i => ((ls.idxOf (at' row (ls.getD i 0)) : Nat) : Int)
theorem sub_sys {xss : List (List Int)} {n : Nat} {ls : List Int} (hs : SysOf xss n) (hn : ls.Nodup) (hr : ∀ x ∈ ls, 0 ≤ x ∧ x < n) (hc : ∀ x ∈ ls, ∀ p ∈ xss, at' p x ∈ ls) : SysOf (xss.map (subRow ls)) ls.length := by
  intro r hrm
  obtain ⟨p, hp, rfl⟩ := List.mem_map.1 hrm
  obtain ⟨p1, p2, p3⟩ := hs p hp
  have key : ∀ i, i < ls.length → ls.getD i 0 ∈ ls := by
    intro i hi
    rw [List.getD_eq_getElem?_getD, List.getElem?_eq_getElem hi]
    exact List.getElem_mem hi
  unfold subRow
  refine fun_perm (fun i hi => ?_) (fun i j hi hj e => ?_)
  · have := List.idxOf_lt_length_iff.2 (hc _ (key i hi) p hp)
    omega
  · have h1 := hc _ (key i hi) p hp
    have h2 := hc _ (key j hj) p hp
    have e1 := Int.ofNat.inj e
    have l1 := List.idxOf_lt_length_iff.2 h1
    have l2 := List.idxOf_lt_length_iff.2 h2
    have g1 := List.getElem_idxOf l1
    have g2 := List.getElem_idxOf l2
    have e2 : at' p (ls.getD i 0) = at' p (ls.getD j 0) := by
      rw [← g1, ← g2]
      simp only [e1]
    have r1 := hr _ (key i hi)
    have r2 := hr _ (key j hj)
    have e3 := at'_inj p2 p3 r1.1 r1.2 r2.1 r2.2 e2
    rw [List.getD_eq_getElem?_getD, List.getD_eq_getElem?_getD, List.getElem?_eq_getElem hi, List.getElem?_eq_getElem hj] at e3
    have q1 := idxOf_of_get? hn (List.getElem?_eq_getElem hi)
    have q2 := idxOf_of_get? hn (List.getElem?_eq_getElem hj)
    have e4 : ls[i] = ls[j] := e3
    rw [e4] at q1
    exact q1.symm.trans q2
/-- the points that 0 leads to -/
theorem orbit_sys {xss : List (List Int)} {n : Nat} (hs : SysOf xss n) (hn : 1 ≤ n) : SysOf (xss.map (subRow (bfs xss n 0))) (bfs xss n 0).length ∧ 1 ≤ (bfs xss n 0).length ∧ (bfs xss n 0).length ≤ n := by
  have hm := bfs_met hs (x := 0) (by omega) (by omega)
  have h0 : (0 : Int) ∈ bfs xss n 0 := (bfs_mem hs (by omega) (by omega)).2 .refl
  refine ⟨sub_sys hs hm.nd (fun x hx => ((bfs_mem hs (by omega) (by omega)).1 hx).rng hs (by omega) (by omega)) (fun x hx p hp => ?_), ?_, hm.len⟩
  · exact (bfs_mem hs (by omega) (by omega)).2 (.step ((bfs_mem hs (by omega) (by omega)).1 hx) hp)
  · exact List.length_pos_of_mem h0
end Go.Proofs.Ytdaljeghdiknpaa
/- ManS -/
namespace Go.Proofs.Ytdaljeghdiknpaa
open Go.RowKit
set_option linter.unusedVariables false
set_option maxRecDepth 100000
set_option maxHeartbeats 8000000 in
theorem l02Is_any (A : Option Addr) (n c : Nat) (xss : List (List Int)) (w : World) {lo hi : Nat} (h : RS w lo hi A n xss) (hhi : hi ≤ w.heap.size) :
    Calls Try.prog 77 #[.agg #[.slice A n c]] w fun e w' => e = .returned (.bool (isManB xss)) ∧ Below w.heap.size w w' := by
  have hm := h.max
  have hl := h.len
  have hR : RS (w.alloc (.cells #[.slice A n c] 40)) lo hi A n xss := h.keep (same_alloc w _ _ _ hhi)
  have hC : (w.alloc (.cells #[.slice A n c] 40)).cell? ⟨w.heap.size, 0, none⟩ = some (.slice A n c) := by simp
  have hB : Below w.heap.size w (w.alloc (.cells #[.slice A n c] 40)) := (Below.refl _ _).alloc (Nat.le_refl _) _
  by_cases hn1 : n < 1
  · have d1 : decide ((n : Int) < 1) = true := by simp; omega
    have hF : isManB xss = false := isManB_false fun hh => by have := hh.r1; omega
    replace hF := Lib.hid hF
    replace hl := Lib.hid hl
    go_enter Try.func77, Try.ntmps77
    go_wp2_with fail
    go_ret
    exact ⟨ret_bool hF.out.symm, hB⟩
  have d1 : decide ((n : Int) < 1) = false := by simp; omega
  by_cases hn5 : 5 < n
  · have d2 : decide ((5 : Int) < (n : Int)) = true := by simp; omega
    have hF : isManB xss = false := isManB_false fun hh => by have := hh.r5; omega
    replace hF := Lib.hid hF
    replace hl := Lib.hid hl
    go_enter Try.func77, Try.ntmps77
    go_wp2_with fail
    go_ret
    exact ⟨ret_bool hF.out.symm, hB⟩
  have d2 : decide ((5 : Int) < (n : Int)) = false := by simp; omega
  obtain ⟨b, o, A0, n0, c0, p0, rfl, _, hbh, hp0, hc0, hr0⟩ := hR.at_ (k := 0) (by omega)
  rw [Nat.add_zero] at hc0
  have hn0 : n0 = flg xss := by rw [flg_of hp0]; exact hr0.len.symm
  subst hn0
  have hm0 := hr0.max
  by_cases hf2 : flg xss < 2
  · have d3 : decide (((flg xss : Nat) : Int) < 2) = true := by simp; omega
    have hF : isManB xss = false := isManB_false fun hh => by have := hh.f2; omega
    replace hF := Lib.hid hF
    replace hl := Lib.hid hl
    replace hp0 := Lib.hid hp0
    go_enter Try.func77, Try.ntmps77
    go_wp2_with fail
    go_ret
    exact ⟨ret_bool hF.out.symm, hB⟩
  have d3 : decide (((flg xss : Nat) : Int) < 2) = false := by simp; omega
  by_cases hf4 : 400 < flg xss
  · have d4 : decide ((400 : Int) < ((flg xss : Nat) : Int)) = true := by simp; omega
    have hF : isManB xss = false := isManB_false fun hh => by have := hh.f4; omega
    replace hF := Lib.hid hF
    replace hl := Lib.hid hl
    replace hp0 := Lib.hid hp0
    go_enter Try.func77, Try.ntmps77
    go_wp2_with fail
    go_ret
    exact ⟨ret_bool hF.out.symm, hB⟩
  have d4 : decide ((400 : Int) < ((flg xss : Nat) : Int)) = false := by simp; omega
  replace hl := Lib.hid hl
  replace hp0 := Lib.hid hp0
  go_enter Try.func77, Try.ntmps77
  go_wp2_with fail
  obtain ⟨W1, hW⟩ : ∃ W1 : World, w.alloc (.cells #[.slice (some ⟨b, o, none⟩) n c] 40) = W1 := ⟨_, rfl⟩
  have hz1 : W1.heap.size = w.heap.size + 1 := by rw [← hW]; simp
  rw [hW] at hR hC hB hr0 hc0 ⊢
  clear hW h
  have Hs : ∀ w' : World, Below W1.heap.size W1 w' → w'.cell? ⟨w.heap.size, 0, none⟩ = some (.slice (some ⟨b, o, none⟩) n c) ∧ w'.cell? ⟨b, o, none⟩ = some (.slice A0 (flg xss) c0) := fun w' hb =>
    ⟨(hb.cell (p := ⟨w.heap.size, 0, none⟩) (by simp; omega)).trans hC, (hb.cell (p := ⟨b, o, none⟩) (by simp; omega)).trans hc0⟩
  replace Hs := Lib.hid Hs
  go_loopw [4] (fun kv wr => ∃ k : Nat, k ≤ n ∧ kv = .int .i64 k ∧ Hid (∀ p ∈ xss.take k, mvB (flg xss) p = true) ∧ Below W1.heap.size W1 wr) (fun kv _ => n - (intOf kv).toNat)
  case atStart => exact ⟨0, by omega, rfl, Lib.hid (by simp), Below.refl _ _⟩
  case round =>
    obtain ⟨k, hk, rfl, hmv, hb⟩ := hrel
    have hbz := hb.size
    obtain ⟨hCk, hc0k⟩ := Hs.out _ hb
    have hRk := hR.below hb (by omega)
    by_cases hlt : k < n
    · obtain ⟨b', o', Ak, nk, ck, ys, hA, _, _, hys, hcell, hrow⟩ := hRk.at_ hlt
      injection hA with hA
      injection hA with hA1 hA2 _
      subst hA1; subst hA2
      have hyl := hrow.len
      have hnm := hrow.max
      haveI := Since.ne wr
      have u1 : ∀ u : Since wr, u.val.cell? ⟨w.heap.size, 0, none⟩ = some (.slice (some ⟨b, o, none⟩) n c) := fun u => (u.ok.cell (p := ⟨w.heap.size, 0, none⟩) (by simp; omega)).trans hCk
      have u2 : ∀ u : Since wr, u.val.cell? ⟨b, o, none⟩ = some (.slice A0 (flg xss) c0) := fun u => (u.ok.cell (p := ⟨b, o, none⟩) (by simp; omega)).trans hc0k
      have u3 : ∀ u : Since wr, u.val.cell? ⟨b, o + k, none⟩ = some (.slice Ak nk ck) := fun u => (u.ok.cell (p := ⟨b, o + k, none⟩) (by simp; omega)).trans hcell
      have hhb : hi ≤ wr.heap.size := by omega
      have hpn : 0 < n := by omega
      have hpn2 : ¬ n = 0 := by omega
      by_cases hlen : nk = flg xss
      · subst hlen
        have hd : (((flg xss : Nat) : Int) != ((flg xss : Nat) : Int)) = false := by simp
        cases hp : isPermB ys with
        | false =>
          have hF : isManB xss = false := isManB_mv (mem_of_get? hys) (by unfold mvB; rw [hp]; rfl)
          replace hF := Lib.hid hF
          replace hp := Lib.hid hp
          replace hys := Lib.hid hys
          go_wp2_with fail
          refine wp_region_since_lit (by kernel_rfl) (by kernel_rfl) ?_
          repeat (go_big_quiet_step ((go_at_call 118; refine since_call (hp.out ▸ l01Perm_any _ _ _ ys _ lo hi (hrow.below (Since.ok _) hhb) ?_); exact Nat.le_trans hhb (Since.ok _).size)))
          refine wpQuiet_nil ?_
          intro w2 hw2
          have hb2 : Below wr.heap.size wr w2 := by obtain ⟨u, hu⟩ := hw2; rw [hu]; exact u.ok
          clear hw2 u1 u2 u3
          go_wp2_with fail
          go_ret
          exact ⟨ret_bool hF.out.symm, (hB.trans (hb.mono (by omega))).trans (hb2.mono (by omega))⟩
        | true =>
          have hpp := isPermB_iff.1 hp
          cases hfr : freeB ys with
          | false =>
            have hF : isManB xss = false := isManB_mv (mem_of_get? hys) (by unfold mvB; rw [hp, hfr]; rfl)
            replace hF := Lib.hid hF
            replace hp := Lib.hid hp
            replace hpp := Lib.hid hpp
            replace hfr := Lib.hid hfr
            replace hys := Lib.hid hys
            go_wp2_with fail
            refine wp_region_since_lit (by kernel_rfl) (by kernel_rfl) ?_
            repeat (go_big_quiet_step (first | (go_at_call 118; refine since_call (hp.out ▸ l01Perm_any _ _ _ ys _ lo hi (hrow.below (Since.ok _) hhb) ?_); exact Nat.le_trans hhb (Since.ok _).size) | (go_at_call 139; refine since_call (hfr.out ▸ l01Free_any _ _ _ ys _ lo hi (hrow.below (Since.ok _) hhb) ?_ hpp.out); exact Nat.le_trans hhb (Since.ok _).size)))
            refine wpQuiet_nil ?_
            intro w2 hw2
            have hb2 : Below wr.heap.size wr w2 := by obtain ⟨u, hu⟩ := hw2; rw [hu]; exact u.ok
            clear hw2 u1 u2 u3
            go_wp2_with fail
            go_ret
            exact ⟨ret_bool hF.out.symm, (hB.trans (hb.mono (by omega))).trans (hb2.mono (by omega))⟩
          | true =>
            have hmy : mvB (flg xss) ys = true := by unfold mvB; rw [hp, hfr, hyl]; simp
            have htk := take_succ_of hys
            replace htk := Lib.hid htk
            replace hmy := Lib.hid hmy
            replace hp := Lib.hid hp
            replace hpp := Lib.hid hpp
            replace hfr := Lib.hid hfr
            replace hys := Lib.hid hys
            go_wp2_with fail
            refine wp_region_since_lit (by kernel_rfl) (by kernel_rfl) ?_
            repeat (go_big_quiet_step (first | (go_at_call 118; refine since_call (hp.out ▸ l01Perm_any _ _ _ ys _ lo hi (hrow.below (Since.ok _) hhb) ?_); exact Nat.le_trans hhb (Since.ok _).size) | (go_at_call 139; refine since_call (hfr.out ▸ l01Free_any _ _ _ ys _ lo hi (hrow.below (Since.ok _) hhb) ?_ hpp.out); exact Nat.le_trans hhb (Since.ok _).size)))
            refine wpQuiet_nil ?_
            intro w2 hw2
            have hb2 : Below wr.heap.size wr w2 := by obtain ⟨u, hu⟩ := hw2; rw [hu]; exact u.ok
            clear hw2 u1 u2 u3
            have hB2 : Below W1.heap.size W1 w2 := hb.trans (hb2.mono hbz)
            go_wp2_with fail
            go_roundw
            case measure => simp [intOf]; omega
            case rel =>
              refine ⟨k + 1, by omega, by go_num, Lib.hid fun p hp => ?_, hB2⟩
              rw [htk.out] at hp
              rcases List.mem_append.1 hp with hp | hp
              · exact hmv.out p hp
              · simp at hp; subst hp; exact hmy.out
      · have hd : ((nk : Int) != ((flg xss : Nat) : Int)) = true := by simp; omega
        have hF : isManB xss = false := isManB_mv (mem_of_get? hys) (by unfold mvB; rw [hyl, decide_eq_false hlen]; simp)
        replace hF := Lib.hid hF
        replace hys := Lib.hid hys
        clear hlen
        go_wp2_with fail
        go_quiet (fail)
        go_wp2_with fail
        go_ret
        exact ⟨ret_bool hF.out.symm, hB.trans ((below_dn hb _).mono (by omega))⟩
    · have hkn : k = n := by omega
      subst hkn
      have hmvA : ∀ p ∈ xss, mvB (flg xss) p = true := by
        have := hmv.out
        rwa [List.take_of_length_le (by have := hl.out; omega)] at this
      have hS := sysOf_mv hmvA
      replace hmvA := Lib.hid hmvA
      replace hS := Lib.hid hS
      clear hmv hCk hc0k hRk hbz
      go_wp2_with fail
      go_loopw [5] (fun iv wq => ∃ i : Nat, i ≤ k ∧ iv = .int .i64 i ∧ Hid (PairsTo xss i (i + 2)) ∧ Below W1.heap.size W1 wq) (fun iv _ => k - (intOf iv).toNat)
      case atStart => exact ⟨0, by omega, rfl, Lib.hid (PairsTo.zero xss), hb⟩
      case round =>
        clear hb
        obtain ⟨i, hi, rfl, hpt, hb⟩ := hrel
        by_cases hlt : i < k
        · obtain ⟨b', o', Aa, na, ca, pa, hA, _, _, hpa, hcaW, hra⟩ := hR.at_ hlt
          injection hA with hA
          injection hA with hA1 hA2 _
          subst hA1; subst hA2
          have hna : na = flg xss := by rw [← hra.len]; exact (hS.out _ (mem_of_get? hpa)).2.2
          subst hna
          have hpaS := (hS.out _ (mem_of_get? hpa)).1
          replace hpaS := Lib.hid hpaS
          replace hpa := Lib.hid hpa
          go_wp2_with fail
          go_loopw [6] (fun tv wq => ∃ t : Nat, i + 2 ≤ t ∧ t ≤ k + 2 ∧ tv = .int .i64 t ∧ Hid (PairsTo xss i t) ∧ Below W1.heap.size W1 wq) (fun tv _ => k - (intOf tv).toNat)
          case atStart => exact ⟨i + 2, by omega, by omega, by go_num, hpt, hb⟩
          case round =>
            clear hb hpt
            obtain ⟨t, hit, htk2, rfl, hpt, hb⟩ := hrel
            by_cases htk : t < k
            · obtain ⟨b', o', Ab, nb, cb, pb, hA, _, _, hpb, hcbW, hrb⟩ := hR.at_ htk
              injection hA with hA
              injection hA with hA1 hA2 _
              subst hA1; subst hA2
              have hnb : nb = flg xss := by rw [← hrb.len]; exact (hS.out _ (mem_of_get? hpb)).2.2
              subst hnb
              have hpbS := (hS.out _ (mem_of_get? hpb)).1
              replace hpbS := Lib.hid hpbS
              replace hpb := Lib.hid hpb
              go_wp2_with fail
              go_loopw [7] (fun fv wq => ∃ f : Nat, f ≤ flg xss ∧ fv = .int .i64 f ∧ Hid ((List.range f).all (comB pa pb) = true) ∧ Below W1.heap.size W1 wq) (fun fv _ => flg xss - (intOf fv).toNat)
              case atStart => exact ⟨0, by omega, rfl, Lib.hid (by simp), hb⟩
              case round =>
                clear hb
                obtain ⟨f, hf, rfl, hall, hb⟩ := hrel
                have hbz := hb.size
                obtain ⟨hCk, hc0k⟩ := Hs.out _ hb
                have hcak := (hb.cell (p := ⟨b, o + i, none⟩) (by simp; omega)).trans hcaW
                have hcbk := (hb.cell (p := ⟨b, o + t, none⟩) (by simp; omega)).trans hcbW
                have hpn : 0 < k := by omega
                have hpn2 : ¬ k = 0 := by omega
                by_cases hfn : f < flg xss
                · obtain ⟨ba, oa, x, rfl, _, _, hx, hxc⟩ := (hra.below hb (by omega)).at_ hfn
                  obtain ⟨bb, ob, y, rfl, _, _, hy, hyc⟩ := (hrb.below hb (by omega)).at_ hfn
                  obtain ⟨hx0, hx1⟩ := hpaS.out x (mem_of_get? hx)
                  obtain ⟨hy0, hy1⟩ := hpbS.out y (mem_of_get? hy)
                  obtain ⟨x, rfl⟩ : ∃ q : Nat, x = q := ⟨x.toNat, by omega⟩
                  obtain ⟨y, rfl⟩ : ∃ q : Nat, y = q := ⟨y.toNat, by omega⟩
                  obtain ⟨_, _, u, hu1, _, _, hu, huc⟩ := (hrb.below hb (by omega)).at_ (k := x) (by omega)
                  injection hu1 with hu1
                  injection hu1 with hu1 hu2 _
                  subst hu1; subst hu2
                  obtain ⟨_, _, v, hv1, _, _, hv, hvc⟩ := (hra.below hb (by omega)).at_ (k := y) (by omega)
                  injection hv1 with hv1
                  injection hv1 with hv1 hv2 _
                  subst hv1; subst hv2
                  have hcm : comB pa pb f = (decide ((x : Int) ≠ y) && decide (u = v)) := by
                    unfold comB
                    rw [getD_some hx, getD_some hy, Int.toNat_natCast, Int.toNat_natCast, getD_some hu, getD_some hv]
                  have hxN : x < flg xss := by omega
                  have hyN : y < flg xss := by omega
                  replace hx := Lib.hid hx
                  replace hy := Lib.hid hy
                  replace hu := Lib.hid hu
                  replace hv := Lib.hid hv
                  by_cases huv : u = v
                  · have hd2 : (u != v) = false := by simpa using huv
                    by_cases hxy : (x : Int) = y
                    · have hd1 : ((x : Int) == (y : Int)) = true := by simpa using hxy
                      have hF : isManB xss = false := isManB_com (by omega) hpa.out hpb.out hfn (by rw [hcm]; simp [hxy])
                      replace hF := Lib.hid hF
                      clear hcm hxy huv
                      go_wp2_with fail
                      go_quiet (fail)
                      go_wp2_with fail
                      go_ret
                      exact ⟨ret_bool hF.out.symm, hB.trans ((below_dn hb _).mono (by omega))⟩
                    · have hd1 : ((x : Int) == (y : Int)) = false := by simpa using hxy
                      have hok : comB pa pb f = true := by rw [hcm]; simp [hxy, huv]
                      replace hok := Lib.hid hok
                      clear hcm hxy huv
                      go_wp2_with fail
                      go_quiet (fail)
                      go_wp2_with fail
                      go_roundw
                      case measure => simp [intOf]; omega
                      case rel => exact ⟨f + 1, by omega, by go_num, Lib.hid (all_range_succ hall.out hok.out), below_dn hb _⟩
                  · have hd2 : (u != v) = true := by simpa using huv
                    have hF : isManB xss = false := isManB_com (by omega) hpa.out hpb.out hfn (by rw [hcm]; simp [huv])
                    replace hF := Lib.hid hF
                    clear hcm huv
                    go_wp2_with fail
                    go_quiet (fail)
                    go_wp2_with fail
                    go_ret
                    exact ⟨ret_bool hF.out.symm, hB.trans ((below_dn hb _).mono (by omega))⟩
                · have hfe : f = flg xss := by omega
                  have hpar : parB (flg xss) pa pb = true := by unfold parB; rw [← hfe]; exact hall.out
                  replace hpar := Lib.hid hpar
                  go_wp2_with fail
                  go_roundw
                  case measure => simp [intOf]; omega
                  case rel => exact ⟨t + 1, by omega, by omega, by go_num, Lib.hid (hpt.out.step hpa.out hpb.out hpar.out), hb⟩
            · have hnx := hpt.out.next (by have := hl.out; omega)
              replace hnx := Lib.hid hnx
              go_wp2_with fail
              go_roundw
              case measure => simp [intOf]; omega
              case rel => exact ⟨i + 1, by omega, by go_num, hnx, hb⟩
        · have hik : i = k := by omega
          subst hik
          have hfin := (isManB_all (by have := hl.out; omega) (by have := hl.out; omega) (by omega) (by omega) hmvA.out (hpt.out.done (by have := hl.out; omega))).2
          replace hfin := Lib.hid hfin
          have hbd := below_drew hb
          have hbz := hb.size
          obtain ⟨hCk, hc0k⟩ := Hs.out _ hb
          have hpn : 0 < i := by omega
          have hpn2 : ¬ i = 0 := by omega
          have hO := l01Orbit_any (flg xss) (some ⟨b, o, none⟩) i c xss 0 wr.drew (rs_drew (hR.below hb (by omega))) (show _ ≤ wr.heap.size by omega) (by omega) hS.out (by omega) (by omega)
          go_wp2_with fail
          go_region_with (go_at_call 130; refine hO.mono ?_; rintro e w2 ⟨A2, n2, c2, rfl, ho2, hb2⟩; have hC2 := (hb2.cell (p := ⟨w.heap.size, 0, none⟩) (by simp; omega)).trans hCk; have hc02 := (hb2.cell (p := ⟨b, o, none⟩) (by simp; omega)).trans hc0k)
          all_goals
            have hl2 := ho2.lenI
            go_wp2_with fail
            go_ret
            refine ⟨ret_bool ?_, hB.trans ((hbd.mono (by omega)).trans (hb2.mono (by simp; omega)))⟩
            rw [hfin.out, hl2]
            by_cases hq : n2 = flg xss
            · simp [hq]
            · have : ¬ ((n2 : Nat) : Int) = ((flg xss : Nat) : Int) := by omega
              simp [hq, this]
end Go.Proofs.Ytdaljeghdiknpaa
/- ManX -/
namespace Go.Proofs.Ytdaljeghdiknpaa
open Go.RowKit
set_option linter.unusedVariables false
set_option maxRecDepth 100000
theorem i_IsManiplex_any (A : Option Addr) (n c : Nat) (xss : List (List Int)) (w : World) {lo hi : Nat} (h : RS w lo hi A n xss) (hhi : hi ≤ w.heap.size) (hnc : n ≤ c) :
    Calls Try.prog 30 #[.agg #[.slice A n c]] w fun e w' => e = .returned (.bool (isManB xss)) ∧ Below w.heap.size w w' := by
  have hR := rs_alloc h hhi (.cells #[.slice A n c] 40)
  have hB : Below w.heap.size w (w.alloc (.cells #[.slice A n c] 40)) := (Below.refl _ _).alloc (Nat.le_refl _) _
  go_enter Try.func30, Try.ntmps30
  go_wp2_with fail
  ((with_reducible refine (isMan_any A n c xss _ hR (by simp; omega) hnc).mono ?_); rintro e w1 ⟨rfl, hb1⟩)
  go_wp2_with fail
  go_ret
  exact ⟨rfl, hB.trans (hb1.mono (by simp))⟩
end Go.Proofs.Ytdaljeghdiknpaa
/- Run -/
namespace Go.Proofs.Ytdaljeghdiknpaa
open Go.RowKit
set_option linter.unusedVariables false
set_option maxRecDepth 100000
noncomputable def runF (xss : List (List Int)) (x : Int) (word : List Int) : Int × Int :=
  if isManB xss = true then (if (inR 0 ((flg xss : Nat) - 1 : Int) x && (decide (word.length ≤ 64) && allIn 0 ((xss.length : Int) - 1) word)) = true then (runW xss word x, 0) else (0, 2)) else (0, 1)
theorem runW_take {xss : List (List Int)} {word : List Int} {k : Nat} {g x : Int} (h : word[k]? = some g) : runW xss (word.take (k + 1)) x = (xss.getD g.toNat []).getD (runW xss (word.take k) x).toNat 0 := by
  rw [take_succ_of h, runW_snoc]
theorem l02Flags_any (A : Option Addr) (n c : Nat) (xss : List (List Int)) (w : World) {lo hi : Nat} (h : RS w lo hi A n xss) (hhi : hi ≤ w.heap.size) (hn : 0 < n) :
    Calls Try.prog 134 #[.agg #[.slice A n c]] w fun e w' => e = .returned (.int .i64 (flg xss : Nat)) ∧ Below w.heap.size w w' := by
  obtain ⟨b0, o0, A0, n0, c0, p0, rfl, _, _, hp0, hc0, hr0⟩ := (rs_alloc h hhi (.cells #[.slice A n c] 40)).at_ (k := 0) hn
  rw [Nat.add_zero] at hc0
  have hm := h.max
  have hm0 := hr0.max
  have hf : flg xss = n0 := by rw [flg_of hp0]; exact hr0.len
  replace hf := Lib.hid hf
  have hpn : ¬ n = 0 := by omega
  clear hp0
  go_enter Try.func134, Try.ntmps134
  go_wp2_with fail
  go_ret
  exact ⟨ret_int (by rw [hf.out]), (Below.refl _ _).alloc (Nat.le_refl _) _⟩
theorem l02Flag_any (A : Option Addr) (n c : Nat) (xss : List (List Int)) (x : Int) (w : World) {lo hi : Nat} (h : RS w lo hi A n xss) (hhi : hi ≤ w.heap.size) (hn : 0 < n) (h4 : flg xss ≤ 400) :
    Calls Try.prog 91 #[.agg #[.slice A n c], .int .i64 x] w fun e w' => e = .returned (.bool (inR 0 ((flg xss : Nat) - 1 : Int) x)) ∧ Below w.heap.size w w' := by
  have hR := rs_alloc h hhi (.cells #[.slice A n c] 40)
  have hB : Below w.heap.size w (w.alloc (.cells #[.slice A n c] 40)) := (Below.refl _ _).alloc (Nat.le_refl _) _
  go_enter Try.func91, Try.ntmps91
  go_wp2_with fail
  ((with_reducible refine (l02Flags_any A n c xss _ hR (by simp; omega) hn).mono ?_); rintro e w1 ⟨rfl, hb1⟩)
  go_wp2_with fail
  ((with_reducible refine (in_any _ _ _ _).mono ?_); rintro e w' ⟨rfl, rfl⟩)
  go_wp2_with fail
  go_ret
  exact ⟨rfl, hB.trans (hb1.mono (by simp))⟩
theorem hasFlag_any (b : Nat) (A : Option Addr) (n c : Nat) (xss : List (List Int)) (x : Int) (w : World) (hc : w.cell? ⟨b, 0, none⟩ = some (.slice A n c)) {lo hi : Nat} (h : RS w lo hi A n xss) (hn : 0 < n) (h4 : flg xss ≤ 400) :
    Calls Try.prog 79 #[.pointer (some ⟨b, 0, none⟩), .int .i64 x] w fun e w' => e = .returned (.bool (inR 0 ((flg xss : Nat) - 1 : Int) x)) ∧ w = w' := by
  go_enter Try.func79, Try.ntmps79
  go_wp2_with fail
  ((with_reducible refine (flags_any _ A n c xss _ hc h hn).mono ?_); rintro e w' ⟨rfl, rfl⟩)
  go_wp2_with fail
  ((with_reducible refine (within_any _ _ _ _).mono ?_); rintro e w' ⟨rfl, rfl⟩)
  go_wp2_with fail
  go_ret
  exact ⟨rfl, rfl⟩
theorem isWord_any (b : Nat) (A : Option Addr) (n c : Nat) (A' : Option Addr) (m' c' : Nat) (word : List Int) (w : World) (hc : w.cell? ⟨b, 0, none⟩ = some (.slice A n c)) (hn : n ≤ 9223372036854775807) {lo hi : Nat} (h' : RI w lo hi A' m' word) (hhi : hi ≤ w.heap.size) :
    Calls Try.prog 93 #[.pointer (some ⟨b, 0, none⟩), .slice A' m' c'] w fun e w' => e = .returned (.bool (decide (word.length ≤ 64) && allIn 0 ((n : Int) - 1) word)) ∧ Below w.heap.size w w' := by
  have hm' := h'.max
  have hl' := h'.len
  by_cases hw : m' ≤ 64
  · have hd : decide ((m' : Int) ≤ 64) = true := by simp; omega
    have hF : (decide (word.length ≤ 64) && allIn 0 ((n : Int) - 1) word) = allIn 0 ((n : Int) - 1) word := by rw [hl', decide_eq_true hw]; rfl
    replace hF := Lib.hid hF
    replace hl' := Lib.hid hl'
    go_enter Try.func93, Try.ntmps93
    go_wp2_with fail
    ((with_reducible refine (rank_any _ A n c _ hc hn).mono ?_); rintro e w' ⟨rfl, rfl⟩)
    go_wp2_with fail
    ((with_reducible refine (areWithin_any _ _ _ word _ _ _ h' hhi).mono ?_); rintro e w2 ⟨rfl, hb2⟩)
    go_wp2_with fail
    go_ret
    exact ⟨ret_bool hF.out.symm, hb2⟩
  · have hd : decide ((m' : Int) ≤ 64) = false := by simp; omega
    have hF : (decide (word.length ≤ 64) && allIn 0 ((n : Int) - 1) word) = false := by rw [hl', decide_eq_false hw]; rfl
    replace hF := Lib.hid hF
    replace hl' := Lib.hid hl'
    go_enter Try.func93, Try.ntmps93
    go_wp2_with fail
    go_ret
    exact ⟨ret_bool hF.out.symm, Below.refl _ _⟩
set_option maxHeartbeats 2000000 in
theorem i_RunMoves_any (w : World) (A : Option Addr) (n c : Nat) (xss : List (List Int)) {lo hi : Nat} (h : RS w lo hi A n xss) (hhi : hi ≤ w.heap.size) (hnc : n ≤ c) (x : Int) (hx : -9223372036854775808 ≤ x ∧ x ≤ 9223372036854775807) (A' : Option Addr) (m' c' : Nat) (word : List Int) {lo' hi' : Nat} (h' : RI w lo' hi' A' m' word) (hhi' : hi' ≤ w.heap.size) :
    Calls Try.prog 36 #[.agg #[.slice A n c], .int .i64 x, .slice A' m' c'] w fun e w' => ∃ (y code : Int), e = .returned (.tuple #[.int .i64 y, .int .i64 code]) ∧ Hid ((y, code) = runF xss x word) ∧ Below w.heap.size w w' := by
  have hm := h.max
  have hm' := h'.max
  have hl := h.len
  obtain ⟨hx0, hx1⟩ := hx
  have hR := rs_alloc h hhi (.cells #[.slice A n c] 40)
  have hR' : RI (w.alloc (.cells #[.slice A n c] 40)) lo' hi' A' m' word := h'.keep (same_alloc w _ _ _ hhi')
  have hC : (w.alloc (.cells #[.slice A n c] 40)).cell? ⟨w.heap.size, 0, none⟩ = some (.slice A n c) := al_new _ _ _ _ rfl
  have hB : Below w.heap.size w (w.alloc (.cells #[.slice A n c] 40)) := (Below.refl _ _).alloc (Nat.le_refl _) _
  cases hM : isManB xss with
  | false =>
    have hF : runF xss x word = (0, 1) := by unfold runF; rw [hM]; rfl
    replace hF := Lib.hid hF
    replace hM := Lib.hid hM
    replace hl := Lib.hid hl
    go_enter Try.func36, Try.ntmps36
    go_wp2_with fail
    obtain ⟨W1, hW⟩ : ∃ W1 : World, w.alloc (.cells #[.slice A n c] 40) = W1 := ⟨_, rfl⟩
    have hz1 : W1.heap.size = w.heap.size + 1 := by rw [← hW]; simp
    rw [hW] at hR hR' hC hB ⊢
    clear hW h h'
    ((with_reducible refine (isMan_any A n c xss _ hR (by omega) hnc).mono ?_); rintro e w2 ⟨rfl, f2⟩)
    rw [hM.out]
    go_wp2_with fail
    go_ret2
    exact ⟨_, _, rfl, Lib.hid hF.out.symm, hB.trans (f2.mono (by omega))⟩
  | true =>
    have hP := isManB_iff.1 hM
    have hn1 : 1 ≤ n := by have := hP.r1; omega
    have hn5 : n ≤ 5 := by have := hP.r5; omega
    have hf4 := hP.f4
    have hS := hP.sys
    clear hP
    cases hF1 : inR 0 ((flg xss : Nat) - 1 : Int) x with
    | false =>
      have hF : runF xss x word = (0, 2) := by unfold runF; rw [if_pos hM, hF1]; rfl
      replace hF := Lib.hid hF
      replace hM := Lib.hid hM
      replace hl := Lib.hid hl
      replace hS := Lib.hid hS
      replace hF1 := Lib.hid hF1
      go_enter Try.func36, Try.ntmps36
      go_wp2_with fail
      obtain ⟨W1, hW⟩ : ∃ W1 : World, w.alloc (.cells #[.slice A n c] 40) = W1 := ⟨_, rfl⟩
      have hz1 : W1.heap.size = w.heap.size + 1 := by rw [← hW]; simp
      rw [hW] at hR hR' hC hB ⊢
      clear hW h h'
      ((with_reducible refine (isMan_any A n c xss _ hR (by omega) hnc).mono ?_); rintro e w2 ⟨rfl, f2⟩)
      rw [hM.out]
      have y2 := f2.size
      have C2 := (f2.cell (p := ⟨w.heap.size, 0, none⟩) (by simp; omega)).trans hC
      have R2 := hR.below f2 (by omega)
      have R2' := hR'.below f2 (by omega)
      go_wp2_with fail
      ((with_reducible refine (hasFlag_any _ A n c xss x _ C2 R2 (by omega) hf4).mono ?_); rintro e w' ⟨rfl, rfl⟩)
      rw [hF1.out]
      have B3 := f2
      have C3 := C2
      have R3 := R2
      have R3' := R2'
      go_wp2_with fail
      go_ret2
      exact ⟨_, _, rfl, Lib.hid hF.out.symm, hB.trans (B3.mono (by omega))⟩
    | true =>
      obtain ⟨hxa, hxb⟩ := inR_iff.1 hF1
      have hSr : ∀ p ∈ xss, ∀ x ∈ p, 0 ≤ x ∧ x < flg xss := fun p hp => (hS p hp).1
      have hSl : ∀ p ∈ xss, p.length = flg xss := fun p hp => (hS p hp).2.2
      replace hSr := Lib.hid hSr
      replace hSl := Lib.hid hSl
      cases hF2 : (decide (word.length ≤ 64) && allIn 0 ((n : Int) - 1) word) with
      | false =>
        have hF : runF xss x word = (0, 2) := by unfold runF; rw [if_pos hM, hF1, hl, hF2]; rfl
        replace hF := Lib.hid hF
        replace hM := Lib.hid hM
        replace hl := Lib.hid hl
        replace hS := Lib.hid hS
        replace hF1 := Lib.hid hF1
        replace hF2 := Lib.hid hF2
        go_enter Try.func36, Try.ntmps36
        go_wp2_with fail
        obtain ⟨W1, hW⟩ : ∃ W1 : World, w.alloc (.cells #[.slice A n c] 40) = W1 := ⟨_, rfl⟩
        have hz1 : W1.heap.size = w.heap.size + 1 := by rw [← hW]; simp
        rw [hW] at hR hR' hC hB ⊢
        clear hW h h'
        ((with_reducible refine (isMan_any A n c xss _ hR (by omega) hnc).mono ?_); rintro e w2 ⟨rfl, f2⟩)
        rw [hM.out]
        have y2 := f2.size
        have C2 := (f2.cell (p := ⟨w.heap.size, 0, none⟩) (by simp; omega)).trans hC
        have R2 := hR.below f2 (by omega)
        have R2' := hR'.below f2 (by omega)
        go_wp2_with fail
        ((with_reducible refine (hasFlag_any _ A n c xss x _ C2 R2 (by omega) hf4).mono ?_); rintro e w' ⟨rfl, rfl⟩)
        rw [hF1.out]
        have B3 := f2
        have C3 := C2
        have R3 := R2
        have R3' := R2'
        go_wp2_with fail
        ((with_reducible refine (isWord_any _ A n c A' m' c' word _ C3 hm R3' (by omega)).mono ?_); rintro e w4 ⟨rfl, f4⟩)
        rw [hF2.out]
        have y4 := f4.size
        have B4 : Below W1.heap.size W1 w4 := below_then B3 f4 (by omega)
        have C4 := (f4.cell (p := ⟨w.heap.size, 0, none⟩) (by simp; omega)).trans C3
        have R4 := R3.below f4 (by omega)
        have R4' := R3'.below f4 (by omega)
        go_wp2_with fail
        go_ret2
        exact ⟨_, _, rfl, Lib.hid hF.out.symm, hB.trans (B4.mono (by omega))⟩
      | true =>
        have hF : runF xss x word = (runW xss word x, 0) := by unfold runF; rw [if_pos hM, hF1, hl, hF2]; rfl
        have hwr : ∀ g ∈ word, 0 ≤ g ∧ g < n := fun g hg => by have h3 := (Bool.and_eq_true_iff.1 hF2).2; have := inR_iff.1 (List.all_eq_true.1 h3 g hg); omega
        replace hF := Lib.hid hF
        replace hM := Lib.hid hM
        replace hl := Lib.hid hl
        replace hS := Lib.hid hS
        replace hF1 := Lib.hid hF1
        replace hF2 := Lib.hid hF2
        replace hwr := Lib.hid hwr
        go_enter Try.func36, Try.ntmps36
        go_wp2_with fail
        obtain ⟨W1, hW⟩ : ∃ W1 : World, w.alloc (.cells #[.slice A n c] 40) = W1 := ⟨_, rfl⟩
        have hz1 : W1.heap.size = w.heap.size + 1 := by rw [← hW]; simp
        rw [hW] at hR hR' hC hB ⊢
        clear hW h h'
        ((with_reducible refine (isMan_any A n c xss _ hR (by omega) hnc).mono ?_); rintro e w2 ⟨rfl, f2⟩)
        rw [hM.out]
        have y2 := f2.size
        have C2 := (f2.cell (p := ⟨w.heap.size, 0, none⟩) (by simp; omega)).trans hC
        have R2 := hR.below f2 (by omega)
        have R2' := hR'.below f2 (by omega)
        go_wp2_with fail
        ((with_reducible refine (hasFlag_any _ A n c xss x _ C2 R2 (by omega) hf4).mono ?_); rintro e w' ⟨rfl, rfl⟩)
        rw [hF1.out]
        have B3 := f2
        have C3 := C2
        have R3 := R2
        have R3' := R2'
        go_wp2_with fail
        ((with_reducible refine (isWord_any _ A n c A' m' c' word _ C3 hm R3' (by omega)).mono ?_); rintro e w4 ⟨rfl, f4⟩)
        rw [hF2.out]
        have y4 := f4.size
        have B4 : Below W1.heap.size W1 w4 := below_then B3 f4 (by omega)
        have C4 := (f4.cell (p := ⟨w.heap.size, 0, none⟩) (by simp; omega)).trans C3
        have R4 := R3.below f4 (by omega)
        have R4' := R3'.below f4 (by omega)
        go_wp2_with fail
        ((with_reducible refine (applied_any A n c xss A' m' c' word x (flg xss) _ R4 R4' hSr.out hSl.out hwr.out hxa (by omega)).mono ?_); rintro e w' ⟨rfl, rfl⟩)
        have B5 := B4
        go_wp2_with fail
        go_ret2
        exact ⟨_, _, rfl, Lib.hid hF.out.symm, hB.trans (B5.mono (by omega))⟩
end Go.Proofs.Ytdaljeghdiknpaa
/- Two -/
namespace Go.Proofs.Ytdaljeghdiknpaa
open Go.RowKit
set_option linter.unusedVariables false
/-- two rows of one type that grow in turn: apart from each other and from the blocks of [l, h) -/
structure Two (wq : World) (base l h : Nat) (T : TypeId) (A6 : Option Addr) (n6 c6 : Nat) (us6 : List Value) (A7 : Option Addr) (n7 c7 : Nat) (us7 : List Value) : Prop where
  r6 : wq.ownsRow base T 1 (.slice A6 n6 c6) n6 us6
  r7 : wq.ownsRow base T 1 (.slice A7 n7 c7) n7 us7
  ap : ∀ q, (Value.slice A6 n6 c6).ownBlock = some q → (Value.slice A7 n7 c7).ownBlock ≠ some q
  f6 : ∀ q, (Value.slice A6 n6 c6).ownBlock = some q → q < l ∨ h ≤ q
  f7 : ∀ q, (Value.slice A7 n7 c7).ownBlock = some q → q < l ∨ h ≤ q
  hh : h ≤ wq.heap.size
theorem Two.swap {wq : World} {base l h : Nat} {T : TypeId} {A6 A7 : Option Addr} {n6 c6 n7 c7 : Nat} {us6 us7 : List Value} (t : Two wq base l h T A6 n6 c6 us6 A7 n7 c7 us7) : Two wq base l h T A7 n7 c7 us7 A6 n6 c6 us6 :=
  ⟨t.r7, t.r6, fun q h1 h2 => t.ap q h2 h1, t.f7, t.f6, t.hh⟩
/-- the first row has grown by one -/
theorem Two.grow {wq wz : World} {base l h : Nat} {T : TypeId} {A6 A7 : Option Addr} {n6 c6 n7 c7 g c' : Nat} {us6 us7 us : List Value} (t : Two wq base l h T A6 n6 c6 us6 A7 n7 c7 us7)
    (ho : wz.ownsRow base T 1 (.slice (some ⟨g, 0, none⟩) (n6 + 1) c') (n6 + 1) us) (hg : wq.grownBy wz (Value.slice A6 n6 c6).ownBlock) (hor : A6 = some ⟨g, 0, none⟩ ∨ wq.heap.size ≤ g) :
    Two wz base l h T (some ⟨g, 0, none⟩) (n6 + 1) c' us A7 n7 c7 us7 ∧ Same l h wq wz := by
  have hz := hg.size
  have hh := t.hh
  have e6 : ∀ q, (Value.slice (some ⟨g, 0, none⟩) (n6 + 1) c').ownBlock = some q → q = g := fun q hq => by
    simp [Value.ownBlock] at hq
    exact hq.symm
  have hold : A6 = some ⟨g, 0, none⟩ → (Value.slice A6 n6 c6).ownBlock = some g := fun e => by rw [e]; simp [Value.ownBlock]
  refine ⟨⟨ho, t.r7.kept hg ?_, fun q h1 h2 => ?_, fun q hq => ?_, t.f7, by omega⟩, same_grown hg hh t.f6⟩
  · cases hb : (Value.slice A7 n7 c7).ownBlock with
    | none => exact .inl rfl
    | some z => exact .inr (fun e => t.ap z e.symm hb)
  · have hq := e6 q h1
    subst hq
    rcases hor with e | e
    · exact t.ap q (hold e) h2
    · have := (t.r7.lt q h2).2; omega
  · have hq := e6 q hq
    subst hq
    rcases hor with e | e
    · exact t.f6 q (hold e)
    · omega
end Go.Proofs.Ytdaljeghdiknpaa
/- DrwS -/
namespace Go.Proofs.Ytdaljeghdiknpaa
open Go.RowKit
set_option linter.unusedVariables false
set_option maxRecDepth 100000
theorem lit_rd (w : World) (vs : Array Value) (T : TypeId) (h : vs.size ≤ 9223372036854775807) : Rd (w.alloc (.cells vs T)) w.heap.size (w.heap.size + 1) (some ⟨w.heap.size, 0, none⟩) vs.size vs.toList := by
  refine ⟨by simp, h, fun _ => ⟨_, _, rfl, Nat.le_refl _, Nat.lt_succ_self _, fun k v hv => ?_⟩⟩
  unfold World.cell?
  rw [heap_newest]
  simpa using hv
/-- what l01Spoil leaves: a list of m numbers in a row of its own, the source with another state -/
def DrawnL (w w' : World) (lo g : Nat) (T T1 : TypeId) (A : Option Addr) (n c : Nat) (bs : List Int) (A1 : Option Addr) (m c1 : Nat) : Prop :=
  ∃ (i' h' : Nat) (xs : List Int), Own w' w.heap.size w'.heap.size T1 A1 m c1 (xs.map (Value.int .i64)) ∧ Src w' lo g T A n c bs i' h' ∧ Chg g (g + 1) w w'
set_option maxHeartbeats 1000000 in
theorem spoil_any (w : World) (lo g : Nat) (A : Option Addr) (n c : Nat) (bs : List Int) (i h : Nat) (s : Src w lo g 122 A n c bs i h) (m : Nat) (hm : m ≤ 1048576) :
    Calls Try.prog 115 #[.pointer (some ⟨g, 0, none⟩), .int .i64 m] w fun e w' => ∃ (A1 : Option Addr) (c1 : Nat), e = .returned (.slice A1 m c1) ∧ DrawnL w w' lo g 122 2 A n c bs A1 m c1 := by
  have hgl := s.lt
  have hD := draw_any w lo g A n c bs i h s m hm
  go_enter Try.func115, Try.ntmps115
  go_wp2_with fail
  ((with_reducible refine hD.mono ?_); rintro e w1 ⟨A1, c1, rfl, D⟩)
  obtain ⟨i1, h1, xs, hO, hP, hS, hC⟩ := D
  have hz1 := hC.size
  clear hP hD
  by_cases h0 : 0 < m
  · have d0 : decide ((0 : Int) < (m : Int)) = true := by simp; omega
    have hn := next_any w1 lo g A n c bs i1 h1 hS 20 (by omega) (by omega)
    go_wp2_with fail
    ((with_reducible refine hn.mono ?_); rintro e w2 ⟨v, i2, rfl, P⟩)
    have S2 := P.src
    have C2 := P.chg
    have z2 := Nat.le_of_eq P.size.symm
    clear P hn
    have O2 := hO.keep (Same.of_chg C2 (Nat.le_refl _) (by omega))
    have D2 := hC.trans C2 ⟨Nat.le_refl _, Nat.le_refl _⟩ ⟨Nat.le_refl _, Nat.le_refl _⟩
    by_cases hv : v = 0
    · subst hv
      have hn3 := next_any w2 lo g A n c bs i2 _ S2 (m : Int) (by omega) (by omega)
      go_wp2_with fail
      ((with_reducible refine hn3.mono ?_); rintro e w3 ⟨V, i3, rfl, P3⟩)
      have p1 := P3.ge
      have p2 := P3.lt
      obtain ⟨K, rfl⟩ := Int.eq_ofNat_of_zero_le p1
      have S3 := P3.src
      have C3 := P3.chg
      have z3 := Nat.le_of_eq P3.size.symm
      clear P3 hn3
      have O3 := O2.keep (Same.of_chg C3 (by omega) (by omega))
      have D3 := D2.trans C3 ⟨Nat.le_refl _, Nat.le_refl _⟩ ⟨Nat.le_refl _, Nat.le_refl _⟩
      have L4 : RI (w3.alloc (.cells #[.int .i64 (-1), .int .i64 m, .int .i64 0, .int .i64 1099511627776] 2)) w3.heap.size (w3.heap.size + 1) (some ⟨w3.heap.size, 0, none⟩) 4 [-1, (m : Int), 0, 1099511627776] := lit_rd w3 #[.int .i64 (-1), .int .i64 m, .int .i64 0, .int .i64 1099511627776] 2 (by simp)
      have B4 : Below w3.heap.size w3 (w3.alloc (.cells #[.int .i64 (-1), .int .i64 m, .int .i64 0, .int .i64 1099511627776] 2)) := (Below.refl _ _).alloc (Nat.le_refl _) _
      have S4 := S3.below B4 (by omega)
      have O4 := O3.below B4 (by omega)
      have D4 := D3.trans_below B4
      have hp := pick_any _ lo g A n c bs i3 _ S4 _ 4 4 _ L4 (by omega) (by simp) (by omega) (by omega)
      go_wp2_with fail
      ((with_reducible refine hp.mono ?_); rintro e w5 ⟨v5, i5, h5, y, rfl, hy, S5, C5, z5⟩)
      clear hp hy
      replace z5 := Nat.le_of_eq z5.symm
      rw [World.size_alloc] at z5
      have O5 := O4.keep (Same.of_chg C5 (by simp; omega) (by omega))
      have D5 := D4.trans C5 ⟨Nat.le_refl _, Nat.le_refl _⟩ ⟨Nat.le_refl _, Nat.le_refl _⟩
      obtain ⟨b, x, rfl, hb0, hb2, hb3, hx, -, hcx, hf⟩ := O5.at_ (k := K) (by omega)
      have fK := hf K
      clear hf
      have k2 : (K : Int) < (m : Int) := by omega
      have k1 : (0 : Int) ≤ (K : Int) := by omega
      have S6 := S5.far (p := ⟨b, K, none⟩) (by simp; omega) (by simp; have := S5.above; omega) (.int .i64 y)
      have O6 := O5.setI (k := K) y
      have D6 := D5.setNew (p := ⟨b, K, none⟩) hb0 (.int .i64 y)
      have z6 : ((w5.setCell ⟨b, K, none⟩ (.int .i64 y)).heap.size) = w5.heap.size := World.size_setCell _ _ _
      have z7 : w1.heap.size ≤ w5.heap.size := by omega
      go_wp2_with fail
      go_ret
      exact ⟨_, c1, rfl, i5, h5, _, O6.more (Nat.le_refl _) (by rw [z6]; exact z7), S6, D6⟩
    · have d1 : (v == 0) = false := by simpa using hv
      go_wp2_with fail
      go_ret
      exact ⟨A1, c1, rfl, i2, _, xs, O2.more (Nat.le_refl _) (by omega), S2, D2⟩
  · have d0 : decide ((0 : Int) < (m : Int)) = false := by simp; omega
    go_wp2_with fail
    go_ret
    exact ⟨A1, c1, rfl, i1, h1, xs, hO, hS, hC⟩
end Go.Proofs.Ytdaljeghdiknpaa
/- BesP -/
namespace Go.Proofs.Ytdaljeghdiknpaa
set_option linter.unusedVariables false
/-- a row of the first system, at pairs; f = x * b + y -/
def besA (p : List Int) (b f : Nat) : Int := p.getD (f / b) 0 * (b : Int) + ((f % b : Nat) : Int)
def besB (q : List Int) (b f : Nat) : Int := ((f / b * b : Nat) : Int) + q.getD (f % b) 0
/-- the rows of both -/
def besL (xss yss : List (List Int)) (a b : Nat) : List (List Int) := xss.map (fun p => (List.range (a * b)).map (besA p b)) ++ yss.map (fun q => (List.range (a * b)).map (besB q b))
theorem besL_length (xss yss : List (List Int)) (a b : Nat) : (besL xss yss a b).length = xss.length + yss.length := by simp [besL]
theorem pair_lt {a b x y : Nat} (hx : x < a) (hy : y < b) : x * b + y < a * b := by
  have h1 : (x + 1) * b ≤ a * b := Nat.mul_le_mul_right b (by omega)
  rw [Nat.succ_mul] at h1
  omega
theorem pair_inj {b x y x' y' : Nat} (hy : y < b) (hy' : y' < b) (h : x * b + y = x' * b + y') : x = x' ∧ y = y' := by
  have hb : 0 < b := by omega
  have e1 : (x * b + y) / b = x := by rw [Nat.mul_comm, Nat.mul_add_div hb, Nat.div_eq_of_lt hy]; rfl
  have e2 : (x' * b + y') / b = x' := by rw [Nat.mul_comm, Nat.mul_add_div hb, Nat.div_eq_of_lt hy']; rfl
  have : x = x' := by rw [← e1, h, e2]
  subst this
  exact ⟨rfl, by omega⟩
theorem row_at {p : List Int} {n : Nat} (hr : ∀ x ∈ p, 0 ≤ x ∧ x < n) (hl : p.length = n) {i : Nat} (hi : i < n) : ∃ u : Nat, p[i]? = some (u : Int) ∧ p.getD i 0 = (u : Int) ∧ u < n := by
  have h1 : i < p.length := by omega
  obtain ⟨h2, h3⟩ := hr p[i] (List.getElem_mem h1)
  obtain ⟨u, hu⟩ := Int.eq_ofNat_of_zero_le h2
  refine ⟨u, by rw [List.getElem?_eq_getElem h1, hu], by rw [List.getD_eq_getElem?_getD, List.getElem?_eq_getElem h1, hu]; rfl, by omega⟩
theorem row_inj {p : List Int} (hn : p.Nodup) {i j : Nat} {x : Int} (h1 : p[i]? = some x) (h2 : p[j]? = some x) : i = j := (idxOf_of_get? hn h1).symm.trans (idxOf_of_get? hn h2)
theorem bes_sys {xss yss : List (List Int)} {a b : Nat} (hx : SysOf xss a) (hy : SysOf yss b) : SysOf (besL xss yss a b) (a * b) := by
  intro r hr
  unfold besL at hr
  have hbp : ∀ f, f < a * b → 0 < b ∧ f / b < a ∧ f % b < b ∧ f / b * b + f % b = f := by
    intro f hf
    have hb : 0 < b := by rcases Nat.eq_zero_or_pos b with e | e; subst e; simp at hf; exact e
    exact ⟨hb, by rw [Nat.div_lt_iff_lt_mul hb]; exact hf, Nat.mod_lt _ hb, by rw [Nat.mul_comm]; exact Nat.div_add_mod f b⟩
  rcases List.mem_append.1 hr with h | h
  · obtain ⟨p, hp, rfl⟩ := List.mem_map.1 h
    obtain ⟨p1, p2, p3⟩ := hx p hp
    have key : ∀ f, f < a * b → ∃ u : Nat, p[f / b]? = some (u : Int) ∧ besA p b f = ((u * b + f % b : Nat) : Int) ∧ u < a := by
      intro f hf
      obtain ⟨hb, h1, h2, h3⟩ := hbp f hf
      obtain ⟨u, u1, u2, u3⟩ := row_at p1 p3 h1
      exact ⟨u, u1, by unfold besA; rw [u2, Int.natCast_add, Int.natCast_mul], u3⟩
    refine fun_perm (fun f hf => ?_) (fun f g hf hg e => ?_)
    · obtain ⟨u, _, u2, u3⟩ := key f hf
      obtain ⟨hb, h1, h2, h3⟩ := hbp f hf
      have := pair_lt u3 h2
      rw [u2]; omega
    · obtain ⟨u, u1, u2, u3⟩ := key f hf
      obtain ⟨v, v1, v2, v3⟩ := key g hg
      obtain ⟨hb, h1, h2, h3⟩ := hbp f hf
      obtain ⟨_, k1, k2, k3⟩ := hbp g hg
      rw [u2, v2] at e
      obtain ⟨e1, e2⟩ := pair_inj h2 k2 (Int.ofNat.inj e)
      subst e1
      have e3 := row_inj p2 u1 v1
      rw [← h3, ← k3, e3, e2]
  · obtain ⟨p, hp, rfl⟩ := List.mem_map.1 h
    obtain ⟨p1, p2, p3⟩ := hy p hp
    have key : ∀ f, f < a * b → ∃ u : Nat, p[f % b]? = some (u : Int) ∧ besB p b f = ((f / b * b + u : Nat) : Int) ∧ u < b := by
      intro f hf
      obtain ⟨hb, h1, h2, h3⟩ := hbp f hf
      obtain ⟨u, u1, u2, u3⟩ := row_at p1 p3 h2
      exact ⟨u, u1, by unfold besB; rw [u2, Int.natCast_add], u3⟩
    refine fun_perm (fun f hf => ?_) (fun f g hf hg e => ?_)
    · obtain ⟨u, _, u2, u3⟩ := key f hf
      obtain ⟨hb, h1, h2, h3⟩ := hbp f hf
      have := pair_lt h1 u3
      rw [u2]; omega
    · obtain ⟨u, u1, u2, u3⟩ := key f hf
      obtain ⟨v, v1, v2, v3⟩ := key g hg
      obtain ⟨hb, h1, h2, h3⟩ := hbp f hf
      obtain ⟨_, k1, k2, k3⟩ := hbp g hg
      rw [u2, v2] at e
      obtain ⟨e1, e2⟩ := pair_inj u3 v3 (Int.ofNat.inj e)
      subst e2
      have e3 := row_inj p2 u1 v1
      rw [← h3, ← k3, e1, e3]
end Go.Proofs.Ytdaljeghdiknpaa
/- Sub -/
namespace Go.Proofs.Ytdaljeghdiknpaa
open Go.RowKit
set_option linter.unusedVariables false
set_option maxRecDepth 100000
theorem rd_sub {w : World} {lo hi n b o : Nat} {vs : List Value} (h : Rd w lo hi (some ⟨b, o, none⟩) n vs) {i j : Nat} (hij : i ≤ j) (hj : j ≤ n) {A' : Option Addr} (hA : i < j → A' = some ⟨b, o + i, none⟩) : Rd w lo hi A' (j - i) ((vs.drop i).take (j - i)) := by
  refine ⟨by have := h.1; simp; omega, by have := h.2.1; omega, fun hn => ?_⟩
  obtain ⟨b', o', e, h1, h2, hc⟩ := h.2.2 (by omega)
  injection e with e
  injection e with e1 e2 _
  subst e1; subst e2
  refine ⟨b, o + i, hA (by omega), h1, h2, fun k v hv => ?_⟩
  have hk := (List.getElem?_eq_some_iff.1 hv).1
  simp at hk
  rw [List.getElem?_take_of_lt (by omega), List.getElem?_drop] at hv
  rw [Nat.add_assoc]
  exact hc (i + k) v hv
theorem rowsAt_sub {w : World} {lo hi : Nat} {vs : List Value} {xss : List (List Int)} (h : RowsAt w lo hi vs xss) (i m : Nat) : RowsAt w lo hi ((vs.drop i).take m) ((xss.drop i).take m) := by
  refine ⟨by simp [h.1], fun k v xs h1 h2 => ?_⟩
  have hk := (List.getElem?_eq_some_iff.1 h1).1
  simp at hk
  rw [List.getElem?_take_of_lt (by omega), List.getElem?_drop] at h1 h2
  exact h.2 (i + k) v xs h1 h2
theorem rs_sub {w : World} {lo hi n b o : Nat} {xss : List (List Int)} (h : RS w lo hi (some ⟨b, o, none⟩) n xss) {i j : Nat} (hij : i ≤ j) (hj : j ≤ n) {A' : Option Addr} (hA : i < j → A' = some ⟨b, o + i, none⟩) : RS w lo hi A' (j - i) ((xss.drop i).take (j - i)) := by
  obtain ⟨vs, h1, h2⟩ := h
  exact ⟨_, rd_sub h1 hij hj hA, rowsAt_sub h2 i _⟩
/-- some of the moves, from the i-th to the one ahead of the j-th -/
def subL (xss : List (List Int)) (i j : Nat) : List (List Int) := (xss.drop i).take (j - i)
theorem subL_length {xss : List (List Int)} {i j : Nat} (h : j ≤ xss.length) (hij : i ≤ j) : (subL xss i j).length = j - i := by simp [subL]; omega
theorem sysOf_sub {xss : List (List Int)} {n : Nat} (h : SysOf xss n) (i j : Nat) : SysOf (subL xss i j) n := fun p hp => h p (List.mem_of_mem_drop (List.mem_of_mem_take hp))
end Go.Proofs.Ytdaljeghdiknpaa
/- IsoP -/
namespace Go.Proofs.Ytdaljeghdiknpaa
set_option linter.unusedVariables false
set_option maxRecDepth 100000
/-- the points of ys (m of them) are carried to points of zs (n of them), row by row -/
structure Iso (ys zs : List (List Int)) (m n : Nat) (φ : Int → Int) : Prop where
  len : ys.length = zs.length
  le : m ≤ n
  rng : ∀ z : Int, 0 ≤ z → z < m → 0 ≤ φ z ∧ φ z < n
  inj : ∀ z u : Int, 0 ≤ z → z < m → 0 ≤ u → u < m → φ z = φ u → z = u
  com : ∀ (j : Nat) (q p : List Int), ys[j]? = some q → zs[j]? = some p → ∀ z : Int, 0 ≤ z → z < m → φ (at' q z) = at' p (φ z)
theorem Iso.sub {ys zs : List (List Int)} {m n : Nat} {φ : Int → Int} (h : Iso ys zs m n φ) (i j : Nat) : Iso (subL ys i j) (subL zs i j) m n φ := by
  refine ⟨by simp [subL, h.len], h.le, h.rng, h.inj, fun k q p hq hp => ?_⟩
  unfold subL at hq hp
  rw [List.getElem?_take] at hq hp
  by_cases e : k < j - i
  · rw [if_pos e, List.getElem?_drop] at hq hp
    exact h.com _ q p hq hp
  · rw [if_neg e] at hq
    exact absurd hq (by simp)
theorem map_mem_iff {φ : Int → Int} {m : Nat} (hi : ∀ z u : Int, 0 ≤ z → z < m → 0 ≤ u → u < m → φ z = φ u → z = u) {out : List Int} (hr : ∀ y ∈ out, 0 ≤ y ∧ y < m) {x : Int} (h0 : 0 ≤ x) (h1 : x < m) : φ x ∈ out.map φ ↔ x ∈ out := by
  refine ⟨fun h => ?_, fun h => List.mem_map_of_mem h⟩
  obtain ⟨y, hy, e⟩ := List.mem_map.1 h
  have := hi y x (hr y hy).1 (hr y hy).2 h0 h1 e
  rwa [← this]
theorem iso_step {m n : Nat} {φ : Int → Int} {y : Int} (h0 : 0 ≤ y) (h1 : y < m) : ∀ (ys zs : List (List Int)) (out : List Int), SysOf ys m → Iso ys zs m n φ → (∀ x ∈ out, 0 ≤ x ∧ x < m) →
    bfsStep zs (φ y) (out.map φ) = (bfsStep ys y out).map φ ∧ ∀ x ∈ bfsStep ys y out, 0 ≤ x ∧ x < m := by
  intro ys
  induction ys with
  | nil =>
    intro zs out _ hI hr
    obtain rfl : zs = [] := by have := hI.len; cases zs with | nil => rfl | cons _ _ => simp at this
    exact ⟨rfl, hr⟩
  | cons q t ih =>
    intro zs out hs hI hr
    cases zs with
    | nil => have := hI.len; simp at this
    | cons p s =>
      have hc := hI.com 0 q p rfl rfl y h0 h1
      have hq := at'_rng (hs q (by simp)).1 (hs q (by simp)).2.2 h0 h1
      have hI' : Iso t s m n φ := ⟨by have := hI.len; simpa using this, hI.le, hI.rng, hI.inj, fun j a b ha hb => hI.com (j + 1) a b (by simpa using ha) (by simpa using hb)⟩
      have hs' : SysOf t m := fun a ha => hs a (by simp [ha])
      have hmem := map_mem_iff hI.inj hr hq.1 hq.2
      have e : bfsStep (p :: s) (φ y) (out.map φ) = bfsStep s (φ y) (if at' p (φ y) ∈ out.map φ then out.map φ else out.map φ ++ [at' p (φ y)]) := rfl
      have e2 : bfsStep (q :: t) y out = bfsStep t y (if at' q y ∈ out then out else out ++ [at' q y]) := rfl
      rw [e, e2, ← hc]
      by_cases hm : at' q y ∈ out
      · rw [if_pos hm, if_pos (hmem.2 hm)]
        exact ih s out hs' hI' hr
      · rw [if_neg hm, if_neg (fun g => hm (hmem.1 g)), show out.map φ ++ [φ (at' q y)] = (out ++ [at' q y]).map φ by simp]
        refine ih s _ hs' hI' ?_
        intro x hx
        rcases List.mem_append.1 hx with g | g
        · exact hr x g
        · rw [List.mem_singleton.1 g]; exact hq
theorem iso_go {m n : Nat} {φ : Int → Int} {ys zs : List (List Int)} (hs : SysOf ys m) (hI : Iso ys zs m n φ) : ∀ (f : Nat) (out : List Int) (i : Nat), (∀ x ∈ out, 0 ≤ x ∧ x < m) → bfsGo zs f (out.map φ) i = (bfsGo ys f out i).map φ := by
  intro f
  induction f with
  | zero => intro out i _; rfl
  | succ f ih =>
    intro out i hr
    cases hx : out[i]? with
    | none =>
      have := List.getElem?_eq_none_iff.1 hx
      rw [bfsGo_stop this, bfsGo_stop (by simpa using this)]
    | some y =>
      have hy := hr y (mem_of_get? hx)
      obtain ⟨e1, e2⟩ := iso_step hy.1 hy.2 ys zs out hs hI hr
      rw [bfsGo_step hx, bfsGo_step (show (out.map φ)[i]? = some (φ y) by simp [hx]), e1]
      exact ih _ _ e2
theorem bfsGo_more {list : List (List Int)} {m : Nat} {x : Int} (hs : SysOf list m) (k : Nat) : ∀ (f : Nat) (out : List Int) (i : Nat), Met list m x out → m < f + i → bfsGo list (f + k) out i = bfsGo list f out i := by
  intro f
  induction f with
  | zero =>
    intro out i h hf
    have := h.len
    rw [bfsGo_stop (by omega), bfsGo_stop (by omega)]
  | succ f ih =>
    intro out i h hf
    cases hx : out[i]? with
    | none =>
      have := List.getElem?_eq_none_iff.1 hx
      rw [bfsGo_stop this, bfsGo_stop this]
    | some y =>
      rw [show f + 1 + k = (f + k) + 1 by omega, bfsGo_step hx, bfsGo_step hx]
      exact ih _ _ (bfsStep_spec hs list out (fun _ g => g) h (mem_of_get? hx)).1 (by omega)
theorem iso_bfs {m n : Nat} {φ : Int → Int} {ys zs : List (List Int)} {x : Int} (hs : SysOf ys m) (hI : Iso ys zs m n φ) (h0 : 0 ≤ x) (h1 : x < m) : bfs zs n (φ x) = (bfs ys m x).map φ := by
  have e := iso_go hs hI (n + 1) [x] 0 (by simpa using ⟨h0, h1⟩)
  unfold bfs
  rw [show ([φ x] : List Int) = [x].map φ from rfl, e]
  have hle := hI.le
  have := bfsGo_more hs (n - m) (m + 1) [x] 0 (Met.one h0 h1) (by omega)
  rw [show m + 1 + (n - m) = n + 1 by omega] at this
  rw [this]
theorem iso_len {m n : Nat} {φ : Int → Int} {ys zs : List (List Int)} {x : Int} (hs : SysOf ys m) (hI : Iso ys zs m n φ) (h0 : 0 ≤ x) (h1 : x < m) : (bfs zs n (φ x)).length = (bfs ys m x).length := by
  rw [iso_bfs hs hI h0 h1, List.length_map]
theorem idxOf_map {φ : Int → Int} {m : Nat} (hi : ∀ z u : Int, 0 ≤ z → z < m → 0 ≤ u → u < m → φ z = φ u → z = u) {x : Int} (h0 : 0 ≤ x) (h1 : x < m) : ∀ out : List Int, (∀ y ∈ out, 0 ≤ y ∧ y < m) → (out.map φ).idxOf (φ x) = out.idxOf x := by
  intro out
  induction out with
  | nil => intro _; rfl
  | cons a t ih =>
    intro hr
    rw [List.map_cons, List.idxOf_cons, List.idxOf_cons, ih (fun y hy => hr y (by simp [hy]))]
    by_cases e : a = x
    · subst e; simp
    · have : φ a ≠ φ x := fun g => e (hi a x (hr a (by simp)).1 (hr a (by simp)).2 h0 h1 g)
      rw [show (φ a == φ x) = false from beq_false_of_ne this, show (a == x) = false from beq_false_of_ne e]
/-- the form from a flag is that from the flag to which it is carried -/
theorem iso_form {m n : Nat} {φ : Int → Int} {ys zs : List (List Int)} {x : Int} (hs : SysOf ys m) (hI : Iso ys zs m n φ) (h0 : 0 ≤ x) (h1 : x < m) : formL zs n (φ x) = formL ys m x := by
  have hm := bfs_met hs h0 h1
  unfold formL
  rw [iso_bfs hs hI h0 h1]
  refine List.ext_getElem? fun j => ?_
  rw [List.getElem?_map, List.getElem?_map]
  by_cases hj : j < ys.length
  · have hj2 : j < zs.length := by have := hI.len; omega
    have e1 := List.getElem?_eq_getElem hj
    have e2 := List.getElem?_eq_getElem hj2
    rw [e1, e2]
    simp only [Option.map_some, Option.some.injEq]
    unfold ixF
    rw [List.map_map]
    refine List.map_congr_left fun f hf => ?_
    have hr := hm.rng f hf
    have hq := hs _ (mem_of_get? e1)
    have hb := at'_rng hq.1 hq.2.2 hr.1 hr.2
    have hc := hI.com j _ _ e1 e2 f hr.1 hr.2
    show ((List.map φ (bfs ys m x)).idxOf (at' zs[j] (φ f)) : Int) = _
    rw [← hc, idxOf_map hI.inj hb.1 hb.2 _ hm.rng]
  · have hj2 : ¬ j < zs.length := by have := hI.len; omega
    rw [List.getElem?_eq_none (by omega), List.getElem?_eq_none (by omega)]
    rfl
theorem iso_rch {m n : Nat} {φ : Int → Int} {ys zs : List (List Int)} (hs : SysOf ys m) (hI : Iso ys zs m n φ) {x y : Int} (h0 : 0 ≤ x) (h1 : x < m) (h : Rch ys x y) : Rch zs (φ x) (φ y) := by
  induction h with
  | refl => exact .refl
  | step hxy hp ih =>
    rename_i y p
    obtain ⟨j, hj⟩ := List.mem_iff_getElem?.1 hp
    have hj2 : j < zs.length := by have := (List.getElem?_eq_some_iff.1 hj).1; have := hI.len; omega
    have hr := hxy.rng hs h0 h1
    rw [hI.com j p _ hj (List.getElem?_eq_getElem hj2) y hr.1 hr.2]
    exact ih.step (List.getElem_mem hj2)
/-- what is reached from a point carried over is carried over -/
theorem iso_rch_back {m n : Nat} {φ : Int → Int} {ys zs : List (List Int)} (hs : SysOf ys m) (hI : Iso ys zs m n φ) {x u : Int} (h0 : 0 ≤ x) (h1 : x < m) (h : Rch zs (φ x) u) : ∃ y, u = φ y ∧ 0 ≤ y ∧ y < m ∧ Rch ys x y := by
  induction h with
  | refl => exact ⟨x, rfl, h0, h1, .refl⟩
  | step hxy hp ih =>
    rename_i u p
    obtain ⟨y, rfl, y0, y1, hy⟩ := ih
    obtain ⟨j, hj⟩ := List.mem_iff_getElem?.1 hp
    have hj2 : j < ys.length := by have := (List.getElem?_eq_some_iff.1 hj).1; have := hI.len; omega
    have e := List.getElem?_eq_getElem hj2
    have hq := hs _ (List.getElem_mem hj2)
    have hb := at'_rng hq.1 hq.2.2 y0 y1
    exact ⟨at' ys[j] y, (hI.com j _ p e hj y y0 y1).symm, hb.1, hb.2, hy.step (List.getElem_mem hj2)⟩
/-- the form from a flag is like what the flag leads to -/
theorem form_iso {xss : List (List Int)} {n : Nat} {x : Int} (hs : SysOf xss n) (h0 : 0 ≤ x) (h1 : x < n) : Iso (formL xss n x) xss (bfs xss n x).length n (fun j => (bfs xss n x).getD j.toNat 0) := by
  have hm := bfs_met hs h0 h1
  have key : ∀ j : Int, 0 ≤ j → j < (bfs xss n x).length → (bfs xss n x)[j.toNat]? = some ((bfs xss n x).getD j.toNat 0) := fun j j0 j1 => get?_getD 0 (by omega)
  refine ⟨formL_length _ _ _, hm.len, fun z z0 z1 => hm.rng _ (mem_of_get? (key z z0 z1)), fun z u z0 z1 u0 u1 e => ?_, fun j q p hq hp z z0 z1 => ?_⟩
  · have a := idxOf_of_get? hm.nd (key z z0 z1)
    have b := idxOf_of_get? hm.nd (key u u0 u1)
    have e : (bfs xss n x).getD z.toNat 0 = (bfs xss n x).getD u.toNat 0 := e
    rw [e, b] at a
    omega
  · unfold formL at hq
    rw [List.getElem?_map, hp] at hq
    simp only [Option.map_some, Option.some.injEq] at hq
    subst hq
    have hk := key z z0 z1
    have hmem := bfs_closed hs h0 h1 (mem_of_get? hk) (mem_of_get? hp)
    have e : at' (ixF (bfs xss n x) p) z = ((bfs xss n x).idxOf (at' p ((bfs xss n x).getD z.toNat 0)) : Int) := by
      unfold at' ixF
      rw [List.getD_eq_getElem?_getD, List.getElem?_map, hk]
      rfl
    show (bfs xss n x).getD (at' (ixF (bfs xss n x) p) z).toNat 0 = _
    rw [e, Int.toNat_natCast]
    exact getD_some (get?_idxOf hmem)
theorem form_sys {xss : List (List Int)} {n : Nat} {x : Int} (hs : SysOf xss n) (h0 : 0 ≤ x) (h1 : x < n) : SysOf (formL xss n x) (bfs xss n x).length := by
  have hm := bfs_met hs h0 h1
  intro q hq
  obtain ⟨p, hp, rfl⟩ := List.mem_map.1 hq
  obtain ⟨p1, p2, p3⟩ := hs p hp
  refine ⟨fun y hy => ?_, ?_, ixF_length _ _⟩
  · obtain ⟨f, hf, rfl⟩ := List.mem_map.1 hy
    have := List.idxOf_lt_length_iff.2 (bfs_closed hs h0 h1 hf hp)
    omega
  · unfold ixF
    rw [List.nodup_iff_pairwise_ne, List.pairwise_map]
    refine List.Pairwise.imp_of_mem ?_ (List.nodup_iff_pairwise_ne.1 hm.nd)
    intro a b ha hb hab e
    have ea := get?_idxOf (bfs_closed hs h0 h1 ha hp)
    have eb := get?_idxOf (bfs_closed hs h0 h1 hb hp)
    have e' : (bfs xss n x).idxOf (at' p a) = (bfs xss n x).idxOf (at' p b) := by omega
    rw [e', eb] at ea
    have := Option.some.inj ea
    exact hab (at'_inj p2 p3 (hm.rng a ha).1 (hm.rng a ha).2 (hm.rng b hb).1 (hm.rng b hb).2 this.symm)
end Go.Proofs.Ytdaljeghdiknpaa
/- FsP -/
namespace Go.Proofs.Ytdaljeghdiknpaa
set_option linter.unusedVariables false
set_option maxRecDepth 100000
open Classical
/-- each of hs commutes with each of ks -/
def CommL (hs ks : List (List Int)) (n : Nat) : Prop := ∀ p ∈ hs, ∀ q ∈ ks, ∀ z : Int, 0 ≤ z → z < n → at' q (at' p z) = at' p (at' q z)
theorem CommL.symm {hs ks : List (List Int)} {n : Nat} (h : CommL hs ks n) : CommL ks hs n := fun p hp q hq z z0 z1 => (h q hq p hp z z0 z1).symm
/-- a permutation that commutes with all of hs -/
theorem comm_iso {hs : List (List Int)} {q : List Int} {n : Nat} (hq : (∀ x ∈ q, 0 ≤ x ∧ x < n) ∧ q.Nodup ∧ q.length = n) (hc : ∀ p ∈ hs, ∀ z : Int, 0 ≤ z → z < n → at' q (at' p z) = at' p (at' q z)) : Iso hs hs n n (at' q) := by
  refine ⟨rfl, Nat.le_refl _, fun z z0 z1 => at'_rng hq.1 hq.2.2 z0 z1, fun z u z0 z1 u0 u1 e => at'_inj hq.2.1 hq.2.2 z0 z1 u0 u1 e, fun j a b ha hb z z0 z1 => ?_⟩
  rw [ha] at hb
  cases hb
  exact hc _ (mem_of_get? ha) z z0 z1
theorem bfs_same {hs : List (List Int)} {n : Nat} {x y : Int} (hS : SysOf hs n) (h0 : 0 ≤ x) (h1 : x < n) (h : Rch hs x y) : (bfs hs n y).length = (bfs hs n x).length := by
  have hr := h.rng hS h0 h1
  have a := bfs_met hS h0 h1
  have b := bfs_met hS hr.1 hr.2
  have hb := h.symm hS h0 h1
  exact Nat.le_antisymm (nodup_sub_len _ _ b.nd fun z hz => (bfs_mem hS h0 h1).2 (h.trans (b.rch z hz))) (nodup_sub_len _ _ a.nd fun z hz => (bfs_mem hS hr.1 hr.2).2 (hb.trans (a.rch z hz)))
/-- the orbits of hs have one size within an orbit of all -/
theorem orb_size {hs ks ls : List (List Int)} {n : Nat} {x y : Int} (hH : SysOf hs n) (hK : SysOf ks n) (hl : ∀ p ∈ ls, p ∈ hs ∨ p ∈ ks) (hc : CommL hs ks n) (h0 : 0 ≤ x) (h1 : x < n) (h : Rch ls x y) : 0 ≤ y ∧ y < n ∧ (bfs hs n y).length = (bfs hs n x).length := by
  induction h with
  | refl => exact ⟨h0, h1, rfl⟩
  | step hxy hp ih =>
    rename_i y p
    obtain ⟨y0, y1, e⟩ := ih
    rcases hl p hp with g | g
    · have hr := at'_rng (hH p g).1 (hH p g).2.2 y0 y1
      exact ⟨hr.1, hr.2, (bfs_same hH y0 y1 (Rch.refl.step g)).trans e⟩
    · have hr := at'_rng (hK p g).1 (hK p g).2.2 y0 y1
      exact ⟨hr.1, hr.2, (iso_len hH (comm_iso (hK p g) (fun a ha => hc a ha p g)) y0 y1).trans e⟩
/-- first the moves of ks, then those of hs -/
theorem rch_split {hs ks ls : List (List Int)} {n : Nat} {x y : Int} (hH : SysOf hs n) (hK : SysOf ks n) (hl : ∀ p ∈ ls, p ∈ hs ∨ p ∈ ks) (hc : CommL hs ks n) (h0 : 0 ≤ x) (h1 : x < n) (h : Rch ls x y) : ∃ z, Rch ks x z ∧ Rch hs z y := by
  induction h with
  | refl => exact ⟨x, .refl, .refl⟩
  | step hxy hp ih =>
    rename_i y p
    obtain ⟨z, hz1, hz2⟩ := ih
    rcases hl p hp with g | g
    · exact ⟨z, hz1, hz2.step g⟩
    · have hr := hz1.rng hK h0 h1
      exact ⟨at' p z, hz1.step g, iso_rch hH (comm_iso (hK p g) (fun a ha => hc a ha p g)) hr.1 hr.2 hz2⟩
theorem sum_const {l : List Int} {f : Int → List Int} {h : Nat} (hf : ∀ z ∈ l, (f z).length = h) : (l.flatMap f).length = l.length * h := by
  induction l with
  | nil => simp
  | cons a t ih =>
    rw [List.flatMap_cons, List.length_append, hf a (by simp), ih (fun z hz => hf z (by simp [hz])), List.length_cons, Nat.add_mul, Nat.one_mul, Nat.add_comm]
theorem filter_two (p : Int → Bool) (l : List Int) : l.length = (l.filter p).length + (l.filter fun y => !p y).length := by
  induction l with
  | nil => rfl
  | cons a t ih =>
    rw [List.filter_cons, List.filter_cons]
    cases h : p a <;> simp <;> omega
/-- a list that falls into classes of h each -/
theorem part_dvd (R : Int → Int → Prop) (h : Nat) : ∀ (m : Nat) (L : List Int), L.length ≤ m → (∀ x ∈ L, R x x) → (∀ x ∈ L, ∀ y ∈ L, R x y → R y x) → (∀ x ∈ L, ∀ y ∈ L, ∀ z ∈ L, R x y → R y z → R x z) → (∀ x ∈ L, (L.filter fun y => decide (R x y)).length = h) → h ∣ L.length := by
  intro m
  induction m with
  | zero => intro L hm _ _ _ _; rw [List.eq_nil_of_length_eq_zero (l := L) (by omega)]; exact ⟨0, rfl⟩
  | succ m ih =>
    intro L hm hr hs ht hc
    cases L with
    | nil => exact ⟨0, rfl⟩
    | cons a t =>
      have hsplit := filter_two (fun y => decide (R a y)) (a :: t)
      have hca := hc a (by simp)
      have hpos : 1 ≤ ((a :: t).filter fun y => decide (R a y)).length := by
        rw [List.filter_cons, if_pos (decide_eq_true (hr a (by simp)))]
        simp
      have hmem : ∀ {x : Int}, x ∈ ((a :: t).filter fun y => !decide (R a y)) → x ∈ a :: t ∧ ¬ R a x := by
        intro x hx
        rw [List.mem_filter] at hx
        exact ⟨hx.1, by simpa using hx.2⟩
      have := ih ((a :: t).filter fun y => !decide (R a y)) (by omega) (fun x hx => hr x (hmem hx).1) (fun x hx y hy => hs x (hmem hx).1 y (hmem hy).1)
        (fun x hx y hy z hz => ht x (hmem hx).1 y (hmem hy).1 z (hmem hz).1) (fun x hx => by
          rw [List.filter_filter]
          have e : ((a :: t).filter fun y => decide (R x y) && !decide (R a y)) = (a :: t).filter fun y => decide (R x y) := by
            refine List.filter_congr fun y hy => ?_
            by_cases g : R x y
            · have : ¬ R a y := fun g2 => (hmem hx).2 (ht a (by simp) y hy x (hmem hx).1 g2 (hs x (hmem hx).1 y hy g))
              simp [g, this]
            · simp [g]
          rw [e]
          exact hc x (hmem hx).1)
      obtain ⟨k, hk⟩ := this
      refine ⟨k + 1, ?_⟩
      rw [hsplit, hca, hk, Nat.mul_add, Nat.mul_one, Nat.add_comm]
/-- the flags of an orbit of all -/
theorem orb_dvd {hs ks ls : List (List Int)} {n : Nat} {x : Int} (hH : SysOf hs n) (hK : SysOf ks n) (hL : SysOf ls n) (hl : ∀ p ∈ ls, p ∈ hs ∨ p ∈ ks) (hhl : ∀ p ∈ hs, p ∈ ls) (hc : CommL hs ks n) (h0 : 0 ≤ x) (h1 : x < n) : (bfs hs n x).length ∣ (bfs ls n x).length := by
  have hm := bfs_met hL h0 h1
  have up : ∀ a b, Rch hs a b → Rch ls a b := by
    intro a b h
    induction h with
    | refl => exact .refl
    | step _ hp ih => exact ih.step (hhl _ hp)
  refine part_dvd (Rch hs) _ _ (bfs ls n x) (Nat.le_refl _) (fun a _ => .refl) (fun a ha b _ h => h.symm hH (hm.rng a ha).1 (hm.rng a ha).2) (fun a _ b _ c _ g1 g2 => g1.trans g2) (fun a ha => ?_)
  have hr := hm.rng a ha
  have e := (orb_size hH hK hl hc h0 h1 (hm.rch a ha)).2.2
  rw [← e]
  have hb := bfs_met hH hr.1 hr.2
  refine Nat.le_antisymm (nodup_sub_len _ _ (hm.nd.filter _) fun z hz => ?_) (nodup_sub_len _ _ hb.nd fun z hz => ?_)
  · rw [List.mem_filter] at hz
    exact (bfs_mem hH hr.1 hr.2).2 (by simpa using hz.2)
  · rw [List.mem_filter]
    exact ⟨(bfs_mem hL h0 h1).2 ((hm.rch a ha).trans (up _ _ (hb.rch z hz))), by simpa using hb.rch z hz⟩
theorem orb_mul {hs ks ls : List (List Int)} {n : Nat} {x : Int} (hH : SysOf hs n) (hK : SysOf ks n) (hL : SysOf ls n) (hl : ∀ p ∈ ls, p ∈ hs ∨ p ∈ ks) (hc : CommL hs ks n) (hkl : ∀ p ∈ ks, p ∈ ls) (h0 : 0 ≤ x) (h1 : x < n) : (bfs ls n x).length ≤ (bfs ks n x).length * (bfs hs n x).length := by
  have hm := bfs_met hL h0 h1
  have hk := bfs_met hK h0 h1
  have up : ∀ a b, Rch ks a b → Rch ls a b := by
    intro a b h
    induction h with
    | refl => exact .refl
    | step _ hp ih => exact ih.step (hkl _ hp)
  rw [← sum_const (l := bfs ks n x) (f := bfs hs n) (h := (bfs hs n x).length) (fun z hz => (orb_size hH hK hl hc h0 h1 (up _ _ (hk.rch z hz))).2.2)]
  refine nodup_sub_len _ _ hm.nd fun y hy => ?_
  obtain ⟨z, hz1, hz2⟩ := rch_split hH hK hl hc h0 h1 (hm.rch y hy)
  have hzr := hz1.rng hK h0 h1
  exact List.mem_flatMap.2 ⟨z, (bfs_mem hK h0 h1).2 hz1, (bfs_mem hH hzr.1 hzr.2).2 hz2⟩
def TwoR (p : List Int) (a b : Int) : Prop := b = a ∨ b = at' p a
/-- an orbit under a free involution has an even number of points -/
theorem orb_even {tr : List (List Int)} {p : List Int} {n : Nat} {x : Int} (hS : SysOf tr n) (hp : p ∈ tr) (hi : ∀ z : Int, 0 ≤ z → z < n → at' p z ≠ z ∧ at' p (at' p z) = z) (h0 : 0 ≤ x) (h1 : x < n) : 2 ∣ (bfs tr n x).length := by
  have hm := bfs_met hS h0 h1
  refine part_dvd (TwoR p) 2 _ (bfs tr n x) (Nat.le_refl _) (fun a _ => .inl rfl) (fun a ha b _ h => ?_) (fun a ha b _ c _ g1 g2 => ?_) (fun a ha => ?_)
  · have hr := hm.rng a ha
    rcases h with rfl | rfl
    · exact .inl rfl
    · exact .inr (hi a hr.1 hr.2).2.symm
  · have hr := hm.rng a ha
    rcases g1 with rfl | rfl
    · exact g2
    · rcases g2 with rfl | rfl
      · exact .inr rfl
      · exact .inl (hi a hr.1 hr.2).2
  · have hr := hm.rng a ha
    have hne := (hi a hr.1 hr.2).1
    have hb : at' p a ∈ bfs tr n x := (bfs_mem hS h0 h1).2 ((hm.rch a ha).step hp)
    have hnd : [a, at' p a].Nodup := by simp; exact fun e => hne e.symm
    refine Nat.le_antisymm (nodup_sub_len _ [a, at' p a] (hm.nd.filter _) fun z hz => ?_) (nodup_sub_len [a, at' p a] _ hnd fun z hz => ?_)
    · rw [List.mem_filter] at hz
      have : TwoR p a z := of_decide_eq_true hz.2
      unfold TwoR at this
      simpa using this
    · simp only [List.mem_cons, List.not_mem_nil, or_false] at hz
      rw [List.mem_filter]
      rcases hz with rfl | rfl
      · exact ⟨ha, decide_eq_true (show TwoR p z z from .inl rfl)⟩
      · exact ⟨hb, decide_eq_true (show TwoR p a (at' p a) from .inr rfl)⟩
theorem erase_two {xss : List (List Int)} {i : Nat} (p : List Int) : p ∈ xss.eraseIdx i ↔ p ∈ subL xss 0 i ∨ p ∈ subL xss (i + 1) xss.length := by
  rw [List.eraseIdx_eq_take_drop_succ, List.mem_append]
  unfold subL
  rw [List.drop_zero, Nat.sub_zero, List.take_of_length_le (l := xss.drop (i + 1)) (by rw [List.length_drop]; omega)]
end Go.Proofs.Ytdaljeghdiknpaa
/- Map -/
namespace Go.Proofs.Ytdaljeghdiknpaa
open Go.RowKit
set_option linter.unusedVariables false
set_option maxRecDepth 100000
theorem bits_xor1 : ∀ f : Nat, f < 400 → bits BinOp.xor IntKind.i64 (f : Int) 1 = plyA f := by decide +kernel
theorem bits_xor2 : ∀ f : Nat, f < 400 → bits BinOp.xor IntKind.i64 (f : Int) 2 = xor2 f := by decide +kernel
/-- the row's number at i -/
def subF (ls row : List Int) (i : Nat) : Int := ((ls.idxOf (at' row (ls.getD i 0)) : Nat) : Int)
theorem subRow_eq {ls : List Int} {n : Nat} (h : ls.length = n) (row : List Int) : subRow ls row = (List.range n).map (subF ls row) := by subst h; rfl
theorem subF_val {ls pr : List Int} {i y u t : Nat} (hn : ls.Nodup) (h1 : ls[i]? = some (y : Int)) (h2 : pr[y]? = some (u : Int)) (h3 : ls[t]? = some (u : Int)) : subF ls pr i = (t : Int) := by
  unfold subF
  rw [List.getD_eq_getElem?_getD, h1]
  have e : at' pr (y : Int) = (u : Int) := by unfold at'; simp [List.getD_eq_getElem?_getD, h2]
  simp only [Option.getD_some]
  rw [e, idxOf_of_get? hn h3]
set_option maxHeartbeats 8000000 in
theorem l02Map_any (w : World) (lo g : Nat) (A : Option Addr) (n c : Nat) (bs : List Int) (i h : Nat) (s : Src w lo g 122 A n c bs i h) (k : Nat) (hk : 1 ≤ k) (hk4 : 4 * k ≤ 400) :
    Calls Try.prog 178 #[.pointer (some ⟨g, 0, none⟩), .int .i64 (k : Int)] w fun e w' => ∃ (A1 : Option Addr) (c1 : Nat) (zss : List (List Int)) (F i' h' : Nat), e = .returned (.agg #[.slice A1 3 c1]) ∧ OwnS w' w.heap.size w'.heap.size 27 2 A1 3 c1 zss ∧ SysOf zss F ∧ 1 ≤ F ∧ F ≤ 4 * k ∧ 2 ∣ F ∧ Src w' lo g 122 A n c bs i' h' ∧ Chg g (g + 1) w w' := by
  obtain ⟨j0, hj0, hy0, hy1, hy2⟩ := info_parts infoI
  obtain ⟨s0, hs0, hu0, hu1, hu2⟩ := info_parts infoS
  obtain ⟨N, hN⟩ : ∃ N, 4 * k = N := ⟨_, rfl⟩
  have hkn : (4 : Int) * (k : Int) = (N : Int) := by omega
  have hgl := s.lt
  have B0 : Below w.heap.size w (((w.alloc (.cells #[.slice none 0 0] 40)).alloc (.cells #[] 2)).alloc (.cells #[] 2)) := (((Below.refl _ _).alloc (Nat.le_refl _) _).alloc (by simp) _).alloc (by simp; omega) _
  have hM := matching_any _ lo g A n c bs i h (s.below B0 hgl) (2 * k) (by omega)
  rw [show 2 * (2 * k) = N by omega] at hM
  go_enter Try.func178, Try.ntmps178
  go_wp2_with fail
  ((with_reducible refine hM.mono ?_); rintro e w2 ⟨A8, c8, rfl, i2, h2, ms, o8, hms, s2, C2⟩)
  clear hM
  go_wp2_with fail
  have hz0 : ((w.alloc (.cells #[.slice none 0 0] 40)).alloc (.cells #[] 2)).heap.size = w.heap.size + 1 + 1 := by simp
  have hz00 : (w.alloc (.cells #[.slice none 0 0] 40)).heap.size = w.heap.size + 1 := by simp
  have zC := C2.size
  have zC3 : w.heap.size + 3 ≤ w2.heap.size := by simp at zC; omega
  have E6 := World.ownsRow_lit (e := 2) (base := w.heap.size + 1) (size := 1) (w.alloc (.cells #[.slice none 0 0] 40)) #[] 0 (by simp) (by omega) rfl
  have E7 := World.ownsRow_lit (e := 2) (base := w.heap.size + 1) (size := 1) ((w.alloc (.cells #[.slice none 0 0] 40)).alloc (.cells #[] 2)) #[] 0 (by simp) (by omega) rfl
  rw [hz00] at E6
  rw [hz0] at E7
  have o6 := ((Own.of_row E6).keep (same_alloc _ (.cells #[] 2) _ _ (Nat.le_refl _))).keep (Same.of_chg C2 (by simp) (.inr (by omega)))
  have o7 := (Own.of_row E7).keep (Same.of_chg C2 (Nat.le_refl _) (.inr (by omega)))
  have hTwo : Two w2 (w.heap.size + 1) (w.heap.size + 3) w2.heap.size 2 (some ⟨w.heap.size + 1, 0, none⟩) 0 0 (((List.range 0).map plyA).map (Value.int .i64)) (some ⟨w.heap.size + 1 + 1, 0, none⟩) 0 0 (((List.range 0).map xor2).map (Value.int .i64)) :=
    ⟨by simpa using o6.1, by simpa using o7.1, fun q h1 h2 => by simp [Value.ownBlock] at h1 h2; omega, fun q h1 => by simp [Value.ownBlock] at h1; omega, fun q h1 => by simp [Value.ownBlock] at h1; omega, Nat.le_refl _⟩
  have o8s : Own w2 (w.heap.size + 3) w2.heap.size 2 A8 N c8 (ms.map (Value.int .i64)) := o8.more (by simp) (Nat.le_refl _)
  have hms' := Lib.hid hms
  have g0 : w2.heap[w.heap.size]? = some (.cells #[.slice none 0 0] 40 (0, 0)) := (C2.block w.heap.size (by simp; omega) (.inr (by omega))).trans (((Below.heap_alloc _ _ _ (by simp; omega)).trans (Below.heap_alloc _ _ _ (by simp))).trans (heap_new _ _ _ rfl))
  have C2' : Chg g (g + 1) w w2 := (Chg.of_below g (g + 1) B0).trans C2 ⟨Nat.le_refl _, Nat.le_refl _⟩ ⟨Nat.le_refl _, Nat.le_refl _⟩
  replace g0 := Lib.hid g0
  replace s2 := Lib.hid s2
  clear E6 E7 o6 o7 o8 B0 hms C2 s hz0 hz00 zC
  go_loopw [6, 7, 9] (fun v6 v7 fv wq => ∃ (f : Nat) (A6 : Option Addr) (c6 : Nat) (A7 : Option Addr) (c7 : Nat), f ≤ N ∧ v6 = .slice A6 f c6 ∧ v7 = .slice A7 f c7 ∧ fv = .int .i64 f ∧ Hid (Two wq (w.heap.size + 1) (w.heap.size + 3) w2.heap.size 2 A6 f c6 (((List.range f).map plyA).map (Value.int .i64)) A7 f c7 (((List.range f).map xor2).map (Value.int .i64))) ∧ w2.heap.size ≤ wq.heap.size ∧ Below (w.heap.size + 1) w2 wq ∧ Hid (Same (w.heap.size + 3) w2.heap.size w2 wq)) (fun _ _ fv _ => N - (intOf fv).toNat)
  case atStart => exact ⟨0, _, _, _, _, by omega, rfl, rfl, rfl, Lib.hid hTwo, Nat.le_refl _, Below.refl _ _, Lib.hid (Same.refl _ _ _)⟩
  case round =>
    obtain ⟨f, A6, c6, A7, c7, hf, rfl, rfl, rfl, hT, hz, hb, hsm⟩ := hrel
    by_cases hlt : f < N
    · have hx1 := bits_xor1 f (by omega)
      have hx2 := bits_xor2 f (by omega)
      have T := hT.out
      go_wp2_with (at_builtin; refine wpList_append1 wr rfl (.tmp 30) (.tmp 33) 27 rfl (w.heap.size + 1) 2 j0 (.int .i64 0) 8 Try.underlying27 hj0 hy0 hy1 hy2 rfl (by omega) A6 f c6 _ (.int .i64 (plyA f)) rfl T.r6 _ rfl rfl rfl (by omega) (by omega) ?_)
      intro g4 c4 w4 ho4 hg4 hlo4 hlt4 hor4
      obtain ⟨T4, S4⟩ := T.grow ho4 hg4 hor4
      have z4 := hg4.size
      have hb4 : Below (w.heap.size + 1) w2 w4 := hb.grown hg4 (by omega) (fun q hq => (T.r6.lt q hq).1)
      have hs4 : Hid (Same (w.heap.size + 3) w2.heap.size w2 w4) := Lib.hid (hsm.out.trans S4)
      clear T hT ho4 hg4 hor4 hb hsm S4
      go_wp2_with (at_builtin; refine wpList_append1 w4 rfl (.tmp 35) (.tmp 38) 27 rfl (w.heap.size + 1) 2 j0 (.int .i64 0) 8 Try.underlying27 hj0 hy0 hy1 hy2 rfl (by omega) A7 f c7 _ (.int .i64 (xor2 f)) rfl T4.r7 _ rfl rfl rfl (by omega) (by omega) ?_)
      intro g5 c5 w5 ho5 hg5 hlo5 hlt5 hor5
      obtain ⟨T5, S5⟩ := T4.swap.grow ho5 hg5 hor5
      have z5 := hg5.size
      have hb5 : Below (w.heap.size + 1) w2 w5 := hb4.grown hg5 (by omega) (fun q hq => (T4.r7.lt q hq).1)
      have hs5 : Hid (Same (w.heap.size + 3) w2.heap.size w2 w5) := Lib.hid (hs4.out.trans S5)
      have e1 : ∀ h : Nat → Int, ((List.range (f + 1)).map h).map (Value.int .i64) = (List.range f).map (Value.int .i64 ∘ h) ++ [.int .i64 (h f)] := fun h => by rw [List.range_succ, List.map_append, List.map_append, List.map_map]; rfl
      have T6 := T5.swap
      rw [← e1, ← e1] at T6
      replace T6 := Lib.hid T6
      clear T4 T5 ho5 hg5 hor5 hb4 hs4 S5 hx1 hx2 e1
      go_wp2_with fail
      go_roundw
      case measure => simp [intOf]; omega
      case rel => exact ⟨f + 1, _, _, _, _, by omega, rfl, rfl, by go_num, T6, by omega, hb5, hs5⟩
    · obtain rfl : N = f := by omega
      obtain ⟨wl, rfl⟩ : ∃ wl : World, wl = wr := ⟨_, rfl⟩
      have T := hT.out
      have q6 := (Own.of_row T.r6).ri
      have q7 := (Own.of_row T.r7).ri
      have q8 := (o8s.keep hsm.out).ri
      have Bh : Below wl.heap.size wl (wl.alloc (.cells #[.slice A6 N c6, .slice A8 N c8, .slice A7 N c7] 27)) := (Below.refl _ _).alloc (Nat.le_refl _) _
      have L := lit_rd wl #[.slice A6 N c6, .slice A8 N c8, .slice A7 N c7] 27 (by simp)
      have hRS : RS (wl.alloc (.cells #[.slice A6 N c6, .slice A8 N c8, .slice A7 N c7] 27)) (w.heap.size + 1) (wl.heap.size + 1) (some ⟨wl.heap.size, 0, none⟩) 3 [(List.range N).map plyA, ms, (List.range N).map xor2] := by
        refine ⟨[.slice A6 N c6, .slice A8 N c8, .slice A7 N c7], L.more (by omega) (Nat.le_refl _), rfl, ?_⟩
        intro j v xs h1 h2
        match j, h1, h2 with
        | 0, h1, h2 => simp at h1 h2; subst h1; subst h2; exact ⟨_, _, _, rfl, (q6.below Bh (Nat.le_refl _)).more (Nat.le_refl _) (by omega)⟩
        | 1, h1, h2 => simp at h1 h2; subst h1; subst h2; exact ⟨_, _, _, rfl, (q8.below Bh (by omega)).more (by omega) (by omega)⟩
        | 2, h1, h2 => simp at h1 h2; subst h1; subst h2; exact ⟨_, _, _, rfl, (q7.below Bh (Nat.le_refl _)).more (Nat.le_refl _) (by omega)⟩
        | j + 3, h1, h2 => simp at h1
      have hSys : SysOf [(List.range N).map plyA, ms, (List.range N).map xor2] N := by
        intro p hp
        simp only [List.mem_cons, List.not_mem_nil, or_false] at hp
        rcases hp with rfl | rfl | rfl
        · have := xor1_perm k; rwa [hN] at this
        · exact hms'.out
        · have := xor2_perm k; rwa [hN] at this
      obtain ⟨tr, htr⟩ : ∃ tr, [(List.range N).map plyA, ms, (List.range N).map xor2] = tr := ⟨_, rfl⟩
      rw [htr] at hRS hSys
      have htl : tr.length = 3 := by rw [← htr]; rfl
      have hOrb := orbit_sys hSys (by omega)
      have hMet := bfs_met hSys (x := 0) (by omega) (by omega)
      have hcl : ∀ x ∈ bfs tr N 0, ∀ p ∈ tr, at' p x ∈ bfs tr N 0 := fun x hx p hp => (bfs_mem hSys (by omega) (by omega)).2 (.step ((bfs_mem hSys (by omega) (by omega)).1 hx) hp)
      have hO := l01Orbit_any N _ _ 3 _ 0 _ hRS (by simp) (by omega) hSys (by omega) (by omega)
      have hEv : 2 ∣ (bfs tr N 0).length := orb_even (p := (List.range N).map plyA) hSys (by rw [← htr]; simp) (xor1_free N ⟨k, hN.symm⟩) (by omega) (by omega)
      obtain ⟨ls, hls⟩ : ∃ ls, bfs tr N 0 = ls := ⟨_, rfl⟩
      rw [hls] at hOrb hMet hcl hO hEv
      replace hEv := Lib.hid hEv
      have hrng := hMet.rng
      have hnd := hMet.nd
      replace hcl := Lib.hid hcl
      replace hrng := Lib.hid hrng
      replace hnd := Lib.hid hnd
      replace htl := Lib.hid htl
      replace hOrb := Lib.hid hOrb
      replace hSys := Lib.hid hSys
      have B2l : Below (w.heap.size + 1) w2 (wl.alloc (.cells #[.slice A6 N c6, .slice A8 N c8, .slice A7 N c7] 27)) := hb.trans (Bh.mono (by omega))
      clear q6 q7 q8 L Bh T hMet htr hls hT hsm hTwo o8s hb
      go_wp2_with fail
      ((with_reducible refine hO.mono ?_); rintro e w3 ⟨A9, n9, c9, rfl, o9, f9⟩)
      clear hO
      have hn9 : Hid (ls.length = n9) := Lib.hid o9.lenI
      have hn9N : n9 ≤ N := by have := hOrb.out.2.2; have := hn9.out; omega
      have z3 := f9.size
      have hR3 := hRS.below f9 (by simp)
      have B23 : Below (w.heap.size + 1) w2 w3 := B2l.trans (f9.mono (by simp; omega))
      have hz3 : wl.heap.size + 1 ≤ w3.heap.size := by simp at z3; omega
      clear hRS B2l f9 z3
      go_wp2_with (at_make; refine wpList_make_full _ rfl _ _ 27 rfl w3.heap.size 2 j0 (.int .i64 0) 1 Try.underlying27 hj0 hy0 hy1 _ _ _ _ N rfl rfl rfl rfl ?c1 ?c2 (Nat.le_refl _) ?_)
      case c1 => rw [hy2]; omega
      case c2 => simp only [maxLen]; omega
      intro w4 hown hg
      have B4 : Below w3.heap.size w3 w4 := (Below.refl _ _).grown hg (Nat.le_refl _) (by simp)
      have o12 : Own w4 w3.heap.size w4.heap.size 2 (some ⟨w3.heap.size, 0, none⟩) N N ((List.replicate N 0).map (Value.int .i64)) := by
        have := Own.of_row hown
        simpa [toList_madeCells_one, Value.cells] using this
      clear hown hg
      go_wp2_with fail
      go_loopw [13] (fun iv wq => ∃ (j : Nat) (at_ : List Int), j ≤ n9 ∧ iv = .int .i64 j ∧ Hid (at_.length = N ∧ ∀ t, t < j → ∀ u : Nat, ls[t]? = some (u : Int) → at_[u]? = some (t : Int)) ∧ Own wq w3.heap.size w4.heap.size 2 (some ⟨w3.heap.size, 0, none⟩) N N (at_.map (Value.int .i64)) ∧ w4.heap.size ≤ wq.heap.size ∧ Below w3.heap.size w3 wq) (fun iv _ => n9 - (intOf iv).toNat)
      case atStart => exact ⟨0, List.replicate N 0, by omega, rfl, Lib.hid ⟨by simp, fun t ht => by omega⟩, o12, Nat.le_refl _, B4⟩
      case round =>
        clear o12 B4
        obtain ⟨j, at_, hj, rfl, hat, oa, hz4, hb4⟩ := hrel
        by_cases hj9 : j < n9
        · obtain ⟨bx, yv, rfl, _, _, _, hyv, hcy, _⟩ := (o9.below hb4 (Nat.le_refl _)).atI hj9
          obtain ⟨hy0', hyN⟩ := hrng.out yv (List.mem_of_getElem? hyv)
          obtain ⟨y, rfl⟩ := Int.eq_ofNat_of_zero_le hy0'
          obtain ⟨za, hza⟩ : ∃ v, at_[y]? = some v := ⟨_, List.getElem?_eq_getElem (by have := hat.out.1; omega)⟩
          have hcA := oa.cellI hza
          have hfA := oa.frz y
          have hyN' : y < N := by omega
          have hst : Hid ((at_.set y (j : Int)).length = N ∧ ∀ t, t < j + 1 → ∀ u : Nat, ls[t]? = some (u : Int) → (at_.set y (j : Int))[u]? = some (t : Int)) := Lib.hid ⟨by rw [List.length_set]; exact hat.out.1, fun t ht u hu => by
            rw [List.getElem?_set]
            by_cases e : t = j
            · subst e
              rw [hyv] at hu
              have e2 : y = u := by have := Option.some.inj hu; omega
              subst e2
              rw [if_pos rfl, if_pos (by have := hat.out.1; omega)]
            · have hne : y ≠ u := fun e2 => by subst e2; exact e (row_inj hnd.out hu hyv)
              rw [if_neg hne]
              exact hat.out.2 t (by omega) u hu⟩
          replace hyv := Lib.hid hyv
          replace hza := Lib.hid hza
          clear hat
          go_wp2_with fail
          go_roundw
          case measure => simp [intOf]; omega
          case rel => exact ⟨j + 1, at_.set y (j : Int), by omega, by go_num, hst, oa.setI _, by simp; omega, hb4.setCell (by simp) _⟩
        · obtain rfl : n9 = j := by omega
          have hz4' := hb4.size
          obtain ⟨w5, rfl⟩ : ∃ w5 : World, w5 = wr := ⟨_, rfl⟩
          have o9' := o9.below hb4 (Nat.le_refl _)
          have hR5 := hR3.below hb4 (by omega)
          have B25 : Below (w.heap.size + 1) w2 w5 := B23.trans (hb4.mono (by omega))
          clear o9 hR3 B23 hb4
          go_wp2_with fail
          go_loopw [15] (fun kv wq => ∃ (q : Nat) (vs : List Value) (A2 : Option Addr) (c2 : Nat), q ≤ 3 ∧ Hid (vs.length = q) ∧ kv = .int .i64 q ∧ Hid (wq.heap[w5.heap.size]? = some (.cells #[.slice A2 q c2] 40 (0, 0))) ∧
            Own wq (w5.heap.size + 1) wq.heap.size 27 A2 q c2 vs ∧ RowsOwn wq (w5.heap.size + 1) wq.heap.size 2 vs ((tr.map (subRow ls)).take q) ∧ w5.heap.size + 1 ≤ wq.heap.size ∧ Below w5.heap.size w5 wq) (fun kv _ => 3 - (intOf kv).toNat)
          case atStart => exact ⟨0, [], none, 0, by omega, Lib.hid rfl, rfl, Lib.hid (heap_new _ _ _ rfl), Own.nil, by simpa using RowsOwn.nil, by simp, (Below.refl _ _).alloc (Nat.le_refl _) _⟩
          case round =>
            obtain ⟨q, vs, A2, c2, hq, hvq, rfl, g6, ho6, hrows, hz6, hb6⟩ := hrel
            obtain ⟨wo, rfl⟩ : ∃ wo : World, wo = wr := ⟨_, rfl⟩
            by_cases hq3 : q < 3
            · obtain ⟨bA, oA, Ak, nk, ck, pr, hA, _, hbA, hpr, hcp, hrp⟩ := hR5.at_ hq3
              have hA' := Option.some.inj hA
              injection hA' with hA1 hA2
              subst hA1; subst hA2
              rw [Nat.zero_add] at hcp
              have hprm := List.mem_of_getElem? hpr
              obtain ⟨r1, r2, r3⟩ := hSys.out pr hprm
              obtain rfl : N = nk := by have := hrp.len; omega
              have b0 := own_lit0 wo 2 (Nat.le_refl wo.heap.size)
              have hrow : Hid ((tr.map (subRow ls))[q]? = some ((List.range n9).map (subF ls pr))) := Lib.hid (by rw [List.getElem?_map, hpr, ← subRow_eq hn9.out]; rfl)
              replace r1 := Lib.hid r1
              replace r3 := Lib.hid r3
              replace hpr := Lib.hid hpr
              replace hprm := Lib.hid hprm
              clear r2 hA
              go_wp2_with fail
              go_loopw [16, 17] (fun rv fv wq => ∃ (f : Nat) (A3 : Option Addr) (c3 : Nat), f ≤ n9 ∧ rv = .slice A3 f c3 ∧ fv = .int .i64 f ∧ wq.ownsRow wo.heap.size 2 1 (.slice A3 f c3) f (((List.range f).map (subF ls pr)).map (Value.int .i64)) ∧ wo.heap.size ≤ wq.heap.size ∧ Below wo.heap.size wo wq) (fun _ fv _ => n9 - (intOf fv).toNat)
              case atStart => exact ⟨0, _, 0, by omega, rfl, rfl, by simpa using b0.1, by simp, (Below.refl _ _).alloc (Nat.le_refl _) _⟩
              case round =>
                obtain ⟨f, A3, c3, hf, rfl, rfl, ho, hzi, hbi⟩ := hrel
                have hbw := hb6.trans (hbi.mono (by omega))
                by_cases hlt : f < n9
                · obtain ⟨bx, yv, rfl, _, _, _, hyv, hcy, _⟩ := (o9'.below hbw (by omega)).atI hlt
                  obtain ⟨hy0', hyN⟩ := hrng.out yv (List.mem_of_getElem? hyv)
                  obtain ⟨y, rfl⟩ := Int.eq_ofNat_of_zero_le hy0'
                  have hcp2 := (hbw.cell (p := ⟨wl.heap.size, q, none⟩) (by simp; omega)).trans hcp
                  obtain ⟨bp, op, uv, rfl, _, hbp, huv, hcu⟩ := (hrp.below hbw (by omega)).at_ (show y < N by omega)
                  obtain ⟨hu0, huN⟩ := r1.out uv (List.mem_of_getElem? huv)
                  obtain ⟨u, rfl⟩ := Int.eq_ofNat_of_zero_le hu0
                  have hul : (u : Int) ∈ ls := by
                    have e : at' pr (y : Int) = (u : Int) := by unfold at'; simp [List.getD_eq_getElem?_getD, huv]
                    have := hcl.out y (List.mem_of_getElem? hyv) pr hprm.out
                    rwa [e] at this
                  obtain ⟨t, ht⟩ := List.mem_iff_getElem?.1 hul
                  have htl9 : t < n9 := by have := (List.getElem?_eq_some_iff.1 ht).1; have := hn9.out; omega
                  have hta : at_[u]? = some (t : Int) := hat.out.2 t htl9 u ht
                  have hcA := (oa.below hbw (by omega)).cellI hta
                  have hval : subF ls pr f = (t : Int) := subF_val hnd.out hyv huv ht
                  have i0 : (0 : Int) ≤ (y : Int) := by omega
                  have i1 : (y : Int) < (N : Int) := by omega
                  have hrs : ((List.range (f + 1)).map (subF ls pr)).map (Value.int .i64) = (((List.range f).map (subF ls pr)).map (Value.int .i64)) ++ [.int .i64 (t : Int)] := by rw [List.range_succ, List.map_append, List.map_append, List.map_singleton, hval]; rfl
                  have hown' : Hid ((wr.alloc (.cells #[.int .i64 (t : Int)] 2)).drew.ownsRow wo.heap.size 2 1 (.slice A3 f c3) f (((List.range f).map (subF ls pr)).map (Value.int .i64))) := Lib.hid (ho.alloc _)
                  have hnew' : Hid (∀ q v, [Value.int .i64 (t : Int)][q]? = some v → (wr.alloc (.cells #[.int .i64 (t : Int)] 2)).drew.cell? ((⟨wr.heap.size, 0, none⟩ : Addr).add q) = some v) := Lib.hid (cell_one_of (heap_new _ _ _ rfl))
                  have hml : Hid (f + 1 ≤ maxLen) := Lib.hid (by simp only [maxLen]; omega)
                  have hbs : Hid (wo.heap.size ≤ (wr.alloc (.cells #[.int .i64 (t : Int)] 2)).drew.heap.size) := Lib.hid (by simp; omega)
                  have hBa : Hid (Below wo.heap.size wo (wr.alloc (.cells #[.int .i64 (t : Int)] 2)).drew) := Lib.hid (below_drw (hbi.alloc hzi _))
                  have hlo6 : Hid (∀ q, (Value.slice A3 f c3).ownBlock = some q → wo.heap.size ≤ q) := Lib.hid (fun q hq => (ho.lt q hq).1)
                  replace hrs := Lib.hid hrs
                  replace huv := Lib.hid huv
                  replace hyv := Lib.hid hyv
                  replace ht := Lib.hid ht
                  replace hta := Lib.hid hta
                  replace hul := Lib.hid hul
                  replace hval := Lib.hid hval
                  clear ho
                  go_wp2_with fail
                  go_region_law? (refine step_append_lies _ (by rfl) (.tmp 73) (.tmp 87) 27 (by rfl) wo.heap.size 2 j0 (.int .i64 0) 1 8 Try.underlying27 hj0 hy0 hy1 hy2 rfl (by decide) (.slice A3 f c3) f (((List.range f).map (subF ls pr)).map (Value.int .i64)) (by rfl) hown'.out ⟨wr.heap.size, 0, none⟩ 1 1 [.int .i64 (t : Int)] (by rfl) rfl hnew'.out (by simp [Value.oneCell']) (by decide) hml.out (by omega) hbs.out (wr.heap.size + 1) (by simp) ?_; intro g4 c4 w7 ho7 hg7 hor7 hlt7; have f7 : Below wo.heap.size wo w7 := hBa.out.grown hg7 hbs.out hlo6.out; rw [← hrs.out] at ho7)
                  all_goals
                    have z7 := f7.size
                    clear hown' hnew' hbs hBa hlo6 hg7 hor7
                    go_wp2_with fail
                    go_roundw
                    case measure => simp [intOf]; omega
                    case rel => exact ⟨f + 1, _, c4, by omega, rfl, by go_num, ho7, z7, f7⟩
                · obtain rfl : n9 = f := by omega
                  have g6w := (hbi.block w5.heap.size (by omega)).trans g6.out
                  have C9 : wr.cell? ⟨w5.heap.size, 0, none⟩ = some (.slice A2 q c2) := by rw [cell_of_row _ _ _ _ _ _ g6w]; rfl
                  have F9 : wr.frozen? ⟨w5.heap.size, 0, none⟩ = false := frozen_of_row _ _ _ _ _ g6w
                  have o6 := ho6.below hbi (Nat.le_refl _)
                  have r6 := hrows.keep (Same.of_below hbi (Nat.le_refl _))
                  have orow := Own.of_row ho
                  have htk := take_succ_of hrow.out
                  replace htk := Lib.hid htk
                  have hz3' := hb6.size
                  replace g6w := Lib.hid g6w
                  clear ho b0 hrows ho6 g6
                  go_wp2_with (at_builtin; refine wpList_append1 wr rfl (.tmp 90) (.tmp 92) 24 rfl (w5.heap.size + 1) 27 s0 (.slice none 0 0) 24 Try.underlying24 hs0 hu0 hu1 hu2 rfl (by omega) A2 q c2 _ (.slice A3 n9 c3) rfl o6.1 _ rfl rfl rfl (by omega) (by omega) ?_)
                  intro g4 c4 w8 ho5 hg5 hlo5 hlt5 hor5
                  have g5 := (hg5.block w5.heap.size (by omega) (fun e => by have := (o6.1.lt _ e.symm).1; omega)).trans g6w.out
                  have C5 : w8.cell? ⟨w5.heap.size, 0, none⟩ = some (.slice A2 q c2) := by rw [cell_of_row _ _ _ _ _ _ g5]; rfl
                  have F5 : w8.frozen? ⟨w5.heap.size, 0, none⟩ = false := frozen_of_row _ _ _ _ _ g5
                  have hrw5 := (r6.kept_ty o6.1 (by decide) hg5).snoc (orow.kept_ty o6.1 (by decide) hg5) (by omega) (by omega)
                  have hz5 := hg5.size
                  have hb5 : Below w5.heap.size w5 w8 := hbw.grown hg5 (by omega) (fun q hq => by have := (o6.1.lt q hq).1; omega)
                  have ho5p := Own.of_row ho5
                  replace g5 := Lib.hid g5
                  clear C9 F9 o6 r6 orow hg5 ho5
                  go_wp2_with fail
                  go_roundw
                  case measure => simp [intOf]; omega
                  case rel =>
                    refine ⟨q + 1, vs ++ [.slice A3 n9 c3], _, c4, by omega, Lib.hid (by simp [hvq.out]), by go_num, Lib.hid ?_, (ho5p.far (.inl (by simp)) _).more (Nat.le_refl _) (by simp), ?_, by simp; omega, hb5.setCell (by simp) _⟩
                    · have := heap_setCell_same _ _ 0 _ _ (Value.slice (some ⟨g4, 0, none⟩) (q + 1) c4) g5.out
                      simpa using this
                    · rw [htk.out]
                      exact (hrw5.keep (same_set _ _ _ _ _ (.inl (by simp)))).more (Nat.le_refl _) (by simp; omega)
            · obtain rfl : q = 3 := by omega
              have hz7 := hb6.size
              have B2w : Below (w.heap.size + 1) w2 wo := B25.trans (hb6.mono (by omega))
              have g1 := (B2w.block w.heap.size (by omega)).trans g0.out
              have C2 : wo.cell? ⟨w.heap.size, 0, none⟩ = some (.slice none 0 0) := by rw [cell_of_row _ _ _ _ _ _ g1]; rfl
              have F2 : wo.frozen? ⟨w.heap.size, 0, none⟩ = false := frozen_of_row _ _ _ _ _ g1
              have C9 : wo.cell? ⟨w5.heap.size, 0, none⟩ = some (.slice A2 3 c2) := by rw [cell_of_row _ _ _ _ _ _ g6.out]; rfl
              replace g1 := Lib.hid g1
              go_wp2_with fail
              have g2 := heap_setCell_same _ _ 0 _ _ (Value.slice A2 3 c2) g1.out
              (try simp only [Exit.inBlock, Exit.then])
              refine bodyPost_ret (v := .agg #[.slice A2 3 c2]) ?_ rfl ?_
              · exact results_cell_row rfl _ _ w.heap.size 40 #[.slice A2 3 c2] (0, 0) _ rfl (by simpa using g2) Try.underlying40 rfl (by kernel_rfl)
              · have e : (tr.map (subRow ls)).take 3 = tr.map (subRow ls) := List.take_of_length_le (by have := htl.out; simp; omega)
                rw [e] at hrows
                have hO1 := hOrb.out
                rw [hn9.out] at hO1
                have s3 := s2.out.below B2w (by omega)
                have C2w : Chg g (g + 1) w wo := ⟨B2w.os.trans C2'.os, B2w.tape.trans C2'.tape, B2w.output.trans C2'.output, by have := B2w.size; have := C2'.size; omega, fun k hk e => (B2w.block k (by omega)).trans (C2'.block k hk e)⟩
                refine ⟨A2, c2, _, n9, i2, h2, rfl, ⟨vs, ?_, ?_⟩, hO1.1, hO1.2.1, by have := hO1.2.2; omega, by have := hEv.out; rwa [hn9.out] at this, s3.far (by simp; omega) (by have := s3.above; simp; omega) _, C2w.setNew (by simp) _⟩
                · exact (ho6.keep (same_set _ _ _ _ _ (.inl (by simp; omega)))).more (by omega) (by simp)
                · exact (hrows.keep (same_set _ _ _ _ _ (.inl (by simp; omega)))).more (by omega) (by simp)
end Go.Proofs.Ytdaljeghdiknpaa
/- Bes -/
namespace Go.Proofs.Ytdaljeghdiknpaa
open Go.RowKit
set_option linter.unusedVariables false
set_option maxRecDepth 100000
set_option maxHeartbeats 8000000 in
theorem l02Beside_any (A : Option Addr) (m c : Nat) (xss : List (List Int)) (A' : Option Addr) (m' c' : Nat) (yss : List (List Int)) (w : World) {lo hi lo' hi' : Nat} (h : RS w lo hi A m xss) (hhi : hi ≤ w.heap.size) (h' : RS w lo' hi' A' m' yss) (hhi' : hi' ≤ w.heap.size)
    (hm : 0 < m) (hm' : 0 < m') (hm5 : m + m' ≤ 20) (a b : Nat) (hx : SysOf xss a) (hy : SysOf yss b) (ha : 1 ≤ a) (hb : 1 ≤ b) (hab : a * b ≤ 400) :
    Calls Try.prog 177 #[.agg #[.slice A m c], .agg #[.slice A' m' c']] w fun e w' => ∃ (A1 : Option Addr) (c1 : Nat), e = .returned (.agg #[.slice A1 (m + m') c1]) ∧ OwnS w' w.heap.size w'.heap.size 27 2 A1 (m + m') c1 (besL xss yss a b) ∧ Below w.heap.size w w' := by
  obtain ⟨j0, hj0, hy0, hy1, hy2⟩ := info_parts infoI
  obtain ⟨s0, hs0, hu0, hu1, hu2⟩ := info_parts infoS
  have hl := h.len
  have hl' := h'.len
  have hfa : flg xss = a := by obtain ⟨p, hp⟩ : ∃ p, xss[0]? = some p := ⟨_, List.getElem?_eq_getElem (by omega)⟩; rw [flg_of hp]; exact (hx p (List.mem_of_getElem? hp)).2.2
  have hfb : flg yss = b := by obtain ⟨p, hp⟩ : ∃ p, yss[0]? = some p := ⟨_, List.getElem?_eq_getElem (by omega)⟩; rw [flg_of hp]; exact (hy p (List.mem_of_getElem? hp)).2.2
  replace hx := Lib.hid hx
  replace hy := Lib.hid hy
  replace hfa := Lib.hid hfa
  replace hfb := Lib.hid hfb
  have hR := rs_alloc (rs_alloc (rs_alloc h hhi (.cells #[.slice A m c] 40)) (by simp; omega) (.cells #[.slice A' m' c'] 40)) (by simp; omega) (.cells #[.slice none 0 0] 40)
  have hR' := rs_alloc (rs_alloc (rs_alloc h' hhi' (.cells #[.slice A m c] 40)) (by simp; omega) (.cells #[.slice A' m' c'] 40)) (by simp; omega) (.cells #[.slice none 0 0] 40)
  have hB : Below w.heap.size w (((w.alloc (.cells #[.slice A m c] 40)).alloc (.cells #[.slice A' m' c'] 40)).alloc (.cells #[.slice none 0 0] 40)) := (((Below.refl _ _).alloc (Nat.le_refl _) _).alloc (by simp) _).alloc (by simp; omega) _
  have p0 : (((w.alloc (.cells #[.slice A m c] 40)).alloc (.cells #[.slice A' m' c'] 40)).alloc (.cells #[.slice none 0 0] 40)).heap[w.heap.size]? = some (.cells #[.slice A m c] 40 (0, 0)) := ((Below.heap_alloc _ _ _ (by simp; omega)).trans (Below.heap_alloc _ _ _ (by simp))).trans (heap_new _ _ _ rfl)
  have p1 : (((w.alloc (.cells #[.slice A m c] 40)).alloc (.cells #[.slice A' m' c'] 40)).alloc (.cells #[.slice none 0 0] 40)).heap[w.heap.size + 1]? = some (.cells #[.slice A' m' c'] 40 (0, 0)) := (Below.heap_alloc _ _ _ (by simp)).trans (heap_new _ _ _ (by simp))
  have p2 : (((w.alloc (.cells #[.slice A m c] 40)).alloc (.cells #[.slice A' m' c'] 40)).alloc (.cells #[.slice none 0 0] 40)).heap[w.heap.size + 1 + 1]? = some (.cells #[.slice none 0 0] 40 (0, 0)) := heap_new _ _ _ (by simp)
  go_enter Try.func177, Try.ntmps177
  go_wp2_with fail
  obtain ⟨W1, hW⟩ : ∃ W1 : World, (((w.alloc (.cells #[.slice A m c] 40)).alloc (.cells #[.slice A' m' c'] 40)).alloc (.cells #[.slice none 0 0] 40)) = W1 := ⟨_, rfl⟩
  have hz1 : W1.heap.size = w.heap.size + 3 := by rw [← hW]; simp
  rw [hW] at hR hR' hB p0 p1 p2 ⊢
  clear hW h h'
  haveI := Since.ne W1
  have hh1 : hi ≤ W1.heap.size := by omega
  have hh2 : hi' ≤ W1.heap.size := by omega
  have u1 : ∀ u : Since W1, u.val.cell? ⟨w.heap.size, 0, none⟩ = some (.slice A m c) := fun u => (u.ok.cell (p := ⟨w.heap.size, 0, none⟩) (by simp; omega)).trans (by rw [cell_of_row _ _ _ _ _ _ p0]; rfl)
  have u2 : ∀ u : Since W1, u.val.cell? ⟨w.heap.size + 1, 0, none⟩ = some (.slice A' m' c') := fun u => (u.ok.cell (p := ⟨w.heap.size + 1, 0, none⟩) (by simp; omega)).trans (by rw [cell_of_row _ _ _ _ _ _ p1]; rfl)
  refine wp_region_since_lit (by kernel_rfl) (by kernel_rfl) ?_
  repeat (go_big_quiet_step ((go_at_call 134; first | (refine since_call (hfa.out ▸ l02Flags_any A m c xss _ (hR.below (Since.ok _) hh1) ?_ hm); exact Nat.le_trans hh1 (Since.ok _).size) | (refine since_call (hfb.out ▸ l02Flags_any A' m' c' yss _ (hR'.below (Since.ok _) hh2) ?_ hm'); exact Nat.le_trans hh2 (Since.ok _).size))))
  refine wpQuiet_nil ?_
  intro w2 hw2
  have hb2 : Below W1.heap.size W1 w2 := by obtain ⟨u, hu⟩ := hw2; rw [hu]; exact u.ok
  clear hw2 u1 u2
  have hz2 := hb2.size
  have hR2 := hR.below hb2 hh1
  have hR2' := hR'.below hb2 hh2
  have q0 := (hb2.block w.heap.size (by omega)).trans p0
  have q1 := (hb2.block (w.heap.size + 1) (by omega)).trans p1
  have q2 := (hb2.block (w.heap.size + 1 + 1) (by omega)).trans p2
  have C0 : w2.cell? ⟨w.heap.size, 0, none⟩ = some (.slice A m c) := by rw [cell_of_row _ _ _ _ _ _ q0]; rfl
  have C1 : w2.cell? ⟨w.heap.size + 1, 0, none⟩ = some (.slice A' m' c') := by rw [cell_of_row _ _ _ _ _ _ q1]; rfl
  have hBw : Below w.heap.size w w2 := hB.trans (hb2.mono (by omega))
  obtain ⟨N, hN⟩ : ∃ N, a * b = N := ⟨_, rfl⟩
  rw [hN] at hab
  have haN : a ≤ N := by rw [← hN]; exact Nat.le_mul_of_pos_right a (by omega)
  have hbN : b ≤ N := by rw [← hN]; exact Nat.le_mul_of_pos_left b (by omega)
  have hmul : (a : Int) * (b : Int) = (N : Int) := by rw [← hN, Int.natCast_mul]
  have hbl := besL_length xss yss a b
  rw [hl, hl'] at hbl
  replace hN := Lib.hid hN
  replace hbl := Lib.hid hbl
  replace q0 := Lib.hid q0
  replace q1 := Lib.hid q1
  replace q2 := Lib.hid q2
  replace hR2 := Lib.hid hR2
  replace hR2' := Lib.hid hR2'
  clear hR hR' p0 p1 p2 hB hb2
  have hh1 : hi ≤ w2.heap.size := by omega
  have hh2 : hi' ≤ w2.heap.size := by omega
  have hzw : w.heap.size + 3 ≤ w2.heap.size := by omega
  have hpos : (0 : Int) < (b : Int) := by omega
  have hb0 : ¬ b = 0 := by omega
  clear hz1
  go_wp2_with fail
  go_loopw [8] (fun kv wq => ∃ (k : Nat) (vs : List Value) (A2 : Option Addr) (c2 : Nat), k ≤ m + m' ∧ Hid (vs.length = k) ∧ kv = .int .i64 k ∧ Hid (wq.heap[w2.heap.size]? = some (.cells #[.slice A2 k c2] 40 (0, 0))) ∧
      Own wq (w2.heap.size + 1) wq.heap.size 27 A2 k c2 vs ∧ RowsOwn wq (w2.heap.size + 1) wq.heap.size 2 vs ((besL xss yss a b).take k) ∧ w2.heap.size + 1 ≤ wq.heap.size ∧ Below w2.heap.size w2 wq) (fun kv _ => m + m' - (intOf kv).toNat)
  case atStart => exact ⟨0, [], none, 0, by omega, Lib.hid rfl, rfl, Lib.hid (heap_new _ _ _ rfl), Own.nil, by simpa using RowsOwn.nil, by simp, (Below.refl _ _).alloc (Nat.le_refl _) _⟩
  case round =>
    obtain ⟨k, vs, A2, c2, hk, hvk, rfl, g9, ho9, hrows, hz9, hb9⟩ := hrel
    have D0 := (hb9.cell (p := ⟨w.heap.size, 0, none⟩) (by simp; omega)).trans C0
    have D1 := (hb9.cell (p := ⟨w.heap.size + 1, 0, none⟩) (by simp; omega)).trans C1
    have hw1 : IntKind.i64.wrap ((m : Int) + (m' : Int)) = (m : Int) + (m' : Int) := by rw [IntKind.wrap_i64]; omega
    by_cases hkm : k < m + m'
    · have d0 : decide ((k : Int) < (m : Int) + (m' : Int)) = true := by simp; omega
      have hm1 := hR2.out.max
      have hm2 := hR2'.out.max
      obtain ⟨wo, rfl⟩ : ∃ wo : World, wo = wr := ⟨_, rfl⟩
      have b0 := own_lit0 wo 2 (Nat.le_refl wo.heap.size)

      by_cases hka : k < m
      · skip
        obtain ⟨bA, oA, Ak, nk, ck, pr, rfl, _, hbA, hpr, hcp, hrp⟩ := hR2.out.at_ hka
        have hprm := List.mem_of_getElem? hpr
        obtain ⟨r1, r2, r3⟩ := hx.out pr hprm
        have hnk : nk = a := by have := hrp.len; omega
        subst hnk
        have hrow : Hid ((besL xss yss nk b)[k]? = some ((List.range N).map (besA pr b))) := Lib.hid (by unfold besL; rw [List.getElem?_append_left (by simp; omega), List.getElem?_map, hpr, hN.out]; rfl)
        replace r1 := Lib.hid r1
        replace r3 := Lib.hid r3
        replace hpr := Lib.hid hpr
        replace hprm := Lib.hid hprm
        clear r2
        go_wp2_with fail
        go_loopw [9, 10] (fun rv fv wq => ∃ (f : Nat) (A3 : Option Addr) (c3 : Nat), f ≤ N ∧ rv = .slice A3 f c3 ∧ fv = .int .i64 f ∧ wq.ownsRow wo.heap.size 2 1 (.slice A3 f c3) f (((List.range f).map (besA pr b)).map (Value.int .i64)) ∧ wo.heap.size ≤ wq.heap.size ∧ Below wo.heap.size wo wq) (fun _ fv _ => N - (intOf fv).toNat)
        case atStart => exact ⟨0, _, 0, by omega, rfl, rfl, by simpa using b0.1, by simp, (Below.refl _ _).alloc (Nat.le_refl _) _⟩
        case round =>
          obtain ⟨f, A3, c3, hf, rfl, rfl, ho, hzi, hbi⟩ := hrel
          have hbw := hb9.trans (hbi.mono (by omega))
          have E0 := (hbw.cell (p := ⟨w.heap.size, 0, none⟩) (by simp; omega)).trans C0
          have E1 := (hbw.cell (p := ⟨w.heap.size + 1, 0, none⟩) (by simp; omega)).trans C1
          by_cases hlt : f < N
          · have hlt2 : f < nk * b := by have := hN.out; omega
            obtain ⟨x, htd, hxe⟩ : ∃ x : Nat, Int.tdiv (f : Int) (b : Int) = (x : Int) ∧ x = f / b := ⟨f / b, rfl, rfl⟩
            obtain ⟨y, htm, hye⟩ : ∃ y : Nat, Int.tmod (f : Int) (b : Int) = (y : Int) ∧ y = f % b := ⟨f % b, rfl, rfl⟩
            have hxa : x < nk := by rw [hxe, Nat.div_lt_iff_lt_mul (by omega)]; exact hlt2
            have hyb : y < b := by rw [hye]; exact Nat.mod_lt _ (by omega)
            have hcp2 := (hbw.cell (p := ⟨bA, oA + k, none⟩) (by simp; omega)).trans hcp
            obtain ⟨bp, op, uv, rfl, _, hbp, huv, hcu⟩ := (hrp.below hbw (by omega)).at_ (show x < nk by omega)
            obtain ⟨hu0, huN⟩ := r1.out uv (List.mem_of_getElem? huv)
            obtain ⟨u, rfl⟩ := Int.eq_ofNat_of_zero_le hu0
            have i0 : (0 : Int) ≤ (x : Int) := by omega
            have i1 : (x : Int) < (nk : Int) := by omega
            obtain ⟨z, hz, hzz⟩ : ∃ z : Nat, (u : Int) * (b : Int) = (z : Int) ∧ z = u * b := ⟨u * b, by rw [Int.natCast_mul], rfl⟩
            have hval : besA pr b f = (z : Int) + (y : Int) := by unfold besA; rw [← hxe, ← hye, List.getD_eq_getElem?_getD, huv]; simp [hzz]
            have hzN : z + y < N := by have := pair_lt (a := nk) (b := b) (x := u) (y := y) (by omega) hyb; rw [← hzz, hN.out] at this; exact this
            obtain ⟨v, hv, hvv⟩ : ∃ v : Nat, (z : Int) + (y : Int) = (v : Int) ∧ v < N := ⟨z + y, by omega, hzN⟩
            rw [hv] at hval
            have hrs : ((List.range (f + 1)).map (besA pr b)).map (Value.int .i64) = (((List.range f).map (besA pr b)).map (Value.int .i64)) ++ [.int .i64 ((z : Int) + (y : Int))] := by rw [hv, List.range_succ, List.map_append, List.map_append, List.map_singleton, hval]; rfl
            have hown' : Hid ((wr.alloc (.cells #[.int .i64 ((z : Int) + (y : Int))] 2)).drew.ownsRow wo.heap.size 2 1 (.slice A3 f c3) f (((List.range f).map (besA pr b)).map (Value.int .i64))) := Lib.hid (ho.alloc _)
            have hnew' : Hid (∀ q v, [Value.int .i64 ((z : Int) + (y : Int))][q]? = some v → (wr.alloc (.cells #[.int .i64 ((z : Int) + (y : Int))] 2)).drew.cell? ((⟨wr.heap.size, 0, none⟩ : Addr).add q) = some v) := Lib.hid (cell_one_of (heap_new _ _ _ rfl))
            have hml : Hid (f + 1 ≤ maxLen) := Lib.hid (by simp only [maxLen]; omega)
            have hbs : Hid (wo.heap.size ≤ (wr.alloc (.cells #[.int .i64 ((z : Int) + (y : Int))] 2)).drew.heap.size) := Lib.hid (by simp; omega)
            have hBa : Hid (Below wo.heap.size wo (wr.alloc (.cells #[.int .i64 ((z : Int) + (y : Int))] 2)).drew) := Lib.hid (below_drw (hbi.alloc hzi _))
            have hlo6 : Hid (∀ q, (Value.slice A3 f c3).ownBlock = some q → wo.heap.size ≤ q) := Lib.hid (fun q hq => (ho.lt q hq).1)
            replace hrs := Lib.hid hrs
            replace hxe := Lib.hid hxe
            replace hye := Lib.hid hye
            replace huv := Lib.hid huv
            replace hzz := Lib.hid hzz
            replace hval := Lib.hid hval
            have hwx : IntKind.i64.wrap (x : Int) = (x : Int) := by rw [IntKind.wrap_i64]; omega
            have hwy : IntKind.i64.wrap (y : Int) = (y : Int) := by rw [IntKind.wrap_i64]; omega
            have hwz : IntKind.i64.wrap (z : Int) = (z : Int) := by rw [IntKind.wrap_i64]; omega
            have hwv : IntKind.i64.wrap ((z : Int) + (y : Int)) = (z : Int) + (y : Int) := by rw [IntKind.wrap_i64]; omega
            clear ho hv hlt2 hzN
            have dka : decide ((k : Int) < (m : Int)) = true := by simp; omega
            go_wp2_with fail
            go_region_law? (refine step_append_lies _ (by rfl) (.tmp 40) (.tmp 57) 27 (by rfl) wo.heap.size 2 j0 (.int .i64 0) 1 8 Try.underlying27 hj0 hy0 hy1 hy2 rfl (by decide) (.slice A3 f c3) f (((List.range f).map (besA pr b)).map (Value.int .i64)) (by rfl) hown'.out ⟨wr.heap.size, 0, none⟩ 1 1 [.int .i64 ((z : Int) + (y : Int))] (by rfl) rfl hnew'.out (by simp [Value.oneCell']) (by decide) hml.out (by omega) hbs.out (wr.heap.size + 1) (by simp) ?_; intro g4 c4 w7 ho7 hg7 hor7 hlt7; have f7 : Below wo.heap.size wo w7 := hBa.out.grown hg7 hbs.out hlo6.out; rw [← hrs.out] at ho7)
            all_goals
              have z7 := f7.size
              clear hown' hnew' hbs hBa hlo6 hg7 hor7
              go_wp2_with fail
              go_roundw
              case measure => simp [intOf]; omega
              case rel => exact ⟨f + 1, _, c4, by omega, rfl, by go_num, ho7, z7, f7⟩
          · obtain rfl : N = f := by omega
            have g9w := (hbi.block w2.heap.size (by omega)).trans g9.out
            have C9 : wr.cell? ⟨w2.heap.size, 0, none⟩ = some (.slice A2 k c2) := by rw [cell_of_row _ _ _ _ _ _ g9w]; rfl
            have F9 : wr.frozen? ⟨w2.heap.size, 0, none⟩ = false := frozen_of_row _ _ _ _ _ g9w
            have o9 := ho9.below hbi (Nat.le_refl _)
            have r9 := hrows.keep (Same.of_below hbi (Nat.le_refl _))
            have orow := Own.of_row ho
            have htk := take_succ_of hrow.out
            replace htk := Lib.hid htk
            have hz3 := hb9.size
            replace g9w := Lib.hid g9w
            clear ho b0 hrows ho9 g9
            go_wp2_with (at_builtin; refine wpList_append1 wr rfl (.tmp 83) (.tmp 85) 24 rfl (w2.heap.size + 1) 27 s0 (.slice none 0 0) 24 Try.underlying24 hs0 hu0 hu1 hu2 rfl (by omega) A2 k c2 _ (.slice A3 N c3) rfl o9.1 _ rfl rfl rfl (by omega) (by omega) ?_)
            intro g4 c4 w5 ho5 hg5 hlo5 hlt5 hor5
            have g5 := (hg5.block w2.heap.size (by omega) (fun e => by have := (o9.1.lt _ e.symm).1; omega)).trans g9w.out
            have C5 : w5.cell? ⟨w2.heap.size, 0, none⟩ = some (.slice A2 k c2) := by rw [cell_of_row _ _ _ _ _ _ g5]; rfl
            have F5 : w5.frozen? ⟨w2.heap.size, 0, none⟩ = false := frozen_of_row _ _ _ _ _ g5
            have hrw5 := (r9.kept_ty o9.1 (by decide) hg5).snoc (orow.kept_ty o9.1 (by decide) hg5) (by omega) (by omega)
            have hz5 := hg5.size
            have hb5 : Below w2.heap.size w2 w5 := hbw.grown hg5 (by omega) (fun q hq => by have := (o9.1.lt q hq).1; omega)
            have ho5p := Own.of_row ho5
            replace g5 := Lib.hid g5
            clear C9 F9 o9 r9 orow hg5 ho5 E0 E1 D0 D1
            go_wp2_with fail
            go_roundw
            case measure => simp [intOf]; omega
            case rel =>
              refine ⟨k + 1, vs ++ [.slice A3 N c3], _, c4, by omega, Lib.hid (by simp [hvk.out]), by go_num, Lib.hid ?_, (ho5p.far (.inl (by simp)) _).more (Nat.le_refl _) (by simp), ?_, by simp; omega, hb5.setCell (by simp) _⟩
              · have := heap_setCell_same _ _ 0 _ _ (Value.slice (some ⟨g4, 0, none⟩) (k + 1) c4) g5.out
                simpa using this
              · rw [htk.out]
                exact (hrw5.keep (same_set _ _ _ _ _ (.inl (by simp)))).more (Nat.le_refl _) (by simp; omega)
      · skip
        obtain ⟨k2, hk2⟩ : ∃ k2, k2 + m = k := ⟨k - m, by omega⟩
        have hk2m : k2 < m' := by omega
        have hw2 : IntKind.i64.wrap ((k : Int) - (m : Int)) = (k2 : Int) := by rw [IntKind.wrap_i64]; omega
        obtain ⟨bA, oA, Ak, nk, ck, pr, rfl, _, hbA, hpr, hcp, hrp⟩ := hR2'.out.at_ (show k2 < m' by omega)
        have hprm := List.mem_of_getElem? hpr
        obtain ⟨r1, r2, r3⟩ := hy.out pr hprm
        have hnk : nk = b := by have := hrp.len; omega
        subst hnk
        have hrow : Hid ((besL xss yss a nk)[k]? = some ((List.range N).map (besB pr nk))) := Lib.hid (by unfold besL; rw [List.getElem?_append_right (by simp; omega), List.getElem?_map, List.length_map, hl, show k - m = k2 by omega, hpr, hN.out]; rfl)
        replace r1 := Lib.hid r1
        replace r3 := Lib.hid r3
        replace hpr := Lib.hid hpr
        replace hprm := Lib.hid hprm
        clear r2
        go_wp2_with fail
        go_loopw [9, 10] (fun rv fv wq => ∃ (f : Nat) (A3 : Option Addr) (c3 : Nat), f ≤ N ∧ rv = .slice A3 f c3 ∧ fv = .int .i64 f ∧ wq.ownsRow wo.heap.size 2 1 (.slice A3 f c3) f (((List.range f).map (besB pr nk)).map (Value.int .i64)) ∧ wo.heap.size ≤ wq.heap.size ∧ Below wo.heap.size wo wq) (fun _ fv _ => N - (intOf fv).toNat)
        case atStart => exact ⟨0, _, 0, by omega, rfl, rfl, by simpa using b0.1, by simp, (Below.refl _ _).alloc (Nat.le_refl _) _⟩
        case round =>
          obtain ⟨f, A3, c3, hf, rfl, rfl, ho, hzi, hbi⟩ := hrel
          have hbw := hb9.trans (hbi.mono (by omega))
          have E0 := (hbw.cell (p := ⟨w.heap.size, 0, none⟩) (by simp; omega)).trans C0
          have E1 := (hbw.cell (p := ⟨w.heap.size + 1, 0, none⟩) (by simp; omega)).trans C1
          by_cases hlt : f < N
          · have hlt2 : f < a * nk := by have := hN.out; omega
            obtain ⟨x, htd, hxe⟩ : ∃ x : Nat, Int.tdiv (f : Int) (nk : Int) = (x : Int) ∧ x = f / nk := ⟨f / nk, rfl, rfl⟩
            obtain ⟨y, htm, hye⟩ : ∃ y : Nat, Int.tmod (f : Int) (nk : Int) = (y : Int) ∧ y = f % nk := ⟨f % nk, rfl, rfl⟩
            have hxa : x < a := by rw [hxe, Nat.div_lt_iff_lt_mul (by omega)]; exact hlt2
            have hyb : y < nk := by rw [hye]; exact Nat.mod_lt _ (by omega)
            have hcp2 := (hbw.cell (p := ⟨bA, oA + k2, none⟩) (by simp; omega)).trans hcp
            obtain ⟨bp, op, uv, rfl, _, hbp, huv, hcu⟩ := (hrp.below hbw (by omega)).at_ (show y < nk by omega)
            obtain ⟨hu0, huN⟩ := r1.out uv (List.mem_of_getElem? huv)
            obtain ⟨u, rfl⟩ := Int.eq_ofNat_of_zero_le hu0
            have i0 : (0 : Int) ≤ (y : Int) := by omega
            have i1 : (y : Int) < (nk : Int) := by omega
            obtain ⟨z, hz, hzz⟩ : ∃ z : Nat, (x : Int) * (nk : Int) = (z : Int) ∧ z = x * nk := ⟨x * nk, by rw [Int.natCast_mul], rfl⟩
            have hval : besB pr nk f = (z : Int) + (u : Int) := by unfold besB; rw [← hxe, ← hye, List.getD_eq_getElem?_getD, huv]; simp [hzz]
            have hzN : z + u < N := by have := pair_lt (a := a) (b := nk) (x := x) (y := u) hxa (by omega); rw [← hzz, hN.out] at this; exact this
            obtain ⟨v, hv, hvv⟩ : ∃ v : Nat, (z : Int) + (u : Int) = (v : Int) ∧ v < N := ⟨z + u, by omega, hzN⟩
            rw [hv] at hval
            have hrs : ((List.range (f + 1)).map (besB pr nk)).map (Value.int .i64) = (((List.range f).map (besB pr nk)).map (Value.int .i64)) ++ [.int .i64 ((z : Int) + (u : Int))] := by rw [hv, List.range_succ, List.map_append, List.map_append, List.map_singleton, hval]; rfl
            have hown' : Hid ((wr.alloc (.cells #[.int .i64 ((z : Int) + (u : Int))] 2)).drew.ownsRow wo.heap.size 2 1 (.slice A3 f c3) f (((List.range f).map (besB pr nk)).map (Value.int .i64))) := Lib.hid (ho.alloc _)
            have hnew' : Hid (∀ q v, [Value.int .i64 ((z : Int) + (u : Int))][q]? = some v → (wr.alloc (.cells #[.int .i64 ((z : Int) + (u : Int))] 2)).drew.cell? ((⟨wr.heap.size, 0, none⟩ : Addr).add q) = some v) := Lib.hid (cell_one_of (heap_new _ _ _ rfl))
            have hml : Hid (f + 1 ≤ maxLen) := Lib.hid (by simp only [maxLen]; omega)
            have hbs : Hid (wo.heap.size ≤ (wr.alloc (.cells #[.int .i64 ((z : Int) + (u : Int))] 2)).drew.heap.size) := Lib.hid (by simp; omega)
            have hBa : Hid (Below wo.heap.size wo (wr.alloc (.cells #[.int .i64 ((z : Int) + (u : Int))] 2)).drew) := Lib.hid (below_drw (hbi.alloc hzi _))
            have hlo6 : Hid (∀ q, (Value.slice A3 f c3).ownBlock = some q → wo.heap.size ≤ q) := Lib.hid (fun q hq => (ho.lt q hq).1)
            replace hrs := Lib.hid hrs
            replace hxe := Lib.hid hxe
            replace hye := Lib.hid hye
            replace huv := Lib.hid huv
            replace hzz := Lib.hid hzz
            replace hval := Lib.hid hval
            have hwx : IntKind.i64.wrap (x : Int) = (x : Int) := by rw [IntKind.wrap_i64]; omega
            have hwy : IntKind.i64.wrap (y : Int) = (y : Int) := by rw [IntKind.wrap_i64]; omega
            have hwz : IntKind.i64.wrap (z : Int) = (z : Int) := by rw [IntKind.wrap_i64]; omega
            have hwv : IntKind.i64.wrap ((z : Int) + (u : Int)) = (z : Int) + (u : Int) := by rw [IntKind.wrap_i64]; omega
            clear ho hv hlt2 hzN
            have dka : decide ((k : Int) < (m : Int)) = false := by simp; omega
            go_wp2_with fail
            go_region_law? (refine step_append_lies _ (by rfl) (.tmp 59) (.tmp 80) 27 (by rfl) wo.heap.size 2 j0 (.int .i64 0) 1 8 Try.underlying27 hj0 hy0 hy1 hy2 rfl (by decide) (.slice A3 f c3) f (((List.range f).map (besB pr nk)).map (Value.int .i64)) (by rfl) hown'.out ⟨wr.heap.size, 0, none⟩ 1 1 [.int .i64 ((z : Int) + (u : Int))] (by rfl) rfl hnew'.out (by simp [Value.oneCell']) (by decide) hml.out (by omega) hbs.out (wr.heap.size + 1) (by simp) ?_; intro g4 c4 w7 ho7 hg7 hor7 hlt7; have f7 : Below wo.heap.size wo w7 := hBa.out.grown hg7 hbs.out hlo6.out; rw [← hrs.out] at ho7)
            all_goals
              have z7 := f7.size
              clear hown' hnew' hbs hBa hlo6 hg7 hor7
              go_wp2_with fail
              go_roundw
              case measure => simp [intOf]; omega
              case rel => exact ⟨f + 1, _, c4, by omega, rfl, by go_num, ho7, z7, f7⟩
          · obtain rfl : N = f := by omega
            have g9w := (hbi.block w2.heap.size (by omega)).trans g9.out
            have C9 : wr.cell? ⟨w2.heap.size, 0, none⟩ = some (.slice A2 k c2) := by rw [cell_of_row _ _ _ _ _ _ g9w]; rfl
            have F9 : wr.frozen? ⟨w2.heap.size, 0, none⟩ = false := frozen_of_row _ _ _ _ _ g9w
            have o9 := ho9.below hbi (Nat.le_refl _)
            have r9 := hrows.keep (Same.of_below hbi (Nat.le_refl _))
            have orow := Own.of_row ho
            have htk := take_succ_of hrow.out
            replace htk := Lib.hid htk
            have hz3 := hb9.size
            replace g9w := Lib.hid g9w
            clear ho b0 hrows ho9 g9
            go_wp2_with (at_builtin; refine wpList_append1 wr rfl (.tmp 83) (.tmp 85) 24 rfl (w2.heap.size + 1) 27 s0 (.slice none 0 0) 24 Try.underlying24 hs0 hu0 hu1 hu2 rfl (by omega) A2 k c2 _ (.slice A3 N c3) rfl o9.1 _ rfl rfl rfl (by omega) (by omega) ?_)
            intro g4 c4 w5 ho5 hg5 hlo5 hlt5 hor5
            have g5 := (hg5.block w2.heap.size (by omega) (fun e => by have := (o9.1.lt _ e.symm).1; omega)).trans g9w.out
            have C5 : w5.cell? ⟨w2.heap.size, 0, none⟩ = some (.slice A2 k c2) := by rw [cell_of_row _ _ _ _ _ _ g5]; rfl
            have F5 : w5.frozen? ⟨w2.heap.size, 0, none⟩ = false := frozen_of_row _ _ _ _ _ g5
            have hrw5 := (r9.kept_ty o9.1 (by decide) hg5).snoc (orow.kept_ty o9.1 (by decide) hg5) (by omega) (by omega)
            have hz5 := hg5.size
            have hb5 : Below w2.heap.size w2 w5 := hbw.grown hg5 (by omega) (fun q hq => by have := (o9.1.lt q hq).1; omega)
            have ho5p := Own.of_row ho5
            replace g5 := Lib.hid g5
            clear C9 F9 o9 r9 orow hg5 ho5 E0 E1 D0 D1
            go_wp2_with fail
            go_roundw
            case measure => simp [intOf]; omega
            case rel =>
              refine ⟨k + 1, vs ++ [.slice A3 N c3], _, c4, by omega, Lib.hid (by simp [hvk.out]), by go_num, Lib.hid ?_, (ho5p.far (.inl (by simp)) _).more (Nat.le_refl _) (by simp), ?_, by simp; omega, hb5.setCell (by simp) _⟩
              · have := heap_setCell_same _ _ 0 _ _ (Value.slice (some ⟨g4, 0, none⟩) (k + 1) c4) g5.out
                simpa using this
              · rw [htk.out]
                exact (hrw5.keep (same_set _ _ _ _ _ (.inl (by simp)))).more (Nat.le_refl _) (by simp; omega)
    · have d0 : decide ((k : Int) < (m : Int) + (m' : Int)) = false := by simp; omega
      have hkm' : k = m + m' := by omega
      have hm1 := hR2.out.max
      have hm2 := hR2'.out.max
      have hz3 := hb9.size
      have g1 := (hb9.block (w.heap.size + 1 + 1) (by omega)).trans q2.out
      have C2 : wr.cell? ⟨w.heap.size + 1 + 1, 0, none⟩ = some (.slice none 0 0) := by rw [cell_of_row _ _ _ _ _ _ g1]; rfl
      have F2 : wr.frozen? ⟨w.heap.size + 1 + 1, 0, none⟩ = false := frozen_of_row _ _ _ _ _ g1
      have C9 : wr.cell? ⟨w2.heap.size, 0, none⟩ = some (.slice A2 k c2) := by rw [cell_of_row _ _ _ _ _ _ g9.out]; rfl
      replace g1 := Lib.hid g1
      replace hkm' := Lib.hid hkm'
      go_wp2_with fail
      have g2 := heap_setCell_same _ _ 0 _ _ (Value.slice A2 k c2) g1.out
      (try simp only [Exit.inBlock, Exit.then])
      refine bodyPost_ret (v := .agg #[.slice A2 k c2]) ?_ rfl ?_
      · exact results_cell_row rfl _ _ (w.heap.size + 1 + 1) 40 #[.slice A2 k c2] (0, 0) _ rfl (by simpa using g2) Try.underlying40 rfl (by kernel_rfl)
      · have e : (besL xss yss a b).take k = besL xss yss a b := List.take_of_length_le (by have := hbl.out; have := hkm'.out; omega)
        rw [e] at hrows
        rw [← hkm'.out]
        refine ⟨A2, c2, rfl, ⟨vs, ?_, ?_⟩, (hBw.trans (hb9.mono (by omega))).setCell (by simp; omega) _⟩
        · exact (ho9.keep (same_set _ _ _ _ _ (.inl (by simp; omega)))).more (by omega) (by simp)
        · exact (hrows.keep (same_set _ _ _ _ _ (.inl (by simp; omega)))).more (by omega) (by simp)
end Go.Proofs.Ytdaljeghdiknpaa
/- DrwZ -/
namespace Go.Proofs.Ytdaljeghdiknpaa
open Go.RowKit
set_option linter.unusedVariables false
set_option maxRecDepth 100000
/-- a number v with v <= most has been drawn -/
def StepP (w w' : World) (lo g : Nat) (T : TypeId) (A : Option Addr) (n c : Nat) (bs : List Int) (most v : Nat) : Prop :=
  v ≤ most ∧ ∃ (i' h' : Nat), Src w' lo g T A n c bs i' h' ∧ Chg g (g + 1) w w'
theorem next_nat (w : World) (lo g : Nat) (A : Option Addr) (n c : Nat) (bs : List Int) (i h : Nat) (s : Src w lo g 122 A n c bs i h) (x : Int) (h1 : 1 ≤ x) (hx : x ≤ 1099511627776) :
    Calls Try.prog 87 #[.pointer (some ⟨g, 0, none⟩), .int .i64 x] w fun e w' => ∃ (v : Nat), e = .returned (.int .i64 v) ∧ StepP w w' lo g 122 A n c bs (x - 1).toNat v := by
  refine (next_any w lo g A n c bs i h s x h1 hx).mono ?_
  rintro e w' ⟨v, i', rfl, P⟩
  obtain ⟨V, rfl⟩ := Int.eq_ofNat_of_zero_le P.ge
  have := P.lt
  exact ⟨V, rfl, by omega, i', _, P.src, P.chg⟩
set_option maxHeartbeats 1000000 in
theorem size_any (w : World) (lo g : Nat) (A : Option Addr) (n c : Nat) (bs : List Int) (i h : Nat) (s : Src w lo g 122 A n c bs i h) :
    Calls Try.prog 116 #[.pointer (some ⟨g, 0, none⟩)] w fun e w' => ∃ (v : Nat), e = .returned (.int .i64 v) ∧ StepP w w' lo g 122 A n c bs 401 v := by
  have hgl := s.lt
  go_enter Try.func116, Try.ntmps116
  go_wp2_with fail
  ((with_reducible refine (next_nat w lo g A n c bs _ _ s 9 (by omega) (by omega)).mono ?_); rintro e w1 ⟨v1, rfl, b1, i1, h1, S1, C1⟩)
  go_wp2_with fail
  ((with_reducible refine (next_nat w1 lo g A n c bs _ _ S1 9 (by omega) (by omega)).mono ?_); rintro e w2 ⟨v2, rfl, b2, i2, h2, S2, C2⟩)
  go_wp2_with fail
  ((with_reducible refine (next_nat w2 lo g A n c bs _ _ S2 30 (by omega) (by omega)).mono ?_); rintro e w3 ⟨v3, rfl, b3, i3, h3, S3, C3⟩)
  go_wp2_with fail
  ((with_reducible refine (next_nat w3 lo g A n c bs _ _ S3 9 (by omega) (by omega)).mono ?_); rintro e w4 ⟨v4, rfl, b4, i4, h4, S4, C4⟩)
  go_wp2_with fail
  ((with_reducible refine (next_nat w4 lo g A n c bs _ _ S4 9 (by omega) (by omega)).mono ?_); rintro e w5 ⟨v5, rfl, b5, i5, h5, S5, C5⟩)
  go_wp2_with fail
  ((with_reducible refine (next_nat w5 lo g A n c bs _ _ S5 60 (by omega) (by omega)).mono ?_); rintro e w6 ⟨v6, rfl, b6, i6, h6, S6, C6⟩)
  have C := ((((C1.trans C2 ⟨Nat.le_refl _, Nat.le_refl _⟩ ⟨Nat.le_refl _, Nat.le_refl _⟩).trans C3 ⟨Nat.le_refl _, Nat.le_refl _⟩ ⟨Nat.le_refl _, Nat.le_refl _⟩).trans C4 ⟨Nat.le_refl _, Nat.le_refl _⟩ ⟨Nat.le_refl _, Nat.le_refl _⟩).trans C5 ⟨Nat.le_refl _, Nat.le_refl _⟩ ⟨Nat.le_refl _, Nat.le_refl _⟩).trans C6 ⟨Nat.le_refl _, Nat.le_refl _⟩ ⟨Nat.le_refl _, Nat.le_refl _⟩
  have hs6 := C.size
  clear C1 C2 C3 C4 C5 C6
  have L7 : RI (w6.alloc (.cells #[.int .i64 400, .int .i64 401, .int .i64 100, .int .i64 v6] 2)) w6.heap.size (w6.heap.size + 1) (some ⟨w6.heap.size, 0, none⟩) 4 [400, 401, 100, (v6 : Int)] := lit_rd w6 #[.int .i64 400, .int .i64 401, .int .i64 100, .int .i64 v6] 2 (by simp)
  have B7 : Below w6.heap.size w6 (w6.alloc (.cells #[.int .i64 400, .int .i64 401, .int .i64 100, .int .i64 v6] 2)) := (Below.refl _ _).alloc (Nat.le_refl _) _
  have S7 := S6.below B7 (by omega)
  have D7 := C.trans_below B7
  have hp := pick_any _ lo g A n c bs i6 _ S7 _ 4 4 _ L7 (by omega) (by simp) (by omega) (by omega)
  go_wp2_with fail
  ((with_reducible refine hp.mono ?_); rintro e w8 ⟨v8, i8, h8, y, rfl, hy, S8, C8, z8⟩)
  have hy := List.mem_of_getElem? hy
  have hy8 : 0 ≤ y ∧ y ≤ 401 := by simp at hy; omega
  have D8 := D7.trans C8 ⟨Nat.le_refl _, Nat.le_refl _⟩ ⟨Nat.le_refl _, Nat.le_refl _⟩
  have hs8 := D8.size
  clear hp hy z8 C8 L7
  have L9 : RI (w8.alloc (.cells #[.int .i64 v1, .int .i64 v2, .int .i64 v3, .int .i64 v4, .int .i64 v5, .int .i64 y] 2)) w8.heap.size (w8.heap.size + 1) (some ⟨w8.heap.size, 0, none⟩) 6 [(v1 : Int), v2, v3, v4, v5, y] := lit_rd w8 #[.int .i64 v1, .int .i64 v2, .int .i64 v3, .int .i64 v4, .int .i64 v5, .int .i64 y] 2 (by simp)
  have B9 : Below w8.heap.size w8 (w8.alloc (.cells #[.int .i64 v1, .int .i64 v2, .int .i64 v3, .int .i64 v4, .int .i64 v5, .int .i64 y] 2)) := (Below.refl _ _).alloc (Nat.le_refl _) _
  have S9 := S8.below B9 (by omega)
  have D9 := D8.trans_below B9
  have hp := pick_any _ lo g A n c bs i8 _ S9 _ 6 6 _ L9 (by omega) (by simp) (by omega) (by omega)
  go_wp2_with fail
  ((with_reducible refine hp.mono ?_); rintro e wa ⟨va, ia, ha, z, rfl, hz, Sa, Ca, za⟩)
  have hz := List.mem_of_getElem? hz
  have hz2 : 0 ≤ z ∧ z ≤ 401 := by simp at hz; omega
  have Da := D9.trans Ca ⟨Nat.le_refl _, Nat.le_refl _⟩ ⟨Nat.le_refl _, Nat.le_refl _⟩
  obtain ⟨Z, rfl⟩ := Int.eq_ofNat_of_zero_le hz2.1
  clear hp hz za Ca L9
  go_wp2_with fail
  go_ret
  exact ⟨Z, rfl, by omega, ia, ha, Sa, Da⟩
end Go.Proofs.Ytdaljeghdiknpaa
/- Any -/
namespace Go.Proofs.Ytdaljeghdiknpaa
open Go.RowKit
set_option linter.unusedVariables false
set_option maxRecDepth 100000
/-- what a draw of a maniplex leaves: rows of its own that are permutations of an even number of flags -/
def DrawnM (w w' : World) (lo g : Nat) (TS T2 T1 : TypeId) (A : Option Addr) (n c : Nat) (bs : List Int) (M : Nat) (A1 : Option Addr) (m c1 : Nat) : Prop :=
  ∃ (zss : List (List Int)) (K i' h' : Nat), OwnS w' w.heap.size w'.heap.size T2 T1 A1 m c1 zss ∧ SysOf zss (2 * K) ∧ 1 ≤ K ∧ 2 * K ≤ M ∧ 1 ≤ m ∧ m ≤ 5 ∧ Src w' lo g TS A n c bs i' h' ∧ Chg g (g + 1) w w'
/-- the length of the slice that the cell at b holds -/
def mLen (w : World) (b : Nat) : Nat := match w.cell? ⟨b, 0, none⟩ with | some (.slice _ n _) => n | _ => 0
theorem mLen_eq {w : World} {b n c : Nat} {A : Option Addr} {T : TypeId} (h : w.heap[b]? = some (.cells #[.slice A n c] T (0, 0))) : mLen w b = n := by
  unfold mLen
  rw [cell_of_row _ _ _ _ _ _ h]
  rfl
/-- the walk's frame: the result's block, the edge, the source -/
structure AnyS (w : World) (lo g b3 : Nat) (TS TM T2 T1 : TypeId) (A : Option Addr) (n c : Nat) (bs : List Int) (wq : World) : Prop where
  hb : b3 = w.heap.size + 3
  hg : g < w.heap.size
  g0 : wq.heap[w.heap.size]? = some (.cells #[.slice none 0 0] TM (0, 0))
  ge : wq.heap[b3]? = some (.cells #[.slice (some ⟨w.heap.size + 1 + 1, 0, none⟩) 1 1] TM (0, 0))
  eo : OwnS wq (w.heap.size + 1) b3 T2 T1 (some ⟨w.heap.size + 1 + 1, 0, none⟩) 1 1 [[1, 0]]
  src : ∃ i h, Src wq lo g TS A n c bs i h
  chg : Chg g (g + 1) w wq
  size : b3 + 2 ≤ wq.heap.size
section
variable {w : World} {lo g b3 : Nat} {TS TM T2 T1 : TypeId} {A : Option Addr} {n c : Nat} {bs : List Int} {wq w2 : World}
theorem AnyS.step (S : AnyS w lo g b3 TS TM T2 T1 A n c bs wq) {i h : Nat} (s : Src w2 lo g TS A n c bs i h) (C : Chg g (g + 1) wq w2) : AnyS w lo g b3 TS TM T2 T1 A n c bs w2 := by
  have h1 := S.hb
  have h2 := S.hg
  have h3 := S.size
  have h4 := C.size
  exact ⟨h1, h2, (C.block _ (by omega) (by omega)).trans S.g0, (C.block _ (by omega) (by omega)).trans S.ge, S.eo.keep (Same.of_chg C (by omega) (.inr (by omega))), ⟨_, _, s⟩, S.chg.trans C ⟨Nat.le_refl _, Nat.le_refl _⟩ ⟨Nat.le_refl _, Nat.le_refl _⟩, by omega⟩
theorem AnyS.below (S : AnyS w lo g b3 TS TM T2 T1 A n c bs wq) (B : Below wq.heap.size wq w2) : AnyS w lo g b3 TS TM T2 T1 A n c bs w2 := by
  obtain ⟨i, h, s⟩ := S.src
  have h2 := S.hg
  have h3 := S.size
  have h1 := S.hb
  exact S.step (s.below B (by omega)) (Chg.of_below _ _ B)
theorem AnyS.setM (S : AnyS w lo g b3 TS TM T2 T1 A n c bs wq) (v : Value) : AnyS w lo g b3 TS TM T2 T1 A n c bs (wq.setCell ⟨b3 + 1, 0, none⟩ v) := by
  obtain ⟨i, h, s⟩ := S.src
  have h1 := S.hb
  have h2 := S.hg
  have h3 := s.above
  exact ⟨h1, h2, (Below.heap_setCell _ _ _ _ (by simp; omega)).trans S.g0, (Below.heap_setCell _ _ _ _ (by simp)).trans S.ge, S.eo.keep (same_set _ _ _ _ _ (.inr (by simp))), ⟨_, _, s.far (by simp; omega) (by simp; omega) _⟩, S.chg.setNew (by simp; omega) _, by have := S.size; simpa using this⟩
theorem AnyS.cellE (S : AnyS w lo g b3 TS TM T2 T1 A n c bs wq) : wq.cell? ⟨b3, 0, none⟩ = some (.slice (some ⟨w.heap.size + 1 + 1, 0, none⟩) 1 1) := by rw [cell_of_row _ _ _ _ _ _ S.ge]; rfl
theorem AnyS.cell0 (S : AnyS w lo g b3 TS TM T2 T1 A n c bs wq) : wq.cell? ⟨w.heap.size, 0, none⟩ = some (.slice none 0 0) := by rw [cell_of_row _ _ _ _ _ _ S.g0]; rfl
theorem AnyS.frz0 (S : AnyS w lo g b3 TS TM T2 T1 A n c bs wq) : wq.frozen? ⟨w.heap.size, 0, none⟩ = false := frozen_of_row _ _ _ _ _ S.g0
end
/-- the maniplex drawn so far, in the block behind the edge's -/
structure AnyM (b3 : Nat) (TM T2 T1 : TypeId) (M : Nat) (wq : World) (A1 : Option Addr) (m c1 : Nat) (zss : List (List Int)) (K : Nat) : Prop where
  gm : wq.heap[b3 + 1]? = some (.cells #[.slice A1 m c1] TM (0, 0))
  own : OwnS wq (b3 + 2) wq.heap.size T2 T1 A1 m c1 zss
  sys : SysOf zss (2 * K)
  k1 : 1 ≤ K
  kM : 2 * K ≤ M
  m1 : 1 ≤ m
  m5 : m ≤ 5
  hz : b3 + 2 ≤ wq.heap.size
section
variable {b3 : Nat} {TM T2 T1 : TypeId} {M : Nat} {wq w2 : World} {A1 : Option Addr} {m c1 : Nat} {zss : List (List Int)} {K : Nat}
theorem AnyM.step (S : AnyM b3 TM T2 T1 M wq A1 m c1 zss K) {g : Nat} (hg : g < b3) (C : Chg g (g + 1) wq w2) : AnyM b3 TM T2 T1 M w2 A1 m c1 zss K := by
  have h3 := S.hz
  have h4 := C.size
  exact ⟨(C.block _ (by omega) (by omega)).trans S.gm, (S.own.keep (Same.of_chg C (Nat.le_refl _) (.inr (by omega)))).more (Nat.le_refl _) h4, S.sys, S.k1, S.kM, S.m1, S.m5, by omega⟩
theorem AnyM.below (S : AnyM b3 TM T2 T1 M wq A1 m c1 zss K) (B : Below wq.heap.size wq w2) : AnyM b3 TM T2 T1 M w2 A1 m c1 zss K := by
  have h3 := S.hz
  have h4 := B.size
  exact ⟨(B.block _ (by omega)).trans S.gm, (S.own.below B (Nat.le_refl _)).more (Nat.le_refl _) h4, S.sys, S.k1, S.kM, S.m1, S.m5, by omega⟩
theorem AnyM.cellM (S : AnyM b3 TM T2 T1 M wq A1 m c1 zss K) : wq.cell? ⟨b3 + 1, 0, none⟩ = some (.slice A1 m c1) := by rw [cell_of_row _ _ _ _ _ _ S.gm]; rfl
theorem AnyM.frzM (S : AnyM b3 TM T2 T1 M wq A1 m c1 zss K) : wq.frozen? ⟨b3 + 1, 0, none⟩ = false := frozen_of_row _ _ _ _ _ S.gm
/-- another maniplex is stored -/
theorem AnyM.set {A2 : Option Addr} {m2 c2 lo2 : Nat} {yss : List (List Int)} {K2 : Nat} {cs : Array Value} (hg : w2.heap[b3 + 1]? = some (.cells cs TM (0, 0))) (hc : cs.size = 1) (o : OwnS w2 lo2 w2.heap.size T2 T1 A2 m2 c2 yss) (hlo : b3 + 2 ≤ lo2) (hs : SysOf yss (2 * K2)) (k1 : 1 ≤ K2) (kM : 2 * K2 ≤ M) (m1 : 1 ≤ m2) (m5 : m2 ≤ 5) (hz : b3 + 2 ≤ w2.heap.size) :
    AnyM b3 TM T2 T1 M (w2.setCell ⟨b3 + 1, 0, none⟩ (.slice A2 m2 c2)) A2 m2 c2 yss K2 := by
  obtain ⟨⟨x⟩⟩ := cs
  · simp at hc
  rename_i x t
  obtain rfl : t = [] := by simpa using hc
  have := heap_setCell_same _ _ 0 _ _ (Value.slice A2 m2 c2) hg
  refine ⟨by simpa using this, ((o.keep (same_set _ _ _ _ _ (.inl (by simp; omega)))).more hlo (by simp)), hs, k1, kM, m1, m5, by simpa using hz⟩
end
section
variable {w : World} {lo g b3 : Nat} {TS TM T2 T1 : TypeId} {A : Option Addr} {n c : Nat} {bs : List Int} {wq : World}
theorem AnyS.retE (S : AnyS w lo g b3 TS TM T2 T1 A n c bs wq) (he : SysOf [[1, 0]] 2) {M : Nat} (hM : 8 ≤ M) (v : Value) : DrawnM w (wq.setCell ⟨w.heap.size, 0, none⟩ v) lo g TS T2 T1 A n c bs M (some ⟨w.heap.size + 1 + 1, 0, none⟩) 1 1 := by
  obtain ⟨i, h, s⟩ := S.src
  have h1 := S.hb
  have h2 := S.hg
  have h3 := s.above
  have h4 := S.size
  exact ⟨_, 1, i, h, (S.eo.keep (same_set _ _ _ _ _ (.inl (by simp)))).more (by omega) (by simp; omega), he, by omega, by omega, by omega, by omega, s.far (by simp; omega) (by simp; omega) _, S.chg.setNew (by simp) _⟩
theorem AnyS.ret (S : AnyS w lo g b3 TS TM T2 T1 A n c bs wq) {M : Nat} {A1 : Option Addr} {m c1 : Nat} {zss : List (List Int)} {K : Nat} (N : AnyM b3 TM T2 T1 M wq A1 m c1 zss K) (v : Value) : DrawnM w (wq.setCell ⟨w.heap.size, 0, none⟩ v) lo g TS T2 T1 A n c bs M A1 m c1 := by
  obtain ⟨i, h, s⟩ := S.src
  have h1 := S.hb
  have h2 := S.hg
  have h3 := s.above
  have h4 := S.size
  exact ⟨zss, K, i, h, (N.own.keep (same_set _ _ _ _ _ (.inl (by simp; omega)))).more (by omega) (by simp), N.sys, N.k1, N.kM, N.m1, N.m5, s.far (by simp; omega) (by simp; omega) _, S.chg.setNew (by simp) _⟩
end
theorem edge_sys : SysOf [[1, 0]] 2 := by
  intro p hp
  obtain rfl := List.mem_singleton.1 hp
  refine ⟨fun x hx => ?_, by decide, rfl⟩
  simp at hx
  rcases hx with rfl | rfl <;> omega
theorem next_one (w : World) (lo g : Nat) (A : Option Addr) (n c : Nat) (bs : List Int) (i h : Nat) (s : Src w lo g 122 A n c bs i h) (r : Nat) (h1 : 1 ≤ r) (hx : r ≤ 400) :
    Calls Try.prog 87 #[.pointer (some ⟨g, 0, none⟩), .int .i64 (r : Int)] w fun e w' => ∃ (v p i' h' : Nat), e = .returned (.int .i64 v) ∧ (1 : Int) + (v : Int) = (p : Int) ∧ 1 ≤ p ∧ p ≤ r ∧ Src w' lo g 122 A n c bs i' h' ∧ Chg g (g + 1) w w' := by
  refine (next_nat w lo g A n c bs i h s (r : Int) (by omega) (by omega)).mono ?_
  rintro e w' ⟨v, rfl, hv, i', h', s', C⟩
  exact ⟨v, 1 + v, i', h', rfl, by omega, by omega, by omega, s', C⟩
set_option maxHeartbeats 8000000 in
theorem l02Any_any (w : World) (lo g : Nat) (A : Option Addr) (n c : Nat) (bs : List Int) (i h : Nat) (s : Src w lo g 122 A n c bs i h) (M : Nat) (hM8 : 8 ≤ M) (hM4 : M ≤ 400) :
    Calls Try.prog 157 #[.pointer (some ⟨g, 0, none⟩), .int .i64 (M : Int)] w fun e w' => ∃ (A1 : Option Addr) (m c1 : Nat), e = .returned (.agg #[.slice A1 m c1]) ∧ DrawnM w w' lo g 122 27 2 A n c bs M A1 m c1 := by
  have hgl := s.lt
  go_enter Try.func157, Try.ntmps157
  go_wp2_with fail
  obtain ⟨b3, hb3⟩ : ∃ b3, w.heap.size + 1 + 1 + 1 = b3 := ⟨_, rfl⟩
  rw [hb3]
  obtain ⟨W0, hW⟩ : ∃ W0 : World, (((((w.alloc (.cells #[.slice none 0 0] 40)).alloc (.cells #[.int .i64 1, .int .i64 0] 2)).alloc (.cells #[.slice (some ⟨w.heap.size + 1, 0, none⟩) 2 2] 27)).alloc (.cells #[.slice (some ⟨w.heap.size + 1 + 1, 0, none⟩) 1 1] 40)).alloc (.cells #[.slice (some ⟨w.heap.size + 1 + 1, 0, none⟩) 1 1] 40)) = W0 := ⟨_, rfl⟩
  have S0 : AnyS w lo g b3 122 40 27 2 A n c bs W0 := by
    subst hb3
    rw [← hW]
    have E1 := World.ownsRow_lit (e := 2) (base := w.heap.size + 1) (size := 1) (w.alloc (.cells #[.slice none 0 0] 40)) #[.int .i64 1, .int .i64 0] 2 (by simp) (by simp only [maxLen]; omega) rfl
    have E2 := World.ownsRow_lit (e := 27) (base := w.heap.size + 1) (size := 1) ((w.alloc (.cells #[.slice none 0 0] 40)).alloc (.cells #[.int .i64 1, .int .i64 0] 2)) #[.slice (some ⟨w.heap.size + 1, 0, none⟩) 2 2] 1 (by simp) (by simp only [maxLen]; omega) rfl
    have z1 : (w.alloc (.cells #[.slice none 0 0] 40)).heap.size = w.heap.size + 1 := by simp
    have z2 : ((w.alloc (.cells #[.slice none 0 0] 40)).alloc (.cells #[.int .i64 1, .int .i64 0] 2)).heap.size = w.heap.size + 1 + 1 := by simp
    rw [z1] at E1
    rw [z2] at E2
    have o1 := Own.of_row E1
    have o2 := Own.of_row E2
    have B : Below w.heap.size w (((((w.alloc (.cells #[.slice none 0 0] 40)).alloc (.cells #[.int .i64 1, .int .i64 0] 2)).alloc (.cells #[.slice (some ⟨w.heap.size + 1, 0, none⟩) 2 2] 27)).alloc (.cells #[.slice (some ⟨w.heap.size + 1 + 1, 0, none⟩) 1 1] 40)).alloc (.cells #[.slice (some ⟨w.heap.size + 1 + 1, 0, none⟩) 1 1] 40)) := ((((((Below.refl _ _).alloc (Nat.le_refl _) _).alloc (by simp) _).alloc (by simp; omega) _).alloc (by simp; omega) _).alloc (by simp; omega) _)
    refine ⟨rfl, hgl, ?_, ?_, ⟨[.slice (some ⟨w.heap.size + 1, 0, none⟩) 2 2], ?_, ?_⟩, ⟨i, h, s.below B hgl⟩, Chg.of_below _ _ B, by simp⟩
    · exact (Below.heap_alloc _ _ _ (by simp; omega)).trans ((Below.heap_alloc _ _ _ (by simp; omega)).trans ((Below.heap_alloc _ _ _ (by simp; omega)).trans ((Below.heap_alloc _ _ _ (by simp)).trans (heap_new _ _ _ rfl))))
    · exact (Below.heap_alloc _ _ _ (by simp)).trans (heap_new _ _ _ (by simp))
    · exact ((o2.keep (same_alloc _ _ _ _ (by first | (simp; done) | (simp; omega)))).keep (same_alloc _ _ _ _ (by first | (simp; done) | (simp; omega)))).more (Nat.le_refl _) (by simp)
    · have r1 : RowsOwn ((w.alloc (.cells #[.slice none 0 0] 40)).alloc (.cells #[.int .i64 1, .int .i64 0] 2)) (w.heap.size + 1) (w.heap.size + 1 + 1) 2 [.slice (some ⟨w.heap.size + 1, 0, none⟩) 2 2] [[1, 0]] := RowsOwn.snoc (hi := w.heap.size + 1) (hi' := w.heap.size + 1 + 1) (vs := []) (xss := []) (xs := [1, 0]) RowsOwn.nil (by simpa using o1) (Nat.le_refl _) (by omega)
      exact ((((r1.keep (same_alloc _ _ _ _ (by first | (simp; done) | (simp; omega)))).keep (same_alloc _ _ _ _ (by first | (simp; done) | (simp; omega)))).keep (same_alloc _ _ _ _ (by first | (simp; done) | (simp; omega))))).more (Nat.le_refl _) (by omega)
  have G0 : W0.heap[b3 + 1]? = some (.cells #[.slice (some ⟨w.heap.size + 1 + 1, 0, none⟩) 1 1] 40 (0, 0)) := by rw [← hW]; exact heap_new _ _ _ (by simp; omega)
  rw [hW]
  clear hW
  have hb : w.heap.size + 3 ≤ b3 ∧ b3 ≤ w.heap.size + 3 := by have := S0.hb; omega
  clear hb3
  obtain ⟨i0, h0, s0⟩ := S0.src
  have hn := next_any W0 lo g A n c bs i0 h0 s0 7 (by omega) (by omega)
  ((with_reducible refine hn.mono ?_); rintro e w2 ⟨v, i2, rfl, P⟩)
  have v0 := P.ge
  have v7 := P.lt
  have S2 := S0.step P.src P.chg
  have hz2 := S2.size
  have G2 := (P.chg.block (b3 + 1) (by have := S0.size; omega) (by omega)).trans G0
  obtain ⟨i2', h2', s2⟩ := S2.src
  clear hn P s0 G0 S0 s
  have hz2 := S2.size
  have D3 := S2.cellE
  have D4 : w2.cell? ⟨b3 + 1, 0, none⟩ = some (.slice (some ⟨w.heap.size + 1 + 1, 0, none⟩) 1 1) := by rw [cell_of_row _ _ _ _ _ _ G2]; rfl
  have F4 : w2.frozen? ⟨b3 + 1, 0, none⟩ = false := frozen_of_row _ _ _ _ _ G2
  have D0 := S2.cell0
  have F0 := S2.frz0
  obtain ⟨M2, hM2⟩ : ∃ M2 : Nat, Int.tdiv (M : Int) 2 = (M2 : Int) := ⟨M / 2, rfl⟩
  obtain ⟨M4, hM4'⟩ : ∃ M4 : Nat, Int.tdiv (M : Int) 4 = (M4 : Int) := ⟨M / 4, rfl⟩
  have hM2b : 2 * M2 ≤ M ∧ 4 ≤ M2 := by
    have : (M2 : Int) = ((M / 2 : Nat) : Int) := hM2.symm
    omega
  have hM4b : 4 * M4 ≤ M ∧ 2 ≤ M4 := by
    have : (M4 : Int) = ((M / 4 : Nat) : Int) := hM4'.symm
    omega
  go_upto_block 0 with fail
  go_cut [] from 7 to 62 (fun wx => ∃ (A1 : Option Addr) (m c1 : Nat) (zss : List (List Int)) (K : Nat), AnyS w lo g b3 122 40 27 2 A n c bs wx ∧ AnyM b3 40 27 2 M wx A1 m c1 zss K)
  case first =>
    have hcase : v = 0 ∨ v = 1 ∨ v = 2 ∨ v = 3 ∨ 4 ≤ v := by omega
    rcases hcase with rfl | rfl | rfl | rfl | hv4
    · clear D3 D4 F4 D0 F0
      have hn3 := next_nat w2 lo g A n c bs _ _ s2 (M2 : Int) (by omega) (by omega)
      go_wp2_with fail
      ((with_reducible refine hn3.mono ?_); rintro e w3 ⟨u, rfl, hu3, i3, h3, s3, C3⟩)
      have S3 := S2.step s3 C3
      clear hn3
      have hu3 : u + 1 ≤ M2 := by omega
      obtain ⟨p, hp⟩ : ∃ p : Nat, (1 : Int) + (u : Int) = (p : Int) := ⟨1 + u, by omega⟩
      have hp1 : 1 ≤ p ∧ p ≤ M2 := by omega
      have G3 := (C3.block (b3 + 1) (by omega) (by omega)).trans G2
      have hz3 := S3.size
      go_wp2_with fail
      ((with_reducible refine (l02Polygon_any p (by omega) (by omega) w3).mono ?_); rintro e w4 ⟨A4, c4, rfl, o4, f4⟩)
      have S4 := S3.below f4
      have hz4 := S4.size
      have G4 := (f4.block (b3 + 1) (by omega)).trans G3
      have D4 : w4.cell? ⟨b3 + 1, 0, none⟩ = some (.slice (some ⟨w.heap.size + 1 + 1, 0, none⟩) 1 1) := by rw [cell_of_row _ _ _ _ _ _ G4]; rfl
      have F4 : w4.frozen? ⟨b3 + 1, 0, none⟩ = false := frozen_of_row _ _ _ _ _ G4
      go_wp2_with fail
      go_meet
      exact ⟨_, _, _, _, p, S4.setM _, AnyM.set G4 rfl o4 (by have := S3.size; omega) (ply_sys (by omega)) (by omega) (by omega) (by omega) (by omega) hz4⟩
    · have g9 := heap_setCell_same _ _ 0 _ _ (Value.slice (some ⟨w.heap.size + 1 + 1, 0, none⟩) 1 1) S2.g0
      go_wp2_with fail
      (try simp only [Exit.inBlock, Exit.then])
      refine bodyPost_ret (v := .agg #[.slice (some ⟨w.heap.size + 1 + 1, 0, none⟩) 1 1]) ?_ rfl ?_
      · exact results_cell_row rfl _ _ w.heap.size 40 #[.slice (some ⟨w.heap.size + 1 + 1, 0, none⟩) 1 1] (0, 0) _ rfl (by simpa using g9) Try.underlying40 rfl (by kernel_rfl)
      · exact ⟨_, _, _, rfl, S2.retE edge_sys hM8 _⟩
    · clear D3 D4 F4 D0 F0
      have hn3 := next_nat w2 lo g A n c bs _ _ s2 (M4 : Int) (by omega) (by omega)
      go_wp2_with fail
      ((with_reducible refine hn3.mono ?_); rintro e w3 ⟨u, rfl, hu3, i3, h3, s3, C3⟩)
      have S3 := S2.step s3 C3
      clear hn3
      have hu3 : u + 1 ≤ M4 := by omega
      obtain ⟨p, hp⟩ : ∃ p : Nat, (1 : Int) + (u : Int) = (p : Int) := ⟨1 + u, by omega⟩
      have hp1 : 1 ≤ p ∧ p ≤ M4 := by omega
      have G3 := (C3.block (b3 + 1) (by omega) (by omega)).trans G2
      have hz3 := S3.size
      go_wp2_with fail
      ((with_reducible refine (l02Polygon_any p (by omega) (by omega) w3).mono ?_); rintro e w4 ⟨A4, c4, rfl, o4, f4⟩)
      have S4 := S3.below f4
      have hz4 := S4.size
      have G4 := (f4.block (b3 + 1) (by omega)).trans G3
      have D4 : w4.cell? ⟨b3 + 1, 0, none⟩ = some (.slice (some ⟨w.heap.size + 1 + 1, 0, none⟩) 1 1) := by rw [cell_of_row _ _ _ _ _ _ G4]; rfl
      have F4 : w4.frozen? ⟨b3 + 1, 0, none⟩ = false := frozen_of_row _ _ _ _ _ G4
      have S5 := S4.setM (.slice A4 2 c4)
      have N5 : AnyM b3 40 27 2 M (w4.setCell ⟨b3 + 1, 0, none⟩ (.slice A4 2 c4)) A4 2 c4 _ p := AnyM.set G4 rfl o4 (by have := S3.size; omega) (ply_sys (by omega)) (by omega) (by omega) (by omega) (by omega) hz4
      obtain ⟨pss, hpss⟩ : ∃ pss, [(List.range (2 * p)).map plyA, (List.range (2 * p)).map (plyB (2 * p))] = pss := ⟨_, rfl⟩
      rw [hpss] at N5
      have E3 := S5.cellE
      have E4 := N5.cellM
      go_wp2_with fail
      obtain ⟨w5, hw5⟩ : ∃ w5, w4.setCell ⟨b3 + 1, 0, none⟩ (.slice A4 2 c4) = w5 := ⟨_, rfl⟩
      rw [hw5] at S5 N5 E3 E4 ⊢
      clear hw5
      have hz5 := S5.size
      ((with_reducible refine (l02Beside_any A4 2 c4 pss _ 1 1 [[1, 0]] w5 N5.own.rs (Nat.le_refl _) S5.eo.rs (by omega) (by omega) (by omega) (by omega) (2 * p) 2 N5.sys edge_sys (by omega) (by omega) (by omega)).mono ?_); rintro e w6 ⟨A6, c6, rfl, o6, f6⟩)
      have S6 := S5.below f6
      have N6 := N5.below f6
      have E4 := N6.cellM
      have F4 := N6.frzM
      have hys : SysOf (besL pss [[1, 0]] (2 * p) 2) (2 * (2 * p)) := by
        have := bes_sys N5.sys edge_sys
        rwa [Nat.mul_comm (2 * p) 2] at this
      go_wp2_with fail
      go_meet
      exact ⟨_, _, _, _, 2 * p, S6.setM _, AnyM.set N6.gm rfl o6 (by omega) hys (by omega) (by omega) (by omega) (by omega) S6.size⟩
    · clear D3 D4 F4 D0 F0
      have hn3 := next_nat w2 lo g A n c bs _ _ s2 4 (by omega) (by omega)
      go_wp2_with fail
      ((with_reducible refine hn3.mono ?_); rintro e w3 ⟨u, rfl, hu3, i3, h3, s3, C3⟩)
      have S3 := S2.step s3 C3
      clear hn3
      have hu3 : u ≤ 3 := by omega
      obtain ⟨p, hp⟩ : ∃ p : Nat, (1 : Int) + (u : Int) = (p : Int) := ⟨1 + u, by omega⟩
      have hp1 : 1 ≤ p ∧ p ≤ 4 := by omega
      have G3 := (C3.block (b3 + 1) (by omega) (by omega)).trans G2
      have hz3 := S3.size
      obtain ⟨p4, hp4⟩ : ∃ p4 : Nat, (4 : Int) * (p : Int) = (p4 : Int) := ⟨4 * p, by omega⟩
      go_upto_if 51 with fail
      go_cut [7] from 44 to 51 (fun v7 wx => ∃ q : Nat, v7 = .int .i64 q ∧ 1 ≤ q ∧ 4 * q ≤ M ∧ q ≤ 4 ∧ wx = w3)
      case first =>
        by_cases hq : M < p4
        · have d1 : decide ((M : Int) < (p4 : Int)) = true := by simp; omega
          go_wp2_with fail
          go_meet
          exact ⟨2, rfl, by omega, by omega, by omega, rfl⟩
        · have d1 : decide ((M : Int) < (p4 : Int)) = false := by simp; omega
          go_wp2_with fail
          go_meet
          exact ⟨p, rfl, by omega, by omega, by omega, rfl⟩
      case rest =>
        obtain ⟨q, rfl, hq1, hq2, hq4, rfl⟩ := hcut
        clear hp4 hp hp1 hM2 hM2b hM4'
        obtain ⟨q4, hq4'⟩ : ∃ q4 : Nat, (4 : Int) * (q : Int) = (q4 : Int) := ⟨4 * q, by omega⟩
        have hq4v : q4 = 4 * q := by omega
        obtain ⟨r, hr⟩ : ∃ r : Nat, Int.tdiv (M : Int) (q4 : Int) = (r : Int) := ⟨M / q4, rfl⟩
        have hrv : M / q4 = r := Int.ofNat.inj hr
        have hr1 : 1 ≤ r := by rw [← hrv]; exact Nat.div_pos (by omega) (by omega)
        have hrM : r * q4 ≤ M := by rw [← hrv]; exact Nat.div_mul_le_self M q4
        have hr4 : r ≤ M := Nat.le_trans (Nat.le_mul_of_pos_right r (by omega)) hrM
        have hpos : (0 : Int) < (q4 : Int) := by omega
        have hq0 : ¬ q4 = 0 := by omega
        have hwq : IntKind.i64.wrap (q4 : Int) = (q4 : Int) := by rw [IntKind.wrap_i64]; omega
        have hr2 : (M : Int) / (q4 : Int) = (r : Int) := by rw [← hrv]; simp
        have hwr : IntKind.i64.wrap (r : Int) = (r : Int) := by rw [IntKind.wrap_i64]; omega
        have S3d : AnyS w lo g b3 122 40 27 2 A n c bs wc.drew := S3.below (below_drw (Below.refl _ _))
        have G3d : wc.drew.heap[b3 + 1]? = some (.cells #[.slice (some ⟨w.heap.size + 1 + 1, 0, none⟩) 1 1] 40 (0, 0)) := G3
        have hz3d : b3 + 2 ≤ wc.drew.heap.size := hz3
        have hP2 : Hid (∀ p2, p2 ≤ r → 2 * p2 ≤ M) := Lib.hid (fun p2 hp => by
          have h1 := Nat.mul_le_mul_right q4 hp
          have h3 : p2 * 4 ≤ p2 * q4 := Nat.mul_le_mul_left p2 (by omega)
          omega)
        have hP3 : Hid (∀ p2, p2 ≤ r → 2 * q * (2 * p2) ≤ M) := Lib.hid (fun p2 hp => by
          have h1 := Nat.mul_le_mul_right q4 hp
          have h3 : 2 * q * (2 * p2) = p2 * q4 := by rw [hq4v, Nat.mul_comm (2 * q), Nat.mul_comm 2 p2, Nat.mul_assoc, ← Nat.mul_assoc 2 2 q]
          omega)
        have hPw : Hid (∀ p2, p2 ≤ r → IntKind.i64.wrap (p2 : Int) = (p2 : Int)) := Lib.hid (fun p2 hp => by rw [IntKind.wrap_i64]; omega)
        replace hrv := Lib.hid hrv
        replace hrM := Lib.hid hrM
        replace hq4v := Lib.hid hq4v
        replace S3d := Lib.hid S3d
        replace G3d := Lib.hid G3d
        clear S3 G3 s3 C3
        go_wp2_with fail
        go_region_law? (first
          | (refine step_call rfl 88 #[.int .i64 (q : Int)] (by go_simp) (l02Polygon_any q (by omega) (by omega) _) ?_; rintro e w6 ⟨A6, c6, rfl, o6, f6⟩; refine ⟨_, rfl, ?_⟩; have S6 := S3d.out.below f6; have G6 := (f6.block (b3 + 1) (by omega)).trans G3d.out; have hz6 := S6.size; obtain ⟨i6, h6, s6⟩ := S6.src; replace S6 := Lib.hid S6; replace G6 := Lib.hid G6)
          | (refine step_call rfl 87 #[.pointer (some ⟨g, 0, none⟩), .int .i64 (r : Int)] (by go_simp) (next_one _ lo g A n c bs _ _ s6 r (by omega) (by omega)) ?_; rintro e w7 ⟨u2, p2, i7, h7, rfl, hp2, hp20, hp21, s7, C7⟩; refine ⟨_, rfl, ?_⟩; have S7 := S6.out.step s7 C7; have G7 := (C7.block (b3 + 1) (by omega) (by omega)).trans G6.out; have hz7 := S7.size; have o6 := (o6.keep (Same.of_chg C7 (Nat.le_refl _) (.inr (by omega)))); have hz67 := C7.size; have hp2M := hP2.out p2 hp21; have hpq := hP3.out p2 hp21; have hwp2 := hPw.out p2 hp21; replace S7 := Lib.hid S7; replace G7 := Lib.hid G7)
          | (refine step_call rfl 88 #[.int .i64 (p2 : Int)] (by go_simp) (l02Polygon_any p2 (by omega) (by omega) _) ?_; rintro e w8 ⟨A8, c8, rfl, o8, f8⟩; refine ⟨_, rfl, ?_⟩; have S8 := S7.out.below f8; have G8 := (f8.block (b3 + 1) (by omega)).trans G7.out; have hz8 := S8.size; have o6 := o6.below f8 hz67; have hz78 := f8.size; replace S8 := Lib.hid S8; replace G8 := Lib.hid G8)
          | (refine step_call rfl 177 #[.agg #[.slice A6 2 c6], .agg #[.slice A8 2 c8]] (by go_simp) (l02Beside_any A6 2 c6 _ A8 2 c8 _ _ o6.rs (by omega) o8.rs (Nat.le_refl _) (by omega) (by omega) (by omega) (2 * q) (2 * p2) (ply_sys hq1) (ply_sys hp20) (by omega) (by omega) (by omega)) ?_; rintro e w9 ⟨A9, c9, rfl, o9, f9⟩; refine ⟨_, rfl, ?_⟩; have S9 := S8.out.below f9; have G9 := (f9.block (b3 + 1) (by omega)).trans G8.out; have F9 : w9.frozen? ⟨b3 + 1, 0, none⟩ = false := frozen_of_row _ _ _ _ _ G9; have D9 : w9.cell? ⟨b3 + 1, 0, none⟩ = some (.slice (some ⟨w.heap.size + 1 + 1, 0, none⟩) 1 1) := by { rw [cell_of_row _ _ _ _ _ _ G9]; rfl }; replace S9 := Lib.hid S9; replace G9 := Lib.hid G9))
        all_goals
          have hys : SysOf (besL [(List.range (2 * q)).map plyA, (List.range (2 * q)).map (plyB (2 * q))] [(List.range (2 * p2)).map plyA, (List.range (2 * p2)).map (plyB (2 * p2))] (2 * q) (2 * p2)) (2 * (q * (2 * p2))) := by
            have := bes_sys (ply_sys hq1) (ply_sys hp20)
            rwa [Nat.mul_assoc] at this
          rw [Nat.mul_assoc] at hpq
          have hK1 : 1 ≤ q * (2 * p2) := Nat.mul_pos (by omega) (by omega)
          go_wp2_with fail
          go_meet
          exact ⟨_, _, _, _, q * (2 * p2), S9.out.setM _, AnyM.set G9.out rfl o9 hz8 hys hK1 hpq (by omega) (by omega) S9.out.size⟩
    · clear D3 D4 F4 D0 F0
      have e0 : (v == 0) = false := by simp; omega
      have e1 : (v == 1) = false := by simp; omega
      have e2 : (v == 2) = false := by simp; omega
      have e3 : (v == 3) = false := by simp; omega
      have hn3 := next_nat w2 lo g A n c bs _ _ s2 (M4 : Int) (by omega) (by omega)
      go_wp2_with fail
      ((with_reducible refine hn3.mono ?_); rintro e w3 ⟨u, rfl, hu3, i3, h3, s3, C3⟩)
      have S3 := S2.step s3 C3
      clear hn3
      have hu3 : u + 1 ≤ M4 := by omega
      obtain ⟨p, hp⟩ : ∃ p : Nat, (1 : Int) + (u : Int) = (p : Int) := ⟨1 + u, by omega⟩
      have hp1 : 1 ≤ p ∧ p ≤ M4 := by omega
      have G3 := (C3.block (b3 + 1) (by omega) (by omega)).trans G2
      have hz3 := S3.size
      have hMp := l02Map_any w3 lo g A n c bs _ _ s3 p (by omega) (by omega)
      go_wp2_with fail
      ((with_reducible refine hMp.mono ?_); rintro e w4 ⟨A4, c4, zss, F, i4, h4, rfl, o4, hsF, hF1, hF2, ⟨K, rfl⟩, s4, C4⟩)
      have S4 := S3.step s4 C4
      have hz4 := S4.size
      have G4 := (C4.block (b3 + 1) (by omega) (by omega)).trans G3
      have D4 : w4.cell? ⟨b3 + 1, 0, none⟩ = some (.slice (some ⟨w.heap.size + 1 + 1, 0, none⟩) 1 1) := by rw [cell_of_row _ _ _ _ _ _ G4]; rfl
      have F4 : w4.frozen? ⟨b3 + 1, 0, none⟩ = false := frozen_of_row _ _ _ _ _ G4
      go_wp2_with fail
      go_meet
      exact ⟨_, _, _, _, K, S4.setM _, AnyM.set G4 rfl o4 (by have := S3.size; omega) hsF (by omega) (by omega) (by omega) (by omega) hz4⟩
  case rest =>
    obtain ⟨A1, m, c1, zss, K, S, N⟩ := hcut
    replace S := Lib.hid S
    replace N := Lib.hid N
    clear S2 G2 s2 D3 D4 F4 D0 F0 hz2
    go_wp2_with fail
    go_loopw [] (fun wq => ∃ (A1 : Option Addr) (m c1 : Nat) (zss : List (List Int)) (K : Nat), Hid (AnyS w lo g b3 122 40 27 2 A n c bs wq) ∧ Hid (AnyM b3 40 27 2 M wq A1 m c1 zss K)) (fun wq => 5 - mLen wq (b3 + 1))
    case atStart => exact ⟨A1, m, c1, zss, K, S, N⟩
    case round =>
      clear S N
      clear A1 m c1 zss K
      obtain ⟨A1, m, c1, zss, K, S, N⟩ := hrel
      have D3 := S.out.cellE
      have D4 := N.out.cellM
      have D0 := S.out.cell0
      have F0 := S.out.frz0
      have m1 := N.out.m1
      have m5 := N.out.m5
      by_cases hm5 : m < 5
      · have d1 : decide ((m : Int) < 5) = true := by simp; omega
        obtain ⟨F, hF⟩ : ∃ F, 2 * K = F := ⟨_, rfl⟩
        have hfl : flg zss = F := by
          have hl := N.out.own.len
          obtain ⟨p, hp⟩ : ∃ p, zss[0]? = some p := ⟨_, List.getElem?_eq_getElem (by omega)⟩
          rw [flg_of hp, ← hF]
          exact (N.out.sys p (List.mem_of_getElem? hp)).2.2
        have hFM : F ≤ M := by have := N.out.kM; omega
        have hK1 := N.out.k1
        have hfa := hfl ▸ l02Flags_any A1 m c1 zss wr N.out.own.rs (Nat.le_refl _) (by omega)
        obtain ⟨F2, hF2⟩ : ∃ F2 : Nat, (F : Int) * 2 = (F2 : Int) := ⟨2 * F, by omega⟩
        by_cases hG : F2 ≤ M
        · have d2 : decide ((F2 : Int) ≤ (M : Int)) = true := by simp; omega
          go_wp2_with fail
          ((with_reducible refine hfa.mono ?_); rintro e w3 ⟨rfl, f3⟩)
          have S3 := S.out.below f3
          have N3 := N.out.below f3
          obtain ⟨i3, h3, s3⟩ := S3.src
          have hn4 := next_any w3 lo g A n c bs _ _ s3 3 (by omega) (by omega)
          clear hfa
          go_wp2_with fail
          ((with_reducible refine hn4.mono ?_); rintro e w4 ⟨v, i4, rfl, P4⟩)
          have S4 := S3.step P4.src P4.chg
          have N4 := N3.step (g := g) (by omega) P4.chg
          obtain ⟨i4', h4', s4⟩ := S4.src
          clear hn4 P4 s3
          by_cases hv0 : v = 0
          · subst hv0
            have hn5 := next_any w4 lo g A n c bs _ _ s4 2 (by omega) (by omega)
            go_wp2_with fail
            ((with_reducible refine hn5.mono ?_); rintro e w5 ⟨v2, i5, rfl, P5⟩)
            have S5 := S4.step P5.src P5.chg
            have N5 := N4.step (g := g) (by omega) P5.chg
            have hz5 := S5.size
            have E3 := S5.cellE
            have E4 := N5.cellM
            clear hn5 P5 s4 D3 D4 D0 F0
            have hsz : mLen wr (b3 + 1) = m := mLen_eq N.out.gm
            have hFF : F * 2 ≤ 400 := by omega
            have hsF : SysOf zss F := by rw [← hF]; exact N.out.sys
            by_cases hv2 : v2 = 0
            · subst hv2
              go_wp2_with fail
              ((with_reducible refine (l02Beside_any A1 m c1 zss _ 1 1 [[1, 0]] w5 N5.own.rs (Nat.le_refl _) S5.eo.rs (by omega) (by omega) (by omega) (by omega) F 2 hsF edge_sys (by omega) (by omega) hFF).mono ?_); rintro e w6 ⟨A6, c6, rfl, o6, f6⟩)
              have S6 := S5.below f6
              have N6 := N5.below f6
              have E4 := N6.cellM
              have F4 := N6.frzM
              have hys : SysOf (besL zss [[1, 0]] F 2) (2 * F) := by
                have := bes_sys hsF edge_sys
                rwa [Nat.mul_comm F 2] at this
              have N7 : AnyM b3 40 27 2 M (w6.setCell ⟨b3 + 1, 0, none⟩ (.slice A6 (m + 1) c6)) A6 (m + 1) c6 _ F := AnyM.set N6.gm rfl o6 (by omega) hys (by omega) (by omega) (by omega) (by omega) S6.size
              have hsz2 : mLen (w6.setCell ⟨b3 + 1, 0, none⟩ (.slice A6 (m + 1) c6)) (b3 + 1) = m + 1 := mLen_eq N7.gm
              have S7 := S6.setM (.slice A6 (m + 1) c6)
              replace S7 := Lib.hid S7
              replace N7 := Lib.hid N7
              go_wp2_with fail
              go_roundw
              case measure => simp only [hsz, hsz2]; omega
              case rel => exact ⟨_, _, _, _, F, S7, N7⟩
            · have dv : (v2 == 0) = false := by simpa using hv2
              go_wp2_with fail
              ((with_reducible refine (l02Beside_any _ 1 1 [[1, 0]] A1 m c1 zss w5 S5.eo.rs (by omega) N5.own.rs (Nat.le_refl _) (by omega) (by omega) (by omega) 2 F edge_sys hsF (by omega) (by omega) (by omega)).mono ?_); rintro e w6 ⟨A6, c6, rfl, o6, f6⟩)
              have S6 := S5.below f6
              have N6 := N5.below f6
              have E4 := N6.cellM
              have F4 := N6.frzM
              have hys : SysOf (besL [[1, 0]] zss 2 F) (2 * F) := bes_sys edge_sys hsF
              have N7 : AnyM b3 40 27 2 M (w6.setCell ⟨b3 + 1, 0, none⟩ (.slice A6 (1 + m) c6)) A6 (1 + m) c6 _ F := AnyM.set N6.gm rfl o6 (by omega) hys (by omega) (by omega) (by omega) (by omega) S6.size
              have hsz2 : mLen (w6.setCell ⟨b3 + 1, 0, none⟩ (.slice A6 (1 + m) c6)) (b3 + 1) = 1 + m := mLen_eq N7.gm
              have S7 := S6.setM (.slice A6 (1 + m) c6)
              replace S7 := Lib.hid S7
              replace N7 := Lib.hid N7
              go_wp2_with fail
              go_roundw
              case measure => simp only [hsz, hsz2]; omega
              case rel => exact ⟨_, _, _, _, F, S7, N7⟩
          · have dv : (v == 0) = false := by simpa using hv0
            have g9 := heap_setCell_same _ _ 0 _ _ (Value.slice A1 m c1) S4.g0
            have D4 := N4.cellM
            have D0 := S4.cell0
            have F0 := S4.frz0
            replace g9 := Lib.hid g9
            go_wp2_with fail
            (try simp only [Exit.inBlock, Exit.then])
            refine bodyPost_ret (v := .agg #[.slice A1 m c1]) ?_ rfl ?_
            · exact results_cell_row rfl _ _ w.heap.size 40 #[.slice A1 m c1] (0, 0) _ rfl (by simpa using g9.out) Try.underlying40 rfl (by kernel_rfl)
            · exact ⟨_, _, _, rfl, S4.ret N4 _⟩
        · have d2 : decide ((F2 : Int) ≤ (M : Int)) = false := by simp; omega
          go_wp2_with fail
          ((with_reducible refine hfa.mono ?_); rintro e w3 ⟨rfl, f3⟩)
          have S3 := S.out.below f3
          have N3 := N.out.below f3
          clear hfa
          have g9 := heap_setCell_same _ _ 0 _ _ (Value.slice A1 m c1) S3.g0
          have D4 := N3.cellM
          have D0 := S3.cell0
          have F0 := S3.frz0
          replace g9 := Lib.hid g9
          go_wp2_with fail
          (try simp only [Exit.inBlock, Exit.then])
          refine bodyPost_ret (v := .agg #[.slice A1 m c1]) ?_ rfl ?_
          · exact results_cell_row rfl _ _ w.heap.size 40 #[.slice A1 m c1] (0, 0) _ rfl (by simpa using g9.out) Try.underlying40 rfl (by kernel_rfl)
          · exact ⟨_, _, _, rfl, S3.ret N3 _⟩
      · have d1 : decide ((m : Int) < 5) = false := by simp; omega
        have g9 := heap_setCell_same _ _ 0 _ _ (Value.slice A1 m c1) S.out.g0
        have D4 := N.out.cellM
        have D0 := S.out.cell0
        have F0 := S.out.frz0
        replace g9 := Lib.hid g9
        go_wp2_with fail
        (try simp only [Exit.inBlock, Exit.then])
        refine bodyPost_ret (v := .agg #[.slice A1 m c1]) ?_ rfl ?_
        · exact results_cell_row rfl _ _ w.heap.size 40 #[.slice A1 m c1] (0, 0) _ rfl (by simpa using g9.out) Try.underlying40 rfl (by kernel_rfl)
        · exact ⟨_, _, _, rfl, S.out.ret N.out _⟩
end Go.Proofs.Ytdaljeghdiknpaa
/- Dra -/
namespace Go.Proofs.Ytdaljeghdiknpaa
open Go.RowKit
set_option linter.unusedVariables false
set_option maxRecDepth 100000
theorem ren_sys {xss : List (List Int)} {n : Nat} {p : List Int} (hs : SysOf xss n) (hp : isPermP p) (hl : p.length = n) : SysOf (xss.map (renL p)) n := by
  intro r hr
  obtain ⟨M, hM, rfl⟩ := List.mem_map.1 hr
  obtain ⟨m1, m2, m3⟩ := hs M hM
  have hMP : isPermP M := ⟨by have := hp.le; omega, by rw [m3]; exact m1, m2⟩
  have h1 := thenL_perm (invL_perm hp) hMP (by rw [invL_length]; omega)
  have h2 := thenL_perm h1 hp (by rw [thenL_length, invL_length])
  have h3 : (renL p M).length = n := by rw [renL_length]; exact hl
  refine ⟨fun x hx => ?_, h2.nd, h3⟩
  have := h2.rng x hx
  rwa [show (thenL (thenL (invL p) M) p).length = n from h3] at this
theorem perm_of_id {xs : List Int} {N : Nat} (h : xs.Perm (idL N)) (hN : N ≤ 400) : isPermP xs := by
  obtain ⟨h1, h2, h3, _⟩ := perm_id h
  exact ⟨by omega, by rw [h2]; exact h3, h1⟩
/-- the frame of a call that holds a drawn maniplex in the block b -/
structure DrS (w : World) (lo g b : Nat) (TS TM T2 T1 : TypeId) (A : Option Addr) (n c : Nat) (bs : List Int) (M : Nat) (wq : World) (A1 : Option Addr) (m c1 : Nat) (zss : List (List Int)) (K : Nat) : Prop where
  hg : g < w.heap.size
  hb : w.heap.size + 1 ≤ b
  g0 : wq.heap[w.heap.size]? = some (.cells #[.slice none 0 0] TM (0, 0))
  gm : wq.heap[b]? = some (.cells #[.slice A1 m c1] TM (0, 0))
  own : OwnS wq (w.heap.size + 1) b T2 T1 A1 m c1 zss
  sys : SysOf zss (2 * K)
  k1 : 1 ≤ K
  kM : 2 * K ≤ M
  m1 : 1 ≤ m
  m5 : m ≤ 5
  src : ∃ i h, Src wq lo g TS A n c bs i h
  chg : Chg g (g + 1) w wq
  size : b + 1 ≤ wq.heap.size
section
variable {w : World} {lo g b : Nat} {TS TM T2 T1 : TypeId} {A : Option Addr} {n c : Nat} {bs : List Int} {M : Nat} {wq w2 : World} {A1 : Option Addr} {m c1 : Nat} {zss : List (List Int)} {K : Nat}
theorem DrS.start {o : Obj} (ho : o = .cells #[.slice none 0 0] TM (0, 0)) (hg : g < w.heap.size) (D : DrawnM (w.alloc o) w2 lo g TS T2 T1 A n c bs M A1 m c1) : ∃ zss K, DrS w lo g w2.heap.size TS TM T2 T1 A n c bs M (w2.alloc (.cells #[.slice A1 m c1] TM)) A1 m c1 zss K := by
  subst ho
  obtain ⟨zss, K, i, h, o, hs, k1, kM, m1, m5, s, C⟩ := D
  have hz := C.size
  have e : (w.alloc (.cells #[.slice none 0 0] TM)).heap.size = w.heap.size + 1 := by simp
  rw [e] at o hz
  have B : Below w2.heap.size w2 (w2.alloc (.cells #[.slice A1 m c1] TM)) := (Below.refl _ _).alloc (Nat.le_refl _) _
  have C1 : Chg g (g + 1) w w2 := (Chg.of_below g (g + 1) ((Below.refl _ _).alloc (Nat.le_refl _) _)).trans C ⟨Nat.le_refl _, Nat.le_refl _⟩ ⟨Nat.le_refl _, Nat.le_refl _⟩
  refine ⟨zss, K, hg, hz, ?_, heap_new _ _ _ rfl, o.below B (Nat.le_refl _), hs, k1, kM, m1, m5, ⟨i, h, s.below B s.lt⟩, C1.trans_below B, by simp⟩
  exact (B.block _ (by omega)).trans ((C.block _ (by simp) (by omega)).trans (heap_new _ _ _ rfl))
theorem DrS.step (S : DrS w lo g b TS TM T2 T1 A n c bs M wq A1 m c1 zss K) {i h : Nat} (s : Src w2 lo g TS A n c bs i h) (C : Chg g (g + 1) wq w2) : DrS w lo g b TS TM T2 T1 A n c bs M w2 A1 m c1 zss K := by
  have h1 := S.hb
  have h2 := S.hg
  have h3 := S.size
  have h4 := C.size
  exact ⟨h2, h1, (C.block _ (by omega) (by omega)).trans S.g0, (C.block _ (by omega) (by omega)).trans S.gm, S.own.keep (Same.of_chg C (by omega) (.inr (by omega))), S.sys, S.k1, S.kM, S.m1, S.m5, ⟨_, _, s⟩, S.chg.trans C ⟨Nat.le_refl _, Nat.le_refl _⟩ ⟨Nat.le_refl _, Nat.le_refl _⟩, by omega⟩
theorem DrS.below (S : DrS w lo g b TS TM T2 T1 A n c bs M wq A1 m c1 zss K) (B : Below wq.heap.size wq w2) : DrS w lo g b TS TM T2 T1 A n c bs M w2 A1 m c1 zss K := by
  obtain ⟨i, h, s⟩ := S.src
  exact S.step (s.below B s.lt) (Chg.of_below _ _ B)
theorem DrS.cellM (S : DrS w lo g b TS TM T2 T1 A n c bs M wq A1 m c1 zss K) : wq.cell? ⟨b, 0, none⟩ = some (.slice A1 m c1) := by rw [cell_of_row _ _ _ _ _ _ S.gm]; rfl
theorem DrS.frzM (S : DrS w lo g b TS TM T2 T1 A n c bs M wq A1 m c1 zss K) : wq.frozen? ⟨b, 0, none⟩ = false := frozen_of_row _ _ _ _ _ S.gm
theorem DrS.cell0 (S : DrS w lo g b TS TM T2 T1 A n c bs M wq A1 m c1 zss K) : wq.cell? ⟨w.heap.size, 0, none⟩ = some (.slice none 0 0) := by rw [cell_of_row _ _ _ _ _ _ S.g0]; rfl
theorem DrS.frz0 (S : DrS w lo g b TS TM T2 T1 A n c bs M wq A1 m c1 zss K) : wq.frozen? ⟨w.heap.size, 0, none⟩ = false := frozen_of_row _ _ _ _ _ S.g0
theorem DrS.flg_ (S : DrS w lo g b TS TM T2 T1 A n c bs M wq A1 m c1 zss K) : flg zss = 2 * K := by
  have hl := S.own.len
  have := S.m1
  obtain ⟨p, hp⟩ : ∃ p, zss[0]? = some p := ⟨_, List.getElem?_eq_getElem (by omega)⟩
  rw [flg_of hp]
  exact (S.sys p (List.mem_of_getElem? hp)).2.2
theorem DrS.ret (S : DrS w lo g b TS TM T2 T1 A n c bs M wq A1 m c1 zss K) (v : Value) : DrawnM w (wq.setCell ⟨w.heap.size, 0, none⟩ v) lo g TS T2 T1 A n c bs M A1 m c1 := by
  obtain ⟨i, h, s⟩ := S.src
  have h1 := S.hb
  have h2 := S.hg
  have h3 := s.above
  have h4 := S.size
  exact ⟨zss, K, i, h, (S.own.keep (same_set _ _ _ _ _ (.inl (by simp)))).more (by omega) (by simp; omega), S.sys, S.k1, S.kM, S.m1, S.m5, s.far (by simp; omega) (by simp; omega) _, S.chg.setNew (by simp) _⟩
theorem DrS.ret2 (S : DrS w lo g b TS TM T2 T1 A n c bs M wq A1 m c1 zss K) {A2 : Option Addr} {c2 lo2 : Nat} {yss : List (List Int)} (o : OwnS wq lo2 wq.heap.size T2 T1 A2 m c2 yss) (hlo : b ≤ lo2) (hs : SysOf yss (2 * K)) (v : Value) : DrawnM w (wq.setCell ⟨w.heap.size, 0, none⟩ v) lo g TS T2 T1 A n c bs M A2 m c2 := by
  obtain ⟨i, h, s⟩ := S.src
  have h1 := S.hb
  have h2 := S.hg
  have h3 := s.above
  have h4 := S.size
  exact ⟨yss, K, i, h, (o.keep (same_set _ _ _ _ _ (.inl (by simp; omega)))).more (by omega) (by simp), hs, S.k1, S.kM, S.m1, S.m5, s.far (by simp; omega) (by simp; omega) _, S.chg.setNew (by simp) _⟩
end
set_option maxHeartbeats 8000000 in
theorem l02Draw_any (w : World) (lo g : Nat) (A : Option Addr) (n c : Nat) (bs : List Int) (i h : Nat) (s : Src w lo g 122 A n c bs i h) (M : Nat) (hM8 : 8 ≤ M) (hM4 : M ≤ 400) :
    Calls Try.prog 133 #[.pointer (some ⟨g, 0, none⟩), .int .i64 (M : Int)] w fun e w' => ∃ (A1 : Option Addr) (m c1 : Nat), e = .returned (.agg #[.slice A1 m c1]) ∧ DrawnM w w' lo g 122 27 2 A n c bs M A1 m c1 := by
  have hgl := s.lt
  have B1 : Below w.heap.size w (w.alloc (.cells #[.slice none 0 0] 40)) := (Below.refl _ _).alloc (Nat.le_refl _) _
  have hA := l02Any_any _ lo g A n c bs i h (s.below B1 hgl) M hM8 hM4
  go_enter Try.func133, Try.ntmps133
  go_wp2_with fail
  ((with_reducible refine hA.mono ?_); rintro e w2 ⟨A1, m, c1, rfl, D⟩)
  clear hA B1
  obtain ⟨zss, K, S⟩ := DrS.start rfl hgl D
  clear D
  go_wp2_with fail
  obtain ⟨b, hb⟩ : ∃ b, w2.heap.size = b := ⟨_, rfl⟩
  obtain ⟨w3, hw3⟩ : ∃ w3, w2.alloc (.cells #[.slice A1 m c1] 40) = w3 := ⟨_, rfl⟩
  rw [hw3] at S ⊢
  rw [hb] at S ⊢
  clear hw3 hb
  obtain ⟨i3, h3, s3⟩ := S.src
  have hn := next_any w3 lo g A n c bs _ _ s3 4 (by omega) (by omega)
  go_wp2_with fail
  ((with_reducible refine hn.mono ?_); rintro e w4 ⟨v, i4, rfl, P⟩)
  have v0 := P.ge
  have S4 := S.step P.src P.chg
  clear hn P S s3
  obtain ⟨i4', h4, s4⟩ := S4.src
  have D4 := S4.cellM
  have D0 := S4.cell0
  have F0 := S4.frz0
  by_cases hv : 0 < v
  · have d1 : decide ((0 : Int) < v) = true := by simp; omega
    have m1 := S4.m1
    have m5 := S4.m5
    obtain ⟨F, hF⟩ : ∃ F, 2 * K = F := ⟨_, rfl⟩
    have hFM := S4.kM
    rw [hF] at hFM
    have hfl : flg zss = F := S4.flg_.trans hF
    have hsF : SysOf zss F := by rw [← hF]; exact S4.sys
    have S4d : DrS w lo g b 122 40 27 2 A n c bs M w4.drew A1 m c1 zss K := S4.below (below_drw (Below.refl _ _))
    replace S4d := Lib.hid S4d
    replace hsF := Lib.hid hsF
    replace hF := Lib.hid hF
    have hb0 : w.heap.size + 1 ≤ b := S4.hb
    clear S4 s4
    go_wp2_with fail
    go_region_law? (first
      | (refine step_call rfl 134 #[.agg #[.slice A1 m c1]] (by go_simp) (hfl ▸ l02Flags_any A1 m c1 zss _ S4d.out.own.rs (by have := S4d.out.size; omega) (by omega)) ?_; rintro e w6 ⟨rfl, f6⟩; refine ⟨_, rfl, ?_⟩; have S6 := S4d.out.below f6; have E6 := S6.cellM; obtain ⟨i6, h6, s6⟩ := S6.src; replace S6 := Lib.hid S6)
      | (refine step_call rfl 124 #[.pointer (some ⟨g, 0, none⟩), .int .i64 (F : Int)] (by go_simp) (draw_any _ lo g A n c bs _ _ s6 F (by omega)) ?_; rintro e w7 ⟨A7, c7, rfl, i7, h7, xs, o7, hp7, s7, C7⟩; refine ⟨_, rfl, ?_⟩; have S7 := S6.out.step s7 C7; have E7 := S7.cellM; have hz6 := S6.out.size; replace S7 := Lib.hid S7; replace hp7 := Lib.hid hp7)
      | (refine step_call rfl 158 #[.agg #[.slice A1 m c1], .slice A7 F c7] (by go_simp) (l02Renumber_any A1 m c1 zss A7 F c7 xs _ S7.out.own.rs (by have := S7.out.size; omega) o7.ri (Nat.le_refl _) (by omega) hsF.out (perm_of_id hp7.out (by omega))) ?_; rintro e w8 ⟨A8, c8, rfl, o8, f8⟩; refine ⟨_, rfl, ?_⟩; have S8 := S7.out.below f8; have E8 := S8.cell0; have F8 := S8.frz0; have hz7 := S7.out.size; replace S8 := Lib.hid S8))
    all_goals
      have hys : SysOf (zss.map (renL xs)) (2 * K) := by
        rw [hF.out]
        exact ren_sys hsF.out (perm_of_id hp7.out (by omega)) (perm_id hp7.out).2.1
      have g9 := heap_setCell_same _ _ 0 _ _ (Value.slice A8 m c8) S8.out.g0
      replace g9 := Lib.hid g9
      replace hys := Lib.hid hys
      go_wp2_with fail
      (try simp only [Exit.inBlock, Exit.then])
      refine bodyPost_ret (v := .agg #[.slice A8 m c8]) ?_ rfl ?_
      · exact results_cell_row rfl _ _ w.heap.size 40 #[.slice A8 m c8] (0, 0) _ rfl (by simpa using g9.out) Try.underlying40 rfl (by kernel_rfl)
      · exact ⟨_, _, _, rfl, S8.out.ret2 o8 (by omega) hys.out _⟩
  · have d1 : decide ((0 : Int) < v) = false := by simp; omega
    have g9 := heap_setCell_same _ _ 0 _ _ (Value.slice A1 m c1) S4.g0
    replace g9 := Lib.hid g9
    go_wp2_with fail
    (try simp only [Exit.inBlock, Exit.then])
    refine bodyPost_ret (v := .agg #[.slice A1 m c1]) ?_ rfl ?_
    · exact results_cell_row rfl _ _ w.heap.size 40 #[.slice A1 m c1] (0, 0) _ rfl (by simpa using g9.out) Try.underlying40 rfl (by kernel_rfl)
    · exact ⟨_, _, _, rfl, S4.ret _⟩
end Go.Proofs.Ytdaljeghdiknpaa
