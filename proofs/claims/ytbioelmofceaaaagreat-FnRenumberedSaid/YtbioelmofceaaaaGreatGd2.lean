/- Merged texts, part 4: walks and plain lemmas of the functions that the statements reach (SpoP .. LawQ). No condition but those that each lemma names. -/
import Derived.Test.YtbioelmofceaaaaGreatGc2
/- SpoP -/
namespace Go.Proofs.YtbioelmofceaaaaGreat
open Go.RowKit
set_option linter.unusedVariables false
set_option maxRecDepth 100000
/-- what the draw leaves: rows that are read, the source with another state -/
def SpoiltM (w w' : World) (lo g : Nat) (TS : TypeId) (A : Option Addr) (n c : Nat) (bs : List Int) (A1 : Option Addr) (m c1 : Nat) : Prop :=
  ∃ (zss : List (List Int)) (i' h' : Nat), RS w' w.heap.size w'.heap.size A1 m zss ∧ m ≤ c1 ∧ Src w' lo g TS A n c bs i' h' ∧ Chg g (g + 1) w w' ∧ m ≤ 6 ∧ ∀ xs ∈ zss, xs.length ≤ 401
/-- the frame alone -/
structure DrB (w : World) (lo g b : Nat) (TS TM : TypeId) (A : Option Addr) (n c : Nat) (bs : List Int) (wq : World) : Prop where
  hg : g < w.heap.size
  hb : w.heap.size + 1 ≤ b
  g0 : wq.heap[w.heap.size]? = some (.cells #[.slice none 0 0] TM (0, 0))
  src : ∃ i h, Src wq lo g TS A n c bs i h
  chg : Chg g (g + 1) w wq
  size : b + 1 ≤ wq.heap.size
/-- the frame and what the block b holds -/
structure SpS (w : World) (lo g b : Nat) (TS TM : TypeId) (A : Option Addr) (n c : Nat) (bs : List Int) (wq : World) (A1 : Option Addr) (m c1 : Nat) (zss : List (List Int)) : Prop where
  fr : DrB w lo g b TS TM A n c bs wq
  gm : wq.cell? ⟨b, 0, none⟩ = some (.slice A1 m c1)
  rs : RS wq (w.heap.size + 1) wq.heap.size A1 m zss
  cap : m ≤ c1
  lens : m ≤ 6 ∧ ∀ xs ∈ zss, xs.length ≤ 401
section
variable {w : World} {lo g b : Nat} {TS TM T2 T1 : TypeId} {A : Option Addr} {n c : Nat} {bs : List Int} {M : Nat} {wq w2 : World} {A1 : Option Addr} {m c1 : Nat} {zss : List (List Int)} {K : Nat}
theorem DrS.fr (S : DrS w lo g b TS TM T2 T1 A n c bs M wq A1 m c1 zss K) : DrB w lo g b TS TM A n c bs wq := ⟨S.hg, S.hb, S.g0, S.src, S.chg, S.size⟩
theorem OwnS.cap {w : World} {lo hi : Nat} {A : Option Addr} {n c : Nat} {xss : List (List Int)} (h : OwnS w lo hi T2 T1 A n c xss) : n ≤ c := by
  obtain ⟨vs, h1, _⟩ := h
  exact h1.cap
theorem DrS.lens (S : DrS w lo g b TS TM T2 T1 A n c bs M wq A1 m c1 zss K) (hM : M ≤ 400) : m ≤ 6 ∧ ∀ xs ∈ zss, xs.length ≤ 401 :=
  ⟨by have := S.m5; omega, fun xs hx => by have := (S.sys xs hx).2.2; have := S.kM; omega⟩
theorem DrS.sp (S : DrS w lo g b TS TM T2 T1 A n c bs M wq A1 m c1 zss K) (hM : M ≤ 400) : SpS w lo g b TS TM A n c bs wq A1 m c1 zss :=
  ⟨S.fr, S.cellM, (S.own.more (Nat.le_refl _) (by have := S.size; omega)).rs, S.own.cap, S.lens hM⟩
theorem DrB.step (S : DrB w lo g b TS TM A n c bs wq) {i h : Nat} (s : Src w2 lo g TS A n c bs i h) (C : Chg g (g + 1) wq w2) : DrB w lo g b TS TM A n c bs w2 := by
  have h1 := S.hb
  have h2 := S.hg
  have h3 := S.size
  have h4 := C.size
  exact ⟨h2, h1, (C.block _ (by omega) (by omega)).trans S.g0, ⟨_, _, s⟩, S.chg.trans C ⟨Nat.le_refl _, Nat.le_refl _⟩ ⟨Nat.le_refl _, Nat.le_refl _⟩, by omega⟩
theorem DrB.below (S : DrB w lo g b TS TM A n c bs wq) (B : Below wq.heap.size wq w2) : DrB w lo g b TS TM A n c bs w2 := by
  obtain ⟨i, h, s⟩ := S.src
  exact S.step (s.below B s.lt) (Chg.of_below _ _ B)
/-- a row of the call's own has grown or was written -/
theorem DrB.grown (S : DrB w lo g b TS TM A n c bs wq) {row : Option Nat} (hg : wq.grownBy w2 row) (hr : ∀ q, row = some q → w.heap.size + 1 ≤ q) : DrB w lo g b TS TM A n c bs w2 := by
  obtain ⟨i, h, s⟩ := S.src
  have h1 := S.hb
  have h2 := S.hg
  have h3 := S.size
  have h4 := hg.size
  have h5 := S.chg.size
  have hold : ∀ k, k < w.heap.size + 1 → w2.heap[k]? = wq.heap[k]? := fun k hk => hg.block k (by omega) (fun e => by have := hr k e.symm; omega)
  refine ⟨h2, h1, (hold _ (by omega)).trans S.g0, ⟨i, h, ?_⟩, ?_, by omega⟩
  · exact ⟨(hold g (by omega)).trans s.blk, s.above, s.code.keep fun k _ hk => hold k (by have := s.above; omega), s.byte, s.le, s.st⟩
  · exact ⟨hg.os.trans S.chg.os, hg.tape.trans S.chg.tape, hg.output.trans S.chg.output, by omega, fun k hk e => (hold k (by omega)).trans (S.chg.block k hk e)⟩
theorem DrB.setM (S : DrB w lo g b TS TM A n c bs wq) (v : Value) : DrB w lo g b TS TM A n c bs (wq.setCell ⟨b, 0, none⟩ v) := by
  obtain ⟨i, h, s⟩ := S.src
  have h1 := S.hb
  have h2 := S.hg
  have h3 := s.above
  exact ⟨h2, h1, (Below.heap_setCell _ _ _ _ (by simp; omega)).trans S.g0, ⟨_, _, s.far (by simp; omega) (by simp; omega) _⟩, S.chg.setNew (by simp; omega) _, by have := S.size; simpa using this⟩
theorem DrB.cell0 (S : DrB w lo g b TS TM A n c bs wq) : wq.cell? ⟨w.heap.size, 0, none⟩ = some (.slice none 0 0) := by rw [cell_of_row _ _ _ _ _ _ S.g0]; rfl
theorem DrB.frz0 (S : DrB w lo g b TS TM A n c bs wq) : wq.frozen? ⟨w.heap.size, 0, none⟩ = false := frozen_of_row _ _ _ _ _ S.g0
theorem SpS.ret (S : SpS w lo g b TS TM A n c bs wq A1 m c1 zss) (v : Value) : SpoiltM w (wq.setCell ⟨w.heap.size, 0, none⟩ v) lo g TS A n c bs A1 m c1 := by
  obtain ⟨i, h, s⟩ := S.fr.src
  have h2 := S.fr.hg
  have h3 := s.above
  obtain ⟨vs, r1, r2⟩ := S.rs
  have hs : Same (w.heap.size + 1) wq.heap.size wq (wq.setCell ⟨w.heap.size, 0, none⟩ v) := same_set _ _ _ _ _ (.inl (by simp))
  have hR : RS (wq.setCell ⟨w.heap.size, 0, none⟩ v) (w.heap.size + 1) wq.heap.size A1 m zss := ⟨vs, r1.keep hs, r2.keep hs⟩
  exact ⟨zss, i, h, hR.more (by omega) (by simp), S.cap, s.far (by simp; omega) (by simp; omega) _, S.fr.chg.setNew (by simp) _, S.lens⟩
theorem cell_set_same {w : World} {b : Nat} {T : TypeId} {u v : Value} (h : w.heap[b]? = some (.cells #[u] T (0, 0))) : (w.setCell ⟨b, 0, none⟩ v).cell? ⟨b, 0, none⟩ = some v := by
  have := heap_setCell_same _ _ 0 _ _ v h
  have h2 : (w.setCell ⟨b, 0, none⟩ v).heap[b]? = some (.cells #[v] T (0, 0)) := by simpa using this
  rw [cell_of_row _ _ _ _ _ _ h2]
  rfl
/-- the rows stay where the block b (of another type) is written -/
theorem own_setM {A2 : Option Addr} {m2 c2 lo2 hi2 : Nat} {yss : List (List Int)} {u : Value} (hne2 : T2 ≠ TM) (hne1 : T1 ≠ TM) (o : OwnS wq lo2 hi2 T2 T1 A2 m2 c2 yss) (h : wq.heap[b]? = some (.cells #[u] TM (0, 0))) (v : Value) : OwnS (wq.setCell ⟨b, 0, none⟩ v) lo2 hi2 T2 T1 A2 m2 c2 yss := by
  have ob : wq.ownsRow 0 TM 1 (.slice (some ⟨b, 0, none⟩) 1 1) 1 [u] := blk_own (vs := [u]) h rfl (Nat.zero_le _) (by simp only [maxLen]; omega)
  have hg := (ob.stored 0 v).2
  obtain ⟨vs, o1, o2⟩ := o
  exact ⟨vs, o1.kept_ty ob hne2 hg, o2.kept_ty ob hne1 hg⟩
/-- no rows -/
theorem DrS.sp2 (S : DrS w lo g b TS TM T2 T1 A n c bs M wq A1 m c1 zss K) : SpS w lo g b TS TM A n c bs ((wq.alloc (.cells #[] T2)).setCell ⟨b, 0, none⟩ (.slice (some ⟨wq.heap.size, 0, none⟩) 0 0)) (some ⟨wq.heap.size, 0, none⟩) 0 0 [] := by
  have B : Below wq.heap.size wq (wq.alloc (.cells #[] T2)) := (Below.refl _ _).alloc (Nat.le_refl _) _
  have S2 := S.below B
  refine ⟨S2.fr.setM _, cell_set_same S2.gm, ⟨[], ⟨by simp, by omega, fun h => absurd h (by omega)⟩, ⟨rfl, fun k v xs h => by simp at h⟩⟩, Nat.le_refl _, by simp⟩
/-- without the first row -/
theorem DrS.sp4 (S : DrS w lo g b TS TM T2 T1 A n c bs M wq A1 m c1 zss K) (hM : M ≤ 400) {bA : Nat} (hA : A1 = some ⟨bA, 0, none⟩) {A2 : Option Addr} {c2 : Nat} (h2 : 1 < m → A2 = some ⟨bA, 0 + 1, none⟩) (hc : m - 1 ≤ c2) : SpS w lo g b TS TM A n c bs (wq.setCell ⟨b, 0, none⟩ (.slice A2 (m - 1) c2)) A2 (m - 1) c2 (zss.drop 1) := by
  subst hA
  have hm := S.m1
  have hr := rs_sub S.own.rs (i := 1) (j := m) hm (Nat.le_refl _) (A' := A2) (fun h => h2 h)
  have hl := S.own.len
  rw [List.take_of_length_le (by rw [List.length_drop]; omega)] at hr
  obtain ⟨vs, r1, r2⟩ := hr
  have hs : Same (w.heap.size + 1) b wq (wq.setCell ⟨b, 0, none⟩ (.slice A2 (m - 1) c2)) := same_set _ _ _ _ _ (.inr (by simp))
  have hR : RS (wq.setCell ⟨b, 0, none⟩ (.slice A2 (m - 1) c2)) (w.heap.size + 1) b A2 (m - 1) (zss.drop 1) := ⟨vs, r1.keep hs, r2.keep hs⟩
  exact ⟨S.fr.setM _, cell_set_same S.gm, hR.more (Nat.le_refl _) (by have := S.size; simp; omega), hc, by have := (S.lens hM).1; omega, fun xs hx => (S.lens hM).2 xs (List.mem_of_mem_drop hx)⟩
/-- a number of the first row has been written -/
theorem DrS.sp0 (S : DrS w lo g b TS TM T2 T1 A n c bs M wq A1 m c1 zss K) (hM : M ≤ 400) (hne : T2 ≠ T1) {vs : List Value} {bR nR cR k : Nat} {ys : List Int} (hO : Own wq (w.heap.size + 1) b T2 A1 m c1 vs) (hR : RowsOwn wq (w.heap.size + 1) b T1 vs zss) (hv : vs[0]? = some (.slice (some ⟨bR, 0, none⟩) nR cR)) (hy : zss[0]? = some ys) (ho : Own wq (w.heap.size + 1) b T1 (some ⟨bR, 0, none⟩) nR cR (ys.map (Value.int .i64))) (y : Int) :
    SpS w lo g b TS TM A n c bs (wq.setCell ⟨bR, k, none⟩ (.int .i64 y)) A1 m c1 (zss.set 0 (ys.set k y)) := by
  have hg := (ho.1.stored k (.int .i64 y)).2
  have hb := (ho.1.lt bR rfl).1
  have hlt := ho.2 _ rfl
  have o1 := hO.kept_ty ho.1 hne hg
  have o2 := hR.upd hv (ho.setI (k := k) y) hg
  have hz := S.size
  refine ⟨S.fr.grown hg (fun q hq => by simp at hq; omega), ?_, (OwnS.more ⟨vs, o1, o2⟩ (Nat.le_refl _) (by simp; omega)).rs, S.own.cap, (S.lens hM).1, fun xs hx => by
    rcases List.mem_or_eq_of_mem_set hx with g | g
    · exact (S.lens hM).2 xs g
    · rw [g, List.length_set]; exact (S.lens hM).2 ys (mem_of_get? hy)⟩
  rw [cell_far_set _ _ _ _ (by simp at hlt; simp; omega)]
  exact S.cellM
/-- a row has been appended -/
theorem DrS.sp1 (S : DrS w lo g b TS TM T2 T1 A n c bs M wq A1 m c1 zss K) (hM : M ≤ 400) (hne : T2 ≠ T1) (hne2 : T2 ≠ TM) (hne1 : T1 ≠ TM) {vs : List Value} {lo6 hi6 F c6 c7 : Nat} {A6 A7 : Option Addr} {xs : List Int} {w7 : World} (hO : Own wq (w.heap.size + 1) b T2 A1 m c1 vs) (hR : RowsOwn wq (w.heap.size + 1) b T1 vs zss)
    (row : Own wq lo6 hi6 T1 A6 F c6 (xs.map (Value.int .i64))) (hF : F ≤ 400) (h6 : b ≤ lo6) (h67 : lo6 ≤ hi6) (hh6 : hi6 ≤ wq.heap.size) (ho : w7.ownsRow (w.heap.size + 1) T2 1 (.slice A7 (m + 1) c7) (m + 1) (vs ++ [.slice A6 F c6])) (hg : wq.grownBy w7 (Value.slice A1 m c1).ownBlock) :
    SpS w lo g b TS TM A n c bs (w7.setCell ⟨b, 0, none⟩ (.slice A7 (m + 1) c7)) A7 (m + 1) c7 (zss ++ [xs]) := by
  have hz := S.size
  have hb := S.hb
  have hz7 := hg.size
  have hrow : ∀ q, (Value.slice A1 m c1).ownBlock = some q → w.heap.size + 1 ≤ q ∧ q < b := by
    intro q hq
    have h1 := (hO.1.lt q hq).1
    rcases A1 with _ | a
    · simp [Value.ownBlock] at hq
    · have := hO.2 a rfl
      simp [Value.ownBlock] at hq
      omega
  have r1 := (hR.kept_ty hO.1 (fun e => hne e.symm) hg).more (Nat.le_refl _) h6
  have r2 := r1.snoc (row.kept_ty hO.1 (fun e => hne e.symm) hg) (by omega) h67
  have o7 := Own.of_row ho
  have gm7 := (hg.block b (by omega) (fun e => by have := (hrow b e.symm).2; omega)).trans S.gm
  have own7 : OwnS w7 (w.heap.size + 1) w7.heap.size T2 T1 A7 (m + 1) c7 (zss ++ [xs]) := ⟨_, o7, r2.more (Nat.le_refl _) (by omega)⟩
  have own8 := own_setM hne2 hne1 own7 gm7 (.slice A7 (m + 1) c7)
  exact ⟨(S.fr.grown hg (fun q hq => (hrow q hq).1)).setM _, cell_set_same gm7, (own8.more (Nat.le_refl _) (by simp)).rs, own7.cap, by have := S.m5; omega, fun ys hy => by
    rcases List.mem_append.1 hy with g | g
    · exact (S.lens hM).2 ys g
    · rw [List.mem_singleton.1 g, row.lenI]; omega⟩
/-- the first row has got one more -/
theorem DrS.sp3 {bA : Nat} (S : DrS w lo g b TS TM T2 T1 A n c bs M wq (some ⟨bA, 0, none⟩) m c1 zss K) (hM : M ≤ 400) (hne : T2 ≠ T1) {vs : List Value} {F c0 g4 c4 : Nat} {A0 : Option Addr} {ys : List Int} {x : Int} {w7 : World} (hO : Own wq (w.heap.size + 1) b T2 (some ⟨bA, 0, none⟩) m c1 vs) (hR : RowsOwn wq (w.heap.size + 1) b T1 vs zss)
    (hv : vs[0]? = some (.slice A0 F c0)) (hy : zss[0]? = some ys) (ho : w7.ownsRow (w.heap.size + 1) T1 1 (.slice (some ⟨g4, 0, none⟩) (F + 1) c4) (F + 1) ((ys ++ [x]).map (Value.int .i64))) (hg : wq.grownBy w7 (Value.slice A0 F c0).ownBlock) (hor : (Value.slice A0 F c0).ownBlock = some g4 ∨ b ≤ g4) :
    SpS w lo g b TS TM A n c bs (w7.setCell ⟨bA, 0, none⟩ (.slice (some ⟨g4, 0, none⟩) (F + 1) c4)) (some ⟨bA, 0, none⟩) m c1 (zss.set 0 (ys ++ [x])) := by
  have hz := S.size
  have hb := S.hb
  have hz7 := hg.size
  obtain ⟨A', n', c', e, r0⟩ := hR.2.2 0 _ ys hv hy
  injection e with e1 e2 e3
  subst e1; subst e2; subst e3
  have hrow : ∀ q, (Value.slice A0 F c0).ownBlock = some q → w.heap.size + 1 ≤ q ∧ q < b := by
    intro q hq
    have h1 := (r0.1.lt q hq).1
    rcases A0 with _ | a
    · simp [Value.ownBlock] at hq
    · have := r0.2 a rfl
      simp [Value.ownBlock] at hq
      omega
  have hbA := hO.2 _ rfl
  have hbA1 := (hO.1.lt bA rfl).1
  have r1 := hR.app hv hy ho hg hor (by omega)
  have o1 := hO.kept_ty r0.1 hne hg
  have hg2 := (o1.1.stored 0 (.slice (some ⟨g4, 0, none⟩) (F + 1) c4)).2
  have o2 := o1.set (k := 0) (.slice (some ⟨g4, 0, none⟩) (F + 1) c4)
  have r2 := r1.kept_ty o1.1 (fun e => hne e.symm) hg2
  have gm7 := (hg.block b (by omega) (fun e => by have := (hrow b e.symm).2; omega)).trans S.gm
  refine ⟨(S.fr.grown hg (fun q hq => (hrow q hq).1)).grown hg2 (fun q hq => by simp at hq; omega), ?_, (OwnS.more ⟨_, o2.more (Nat.le_refl _) (by omega), r2⟩ (Nat.le_refl _) (by simp)).rs, S.own.cap, (S.lens hM).1, fun xs hx => by
    rcases List.mem_or_eq_of_mem_set hx with g | g
    · exact (S.lens hM).2 xs g
    · rw [g, List.length_append]
      have := (S.sys ys (mem_of_get? hy)).2.2
      have := S.kM
      simp
      omega⟩
  rw [cell_far_set _ _ _ _ (by simp at hbA; simp; omega), cell_of_row _ _ _ _ _ _ gm7]
  rfl
end
end Go.Proofs.YtbioelmofceaaaaGreat
/- Spo -/
namespace Go.Proofs.YtbioelmofceaaaaGreat
open Go.RowKit
set_option linter.unusedVariables false
set_option maxRecDepth 100000
theorem Same.trans_ {lo hi : Nat} {a b c : World} (h : Same lo hi a b) (g : Same lo hi b c) : Same lo hi a c := fun k h1 h2 => (g k h1 h2).trans (h k h1 h2)
set_option maxHeartbeats 8000000 in
theorem l02Spoil_any (w : World) (lo g : Nat) (A : Option Addr) (n c : Nat) (bs : List Int) (i h : Nat) (s : Src w lo g 74 A n c bs i h) (M : Nat) (hM8 : 8 ≤ M) (hM4 : M ≤ 400) :
    Calls Tryz.prog 23 #[.pointer (some ⟨g, 0, none⟩), .int .i64 (M : Int)] w fun e w' => ∃ (A1 : Option Addr) (m c1 : Nat), e = .returned (.agg #[.slice A1 m c1]) ∧ SpoiltM w w' lo g 74 A n c bs A1 m c1 := by
  obtain ⟨j0, hj0, hy0, hy1, hy2⟩ := info_parts infoI
  obtain ⟨s0, hs0, hu0, hu1, hu2⟩ := info_parts infoS
  have hgl := s.lt
  have B1 : Below w.heap.size w (w.alloc (.cells #[.slice none 0 0] 26)) := (Below.refl _ _).alloc (Nat.le_refl _) _
  have hA := l02Draw_any _ lo g A n c bs i h (s.below B1 hgl) M hM8 hM4
  go_enter Tryz.func23, Tryz.ntmps23
  go_wp2_with fail
  ((with_reducible refine hA.mono ?_); rintro e w2 ⟨A1, m, c1, rfl, D⟩)
  clear hA B1
  obtain ⟨zss, K, S⟩ := DrS.start rfl hgl D
  clear D
  go_wp2_with fail
  obtain ⟨b, hb⟩ : ∃ b, w2.heap.size = b := ⟨_, rfl⟩
  obtain ⟨w3, hw3⟩ : ∃ w3, w2.alloc (.cells #[.slice A1 m c1] 26) = w3 := ⟨_, rfl⟩
  rw [hw3] at S ⊢
  rw [hb] at S ⊢
  clear hw3 hb
  have m1 := S.m1
  have m5 := S.m5
  obtain ⟨F, hF⟩ : ∃ F, 2 * K = F := ⟨_, rfl⟩
  have hFM := S.kM
  have hFK := S.k1
  have hFl : 2 ≤ F := by omega
  rw [hF] at hFM
  have hfl : flg zss = F := S.flg_.trans hF
  have hF400 : F ≤ 400 := by omega
  have D3 := S.cellM
  have hfa := hfl ▸ l02Flags_any A1 m c1 zss w3 S.own.rs (by have := S.size; omega) (by omega)
  go_wp2_with fail
  ((with_reducible refine hfa.mono ?_); rintro e w4 ⟨rfl, f4⟩)
  have S4 := S.below f4
  clear hfa S D3 f4
  obtain ⟨i4, h4, s4⟩ := S4.src
  have hn := next_any w4 lo g A n c bs _ _ s4 40 (by omega) (by omega)
  go_wp2_with fail
  ((with_reducible refine hn.mono ?_); rintro e w5 ⟨v, i5, rfl, P⟩)
  have v0 := P.ge
  have S5 := S4.step P.src P.chg
  clear hn P S4 s4
  obtain ⟨i5', h5, s5⟩ := S5.src
  have hb0 := S5.hb
  have hz5 := S5.size
  go_upto_block 0 with fail
  go_cut [] from 7 to 59 (fun wx => ∃ (A1 : Option Addr) (m c1 : Nat) (zss : List (List Int)), SpS w lo g b 74 26 A n c bs wx A1 m c1 zss)
  case first =>
    have hcase : v = 0 ∨ v = 1 ∨ v = 2 ∨ v = 3 ∨ v = 4 ∨ 5 ≤ v := by omega
    obtain ⟨vs, hO, hR⟩ := S5.own
    obtain ⟨bA, r, rfl, hbA0, hbA, _, hr0, -, hcA, hfA⟩ := hO.at_ (k := 0) (by omega)
    have hl := S5.own.len
    obtain ⟨ys, hy⟩ : ∃ ys, zss[0]? = some ys := ⟨_, List.getElem?_eq_getElem (by omega)⟩
    obtain ⟨A0, nR, cR, rfl, oR⟩ := hR.2.2 0 r ys hr0 hy
    obtain ⟨y1, y2, y3⟩ := S5.sys ys (List.mem_of_getElem? hy)
    obtain rfl : nR = F := by have := oR.lenI; omega
    have D4 := S5.cellM
    have F4 := S5.frzM
    have fA0 := hfA 0
    clear hfA
    have hm0 : 0 < m := by omega
    replace y1 := Lib.hid y1
    clear y2 y3
    replace hr0 := Lib.hid hr0
    replace hy := Lib.hid hy
    replace S5 := Lib.hid S5
    replace hO := Lib.hid hO
    replace hR := Lib.hid hR
    replace hl := Lib.hid hl
    replace hF := Lib.hid hF
    rcases hcase with rfl | rfl | rfl | rfl | rfl | hv5
    · obtain ⟨bR, x, rfl, hbR0, hbR, _, hx0, -, hcx, hfx⟩ := oR.at_ (k := 0) (by omega)
      have hNx : ∀ wq, Below w5.heap.size w5 wq → Calls Tryz.prog 44 #[.pointer (some ⟨g, 0, none⟩), .int .i64 (nR : Int)] wq fun e w' => ∃ (k i' h' : Nat), e = .returned (.int .i64 k) ∧ k < nR ∧ (0 : Int) ≤ (k : Int) ∧ (k : Int) < (nR : Int) ∧ Src w' lo g 74 A n c bs i' h' ∧ Chg g (g + 1) wq w' ∧ Chg g (g + 1) w5 w' := fun wq hq => by
        refine (next_nat wq lo g A n c bs _ _ (s5.below hq s5.lt) (nR : Int) (by omega) (by omega)).mono ?_
        rintro e w' ⟨v, rfl, hv, i', h', s', C⟩
        exact ⟨v, i', h', rfl, by omega, by omega, by omega, s', C, (Chg.of_below g (g + 1) hq).trans C ⟨Nat.le_refl _, Nat.le_refl _⟩ ⟨Nat.le_refl _, Nat.le_refl _⟩⟩
      have hPk : ∀ (wq : World) (z i h : Nat) (s : Src wq lo g 74 A n c bs i h) (hz : wq.heap[z]? = some (.cells #[.int .i64 (-1), .int .i64 (nR : Int), .int .i64 0] 2 (0, 0))) (hg : g < z) (C5 : Chg g (g + 1) w5 wq), Calls Tryz.prog 45 #[.pointer (some ⟨g, 0, none⟩), .slice (some ⟨z, 0, none⟩) 3 3] wq fun e w' => ∃ (i' h' : Nat) (y : Int), e = .returned (.int .i64 y) ∧ Src w' lo g 74 A n c bs i' h' ∧ Chg g (g + 1) w5 w' := fun wq z i h s hz hg C5 => by
        refine (pick_any wq lo g A n c bs i h s (some ⟨z, 0, none⟩) 3 3 [-1, (nR : Int), 0] (lo1 := z) (hi1 := z + 1) (Own.ri (T := 2) (c := 3) ⟨blk_own (vs := [.int .i64 (-1), .int .i64 (nR : Int), .int .i64 0]) hz rfl (Nat.le_refl _) (by simp only [maxLen]; omega), fun a e => by injection e with e; subst e; simp⟩) (.inr hg) (Array.getElem?_eq_some_iff.1 hz).1 (by omega) (by omega)).mono ?_
        rintro e w' ⟨v, i', h', y, rfl, _, s', C, _⟩
        exact ⟨i', h', y, rfl, s', C5.trans C ⟨Nat.le_refl _, Nat.le_refl _⟩ ⟨Nat.le_refl _, Nat.le_refl _⟩⟩
      have hCb : ∀ W, Chg g (g + 1) w5 W → W.cell? ⟨b, 0, none⟩ = some (.slice (some ⟨bA, 0, none⟩) m c1) := fun W C => (World.cell?_of_block (C.block b (by omega) (by omega))).trans D4
      have hCA : ∀ W, Chg g (g + 1) w5 W → W.cell? ⟨bA, 0, none⟩ = some (.slice (some ⟨bR, 0, none⟩) nR cR) := fun W C => (World.cell?_of_block (C.block bA (by omega) (by omega))).trans hcA
      have hCR : ∀ W k, Chg g (g + 1) w5 W → k < nR → W.cell? ⟨bR, k, none⟩ = some (.int .i64 (ys.getD k 0)) := fun W k C hk => (World.cell?_of_block (C.block bR (by omega) (by omega))).trans (oR.cellI (get?_getD 0 (by have := oR.lenI; omega)))
      have hFR : ∀ W k, Chg g (g + 1) w5 W → W.frozen? ⟨bR, k, none⟩ = false := fun W k C => ((oR.keep (Same.of_chg C (by omega) (.inr (by omega)))).frz k)
      have hAl : ∀ W o, Chg g (g + 1) w5 W → Chg g (g + 1) w5 (W.alloc o) := fun W o C => C.trans_below ((Below.refl _ _).alloc (Nat.le_refl _) _)
      have hA5 : ∀ o, Chg g (g + 1) w5 (w5.alloc o) := fun o => Chg.of_below _ _ ((Below.refl _ _).alloc (Nat.le_refl _) o)
      have b5 := hCb _ (hA5 (.cells #[.int .i64 (-1), .int .i64 (nR : Int), .int .i64 0] 2))
      have a5 := hCA _ (hA5 (.cells #[.int .i64 (-1), .int .i64 (nR : Int), .int .i64 0] 2))
      replace hNx := Lib.hid hNx
      replace hPk := Lib.hid hPk
      replace hCb := Lib.hid hCb
      replace hCA := Lib.hid hCA
      replace hCR := Lib.hid hCR
      replace hFR := Lib.hid hFR
      replace hAl := Lib.hid hAl
      replace hA5 := Lib.hid hA5
      clear hcx hfx hx0
      go_wp2_with fail
      go_region_law? (first
        | (refine step_call rfl 44 #[.pointer (some ⟨g, 0, none⟩), .int .i64 (nR : Int)] (by go_simp) (hNx.out _ (by first | exact below_drw (Below.refl _ _) | exact below_drw ((Below.refl _ _).alloc (Nat.le_refl _) _) | exact (below_drw (Below.refl _ _)).alloc (Nat.le_refl _) _)) ?_; rintro e w6 ⟨k, i6, h6, rfl, hk, hk0, hk1, s6, C6, C65⟩; refine ⟨_, rfl, ?_⟩; have b6 := hCb.out _ C65; have a6 := hCA.out _ C65; have b6a := hCb.out _ (hAl.out _ (.cells #[.int .i64 (-1), .int .i64 (nR : Int), .int .i64 0] 2) C65); have a6a := hCA.out _ (hAl.out _ (.cells #[.int .i64 (-1), .int .i64 (nR : Int), .int .i64 0] 2) C65); have hz65 := C65.size)
        | (refine step_call rfl 45 #[.pointer (some ⟨g, 0, none⟩), .slice (some ⟨w5.heap.size, 0, none⟩) 3 3] (by go_simp) (hPk.out w6 w5.heap.size i6 h6 s6 ((C6.block _ (by simp) (by omega)).trans (heap_new _ _ _ rfl)) (by omega) C65) ?_; rintro e w7 ⟨i7, h7, y, rfl, s7, C75⟩; refine ⟨_, rfl, ?_⟩; have c7 := hCR.out _ k C75 hk; have f7 := hFR.out _ k C75; have b7 := hCb.out _ C75; have a7 := hCA.out _ C75)
        | (refine step_call rfl 45 #[.pointer (some ⟨g, 0, none⟩), .slice (some ⟨w6.heap.size, 0, none⟩) 3 3] (by go_simp) (hPk.out _ w6.heap.size i6 h6 (s6.below (by first | exact below_drw ((Below.refl _ _).alloc (Nat.le_refl _) _) | exact (below_drw (Below.refl _ _)).alloc (Nat.le_refl _) _ | exact (Below.refl _ _).alloc (Nat.le_refl _) _) s6.lt) (heap_new _ _ _ rfl) (by omega) (hAl.out _ _ C65)) ?_; rintro e w7 ⟨i7, h7, y, rfl, s7, C75⟩; refine ⟨_, rfl, ?_⟩; have c7 := hCR.out _ k C75 hk; have f7 := hFR.out _ k C75; have b7 := hCb.out _ C75; have a7 := hCA.out _ C75))
      all_goals
        have S7 := S5.out.step s7 C75
        have hsm : Same (w.heap.size + 1) b w5 w7 := Same.of_chg C75 (by omega) (.inr (by omega))
        have hfin := S7.sp0 hM4 (by decide) (hO.out.keep hsm) (hR.out.keep hsm) hr0.out hy.out (oR.keep hsm) (k := k) y
        replace hfin := Lib.hid hfin
        replace S7 := Lib.hid S7
        clear C6 C65 s6 s7
        go_wp2_with fail
        go_meet
        exact ⟨_, _, _, _, hfin.out⟩
    · have hMt : ∀ wq, Below w5.heap.size w5 wq → Calls Tryz.prog 46 #[.pointer (some ⟨g, 0, none⟩), .int .i64 (nR : Int)] wq fun e w' => ∃ (A1 : Option Addr) (c1 lo6 i' h' : Nat) (xs : List Int), e = .returned (.slice A1 nR c1) ∧ Own w' lo6 w'.heap.size 2 A1 nR c1 (xs.map (Value.int .i64)) ∧ b ≤ lo6 ∧ lo6 ≤ w'.heap.size ∧ Src w' lo g 74 A n c bs i' h' ∧ Chg g (g + 1) w5 w' := fun wq hq => by
        have hm := matching_any wq lo g A n c bs _ _ (s5.below hq s5.lt) K (by have := hF.out; omega)
        rw [hF.out] at hm
        refine hm.mono ?_
        rintro e w' ⟨A1, c1, rfl, i', h', zs, o, _, s', C⟩
        have := hq.size
        have := C.size
        exact ⟨A1, c1, wq.heap.size, i', h', zs, rfl, o, by omega, by omega, s', (Chg.of_below g (g + 1) hq).trans C ⟨Nat.le_refl _, Nat.le_refl _⟩ ⟨Nat.le_refl _, Nat.le_refl _⟩⟩
      have hCb : ∀ W, Chg g (g + 1) w5 W → W.cell? ⟨b, 0, none⟩ = some (.slice (some ⟨bA, 0, none⟩) m c1) := fun W C => (World.cell?_of_block (C.block b (by omega) (by omega))).trans D4
      have hAl : ∀ W o, Chg g (g + 1) w5 W → Chg g (g + 1) w5 (W.alloc o) := fun W o C => C.trans_below ((Below.refl _ _).alloc (Nat.le_refl _) _)
      have hOw : ∀ W, Chg g (g + 1) w5 W → Own W (w.heap.size + 1) b 35 (some ⟨bA, 0, none⟩) m c1 vs := fun W C => hO.out.keep (Same.of_chg C (by omega) (.inr (by omega)))
      have hml : Hid (m + 1 ≤ maxLen) := Lib.hid (by simp only [maxLen]; omega)
      have hRw : ∀ W, Chg g (g + 1) w5 W → RowsOwn W (w.heap.size + 1) b 2 vs zss := fun W C => hR.out.keep (Same.of_chg C (by omega) (.inr (by omega)))
      have hGb : ∀ W, Chg g (g + 1) w5 W → W.heap[b]? = some (.cells #[.slice (some ⟨bA, 0, none⟩) m c1] 26 (0, 0)) := fun W C => (C.block b (by omega) (by omega)).trans S5.out.gm
      replace hRw := Lib.hid hRw
      replace hGb := Lib.hid hGb
      replace hMt := Lib.hid hMt
      replace hCb := Lib.hid hCb
      replace hAl := Lib.hid hAl
      replace hOw := Lib.hid hOw
      go_wp2_with fail
      go_region_law? (first
        | (refine step_call rfl 46 #[.pointer (some ⟨g, 0, none⟩), .int .i64 (nR : Int)] (by go_simp) (hMt.out _ (below_drw (Below.refl _ _))) ?_; rintro e w6 ⟨A6, c6, lo6, i6, h6, xs, rfl, o6, hlo6, hlh6, s6, C65⟩; refine ⟨_, rfl, ?_⟩; have b6 := hCb.out _ C65; have hz65 := C65.size; have b6a := hCb.out _ (hAl.out _ (.cells #[.slice A6 nR c6] 35) C65); have hown' := (hOw.out _ (hAl.out _ (.cells #[.slice A6 nR c6] 35) C65)).1; have hnew' := cell_one_of (heap_new w6 (.cells #[.slice A6 nR c6] 35 (0, 0)) w6.heap.size rfl); replace hown' := Lib.hid hown'; replace hnew' := Lib.hid hnew')
        | (refine step_append_lies _ (by rfl) (.tmp 31) (.tmp 35) 24 (by rfl) (w.heap.size + 1) 35 s0 (.slice none 0 0) 1 24 Tryz.underlying24 hs0 hu0 hu1 hu2 rfl (by decide) (.slice (some ⟨bA, 0, none⟩) m c1) m vs (by rfl) hown'.out ⟨w6.heap.size, 0, none⟩ 1 1 [.slice A6 nR c6] (by rfl) rfl hnew'.out (by simp [Value.oneCell']) (by decide) hml.out (by omega) (by simp; omega) (w6.heap.size + 1) (by simp) ?_; intro g4 c4 w7 ho7 hg7 hor7 hlt7; have gm7 := (hg7.block b (by simp; omega) (fun e => by simp [Value.ownBlock] at e; omega)).trans (hGb.out _ (hAl.out w6 (.cells #[.slice A6 nR c6] 35) C65)); have F7 : w7.frozen? ⟨b, 0, none⟩ = false := frozen_of_row _ _ _ _ _ gm7; have D7 : w7.cell? ⟨b, 0, none⟩ = some (.slice (some ⟨bA, 0, none⟩) m c1) := by { rw [cell_of_row _ _ _ _ _ _ gm7]; rfl }; replace gm7 := Lib.hid gm7))
      all_goals
        have B6d : Below w6.heap.size w6 (w6.alloc (.cells #[.slice A6 nR c6] 35)) := (Below.refl _ _).alloc (Nat.le_refl _) _
        have C6d := hAl.out w6 (.cells #[.slice A6 nR c6] 35) C65
        have S6d := S5.out.step (s6.below B6d s6.lt) C6d
        have hfin := S6d.sp1 hM4 (by decide) (by decide) (by decide) (hOw.out _ C6d) (hRw.out _ C6d) (o6.below B6d (Nat.le_refl _)) hF400 hlo6 hlh6 (by simp) ho7 hg7
        replace hfin := Lib.hid hfin
        clear B6d C6d S6d s6 o6 ho7 hg7 hor7 C65
        go_wp2_with fail
        go_meet
        exact ⟨_, _, _, _, hfin.out⟩
    · have B : Below w5.heap.size w5 (w5.alloc (.cells #[] 35)) := (Below.refl _ _).alloc (Nat.le_refl _) _
      have S6 := S5.out.below B
      have D6 := S6.cellM
      have F6 := S6.frzM
      have hfin := S5.out.sp2
      replace hfin := Lib.hid hfin
      clear S6 B
      go_wp2_with fail
      go_meet
      exact ⟨_, _, _, _, hfin.out⟩
    · have Bd : Below w5.heap.size w5 (w5.alloc (.cells #[.int .i64 (nR : Int)] 2)).drew := below_drw ((Below.refl _ _).alloc (Nat.le_refl _) _)
      have S5d := S5.out.below Bd
      have hOd := hO.out.below Bd (by omega)
      have hRd := hR.out.keep (Same.of_below Bd (by omega))
      have oRd := oR.below Bd (by omega)
      have b5d := S5d.cellM
      have hAnb : ∀ q, (Value.slice A0 nR cR).ownBlock = some q → q < b := by
        intro q hq
        rcases A0 with _ | a
        · simp [Value.ownBlock] at hq
        · have := oR.2 a rfl
          simp [Value.ownBlock] at hq
          omega
      have hnew' := cell_one_of (heap_new w5 (.cells #[.int .i64 (nR : Int)] 2 (0, 0)) w5.heap.size rfl)
      have hml : Hid (nR + 1 ≤ maxLen) := Lib.hid (by simp only [maxLen]; omega)
      have hbs : Hid (w.heap.size + 1 ≤ (w5.alloc (.cells #[.int .i64 (nR : Int)] 2)).drew.heap.size) := Lib.hid (by simp; omega)
      have hown' := oRd.1
      have hOd1 := hOd.1
      replace S5d := Lib.hid S5d
      replace hOd := Lib.hid hOd
      replace hOd1 := Lib.hid hOd1
      replace hRd := Lib.hid hRd
      replace oRd := Lib.hid oRd
      replace hAnb := Lib.hid hAnb
      replace hnew' := Lib.hid hnew'
      replace hown' := Lib.hid hown'
      replace b5d := Lib.hid b5d
      have b5a : (w5.alloc (.cells #[.int .i64 (nR : Int)] 2)).cell? ⟨b, 0, none⟩ = some (.slice (some ⟨bA, 0, none⟩) m c1) := (al_old _ _ _ _ (by omega)).trans D4
      have a5a : (w5.alloc (.cells #[.int .i64 (nR : Int)] 2)).cell? ⟨bA, 0, none⟩ = some (.slice A0 nR cR) := (al_old _ _ _ _ (by omega)).trans hcA
      clear Bd oR
      go_wp2_with fail
      go_region_law? (refine step_append_lies _ (by rfl) (.tmp 49) (.tmp 51) 35 (by rfl) (w.heap.size + 1) 2 j0 (.int .i64 0) 1 8 Tryz.underlying35 hj0 hy0 hy1 hy2 rfl (by decide) (.slice A0 nR cR) nR (ys.map (Value.int .i64)) (by rfl) hown'.out ⟨w5.heap.size, 0, none⟩ 1 1 [.int .i64 (nR : Int)] (by rfl) rfl hnew'.out (by simp [Value.oneCell']) (by decide) hml.out (by omega) hbs.out (w5.heap.size + 1) (by simp) ?_; intro g4 c4 w7 ho7 hg7 hor7 hlt7; have oH7 := own_kept_ty hOd1.out hown'.out (by decide) hg7; have a7 : w7.cell? ⟨bA, 0, none⟩ = some (.slice A0 nR cR) := (oH7.cellAt 0 (by omega)).trans hr0.out; have fa7 : w7.frozen? ⟨bA, 0, none⟩ = false := oH7.frozenAt 0; clear oH7; have b7 := (World.cell?_of_block (a := ⟨b, 0, none⟩) (hg7.block b (by simp; omega) (fun e => by have := hAnb.out b e.symm; omega))).trans b5d.out)
      all_goals
        have ho8 : w7.ownsRow (w.heap.size + 1) 2 1 (.slice (some ⟨g4, 0, none⟩) (nR + 1) c4) (nR + 1) ((ys ++ [(nR : Int)]).map (Value.int .i64)) := by rw [List.map_append]; exact ho7
        have hfin := S5d.out.sp3 hM4 (by decide) hOd.out hRd.out hr0.out hy.out ho8 hg7 (hor7.imp id (fun e => by omega))
        replace hfin := Lib.hid hfin
        clear ho7 ho8 hg7 hor7
        go_wp2_with fail
        go_meet
        exact ⟨_, _, _, _, hfin.out⟩
    · have hm1 : 1 ≤ m := m1
      have hc := S5.out.own.cap
      go_wp2_with fail
      all_goals
        go_meet
        first
          | exact ⟨_, _, _, _, S5.out.sp4 hM4 rfl (fun h => rfl) (by omega)⟩
          | exact ⟨_, _, _, _, S5.out.sp4 hM4 rfl (fun h => absurd h (by omega)) (by omega)⟩
    · have e0 : (v == 0) = false := by simp; omega
      have e1 : (v == 1) = false := by simp; omega
      have e2 : (v == 2) = false := by simp; omega
      have e3 : (v == 3) = false := by simp; omega
      have e4 : (v == 4) = false := by simp; omega
      have hfin := S5.out.sp hM4
      replace hfin := Lib.hid hfin
      go_wp2_with fail
      go_meet
      exact ⟨_, _, _, _, hfin.out⟩
  case rest =>
    obtain ⟨A2, m2, c2, yss, S⟩ := hcut
    clear S5 s5 hz5
    have D0 := S.fr.cell0
    have F0 := S.fr.frz0
    have D4 := S.gm
    have g9 := heap_setCell_same _ _ 0 _ _ (Value.slice A2 m2 c2) S.fr.g0
    replace g9 := Lib.hid g9
    go_wp2_with fail
    (try simp only [Exit.inBlock, Exit.then])
    refine bodyPost_ret (v := .agg #[.slice A2 m2 c2]) ?_ rfl ?_
    · exact results_cell_row rfl _ _ w.heap.size 26 #[.slice A2 m2 c2] (0, 0) _ rfl (by simpa using g9.out) Tryz.underlying26 rfl (by kernel_rfl)
    · exact ⟨_, _, _, rfl, S.ret _⟩
end Go.Proofs.YtbioelmofceaaaaGreat
/- DrwX -/
namespace Go.Proofs.YtbioelmofceaaaaGreat
open Go.RowKit
set_option linter.unusedVariables false
set_option maxRecDepth 100000
/-- a maniplex, or what is none, in rows behind the call's beginning -/
def DrwMP (w w' : World) (A1 : Option Addr) (m c1 : Nat) : Prop := ∃ xss, RS w' w.heap.size w'.heap.size A1 m xss ∧ m ≤ c1 ∧ Below w.heap.size w w'
theorem spoilt_out {w w2 w3 : World} {lo g : Nat} {TS : TypeId} {A : Option Addr} {n c : Nat} {bs : List Int} {A1 : Option Addr} {m c1 : Nat} (B1 : Below w.heap.size w w2) (h2 : w.heap.size < w2.heap.size) (hg : w.heap.size ≤ g) (D : SpoiltM w2 w3 lo g TS A n c bs A1 m c1) (v : Value) : DrwMP w (w3.setCell ⟨w.heap.size, 0, none⟩ v) A1 m c1 := by
  obtain ⟨zss, i, h, hR, hc, s, C, _, _⟩ := D
  have hz := C.size
  obtain ⟨vs, r1, r2⟩ := hR
  have hs : Same w2.heap.size w3.heap.size w3 (w3.setCell ⟨w.heap.size, 0, none⟩ v) := same_set _ _ _ _ _ (.inl (by simpa using h2))
  have hR' : RS (w3.setCell ⟨w.heap.size, 0, none⟩ v) w2.heap.size w3.heap.size A1 m zss := ⟨vs, r1.keep hs, r2.keep hs⟩
  exact ⟨zss, hR'.more (by omega) (by simp), hc, (B1.trans (C.below hg (by omega))).setCell (by simp) _⟩
set_option maxHeartbeats 4000000 in
theorem drawLeast_any (w : World) (A : Option Addr) (n c : Nat) (bs : List Int) (h : Rd w 0 w.heap.size A n (bs.map (Value.int .u8))) (hb : ∀ x ∈ bs, 0 ≤ x ∧ x < 256) (hn : n ≤ 1048576) :
    Calls Tryz.prog 5 #[.slice A n c] w fun e w' => ∃ (A1 : Option Addr) (m c1 : Nat), e = .returned (.agg #[.slice A1 m c1]) ∧ DrwMP w w' A1 m c1 := by
  have B1 : Below w.heap.size w (w.alloc (.cells #[.slice none 0 0] 26)) := (Below.refl _ _).alloc (Nat.le_refl _) _
  have z1 : (w.alloc (.cells #[.slice none 0 0] 26)).heap.size = w.heap.size + 1 := by simp
  have hF := from_any (w.alloc (.cells #[.slice none 0 0] 26)) A n c bs ((h.keep (Same.of_below B1 (Nat.le_refl _))).more (Nat.le_refl _) (by simp)) hb hn
  have g1 : (w.alloc (.cells #[.slice none 0 0] 26)).heap[w.heap.size]? = some (.cells #[.slice none 0 0] 26 (0, 0)) := heap_new _ _ _ rfl
  rw [z1] at hF
  replace hb := Lib.hid hb
  go_enter Tryz.func5, Tryz.ntmps5
  go_wp2_with fail
  ((with_reducible refine hF.mono ?_); rintro e w2 ⟨H, rfl, s2, f2⟩)
  have z2 := f2.size
  rw [z1] at z2
  have g2 := (f2.block _ (by omega)).trans g1
  have B2 := B1.trans (f2.mono (by omega))
  have hS := l02Spoil_any w2 _ _ A n c bs _ _ s2 40 (by omega) (by omega)
  rw [show ((40 : Nat) : Int) = 40 from rfl] at hS
  go_wp2_with fail
  ((with_reducible refine hS.mono ?_); rintro e w3 ⟨A1, m, c1, rfl, D⟩)
  clear hS hF
  have hg3 : w3.heap[w.heap.size]? = some (.cells #[.slice none 0 0] 26 (0, 0)) := by
    obtain ⟨_, _, _, _, _, _, C, _, _⟩ := D
    exact (C.block _ (by omega) (by omega)).trans g2
  have D0 : w3.cell? ⟨w.heap.size, 0, none⟩ = some (.slice none 0 0) := by rw [cell_of_row _ _ _ _ _ _ hg3]; rfl
  have F0 : w3.frozen? ⟨w.heap.size, 0, none⟩ = false := frozen_of_row _ _ _ _ _ hg3
  have g9 := heap_setCell_same _ _ 0 _ _ (Value.slice A1 m c1) hg3
  replace g9 := Lib.hid g9
  replace hg3 := Lib.hid hg3
  go_wp2_with fail
  (try simp only [Exit.inBlock, Exit.then])
  refine bodyPost_ret (v := .agg #[.slice A1 m c1]) ?_ rfl ?_
  · exact results_cell_row rfl _ _ w.heap.size 26 #[.slice A1 m c1] (0, 0) _ rfl (by simpa using g9.out) Tryz.underlying26 rfl (by kernel_rfl)
  · exact ⟨_, _, _, rfl, spoilt_out B2 (by omega) (by omega) D _⟩
end Go.Proofs.YtbioelmofceaaaaGreat
/- DrwN -/
namespace Go.Proofs.YtbioelmofceaaaaGreat
open Go.RowKit
set_option linter.unusedVariables false
set_option maxRecDepth 100000
theorem results_cell_row3 {P : Program} {fn : Func} {p u1 u2 : Tmp} {ty : TypeId} (h : fn.results = #[.cell p ty, .tmp u1, .tmp u2]) (tmps : Array Value) (w : World) (g : Nat) (t : TypeId) (cs : Array Value) (fr : Nat × Nat) (d : TypeDesc)
    (hp : tmps.getD p undef = .pointer (some ⟨g, 0, none⟩)) (hg : w.heap[g]? = some (.cells cs t fr))
    (hu : P.underlying ty = some d) (hd : (match d with | .struct _ | .array _ _ => true | _ => false) = true) (hi : (P.info? ty).map (·.size) = some cs.size) (v1 v2 : Value) (hv1 : tmps.getD u1 undef = v1) (hv2 : tmps.getD u2 undef = v2) :
    (results fn tmps).run P w = .ok (.tuple #[.agg cs, v1, v2]) w := by
  have e : (results fn tmps).run P w = ((asAddr (tmps.getD p undef)).run P w).andThen fun a w₁ => ((loadVar ty a).run P w₁).andThen fun v w₂ => .ok (.tuple #[v, tmps.getD u1 undef, tmps.getD u2 undef]) w₂ := by
    simp only [results, h]
    simp [Sem.run_bind, Result.andThen]
  rw [e, hp, hv1, hv2]
  simp [asAddr, run_loadVar_row w g t ty cs fr d hg hu hd hi, Result.andThen]
theorem results_cell_row4 {P : Program} {fn : Func} {p u1 u2 u3 : Tmp} {ty : TypeId} (h : fn.results = #[.cell p ty, .tmp u1, .tmp u2, .tmp u3]) (tmps : Array Value) (w : World) (g : Nat) (t : TypeId) (cs : Array Value) (fr : Nat × Nat) (d : TypeDesc)
    (hp : tmps.getD p undef = .pointer (some ⟨g, 0, none⟩)) (hg : w.heap[g]? = some (.cells cs t fr))
    (hu : P.underlying ty = some d) (hd : (match d with | .struct _ | .array _ _ => true | _ => false) = true) (hi : (P.info? ty).map (·.size) = some cs.size) (v1 v2 v3 : Value) (hv1 : tmps.getD u1 undef = v1) (hv2 : tmps.getD u2 undef = v2) (hv3 : tmps.getD u3 undef = v3) :
    (results fn tmps).run P w = .ok (.tuple #[.agg cs, v1, v2, v3]) w := by
  have e : (results fn tmps).run P w = ((asAddr (tmps.getD p undef)).run P w).andThen fun a w₁ => ((loadVar ty a).run P w₁).andThen fun v w₂ => .ok (.tuple #[v, tmps.getD u1 undef, tmps.getD u2 undef, tmps.getD u3 undef]) w₂ := by
    simp only [results, h]
    simp [Sem.run_bind, Result.andThen]
  rw [e, hp, hv1, hv2, hv3]
  simp [asAddr, run_loadVar_row w g t ty cs fr d hg hu hd hi, Result.andThen]
/-- a number of 64 bits -/
def IR64 (x : Int) : Prop := -9223372036854775808 ≤ x ∧ x ≤ 9223372036854775807
/-- the frame of a draw that holds a maniplex in the block b -/
structure DxS (w : World) (lo g b : Nat) (TS TM : TypeId) (A : Option Addr) (n c : Nat) (bs : List Int) (wq : World) (A1 : Option Addr) (m c1 : Nat) (xss : List (List Int)) : Prop where
  hg : w.heap.size < g
  hb : g < b
  g0 : wq.heap[w.heap.size]? = some (.cells #[.slice none 0 0] TM (0, 0))
  gm : wq.heap[b]? = some (.cells #[.slice A1 m c1] TM (0, 0))
  rs : RS wq (g + 1) b A1 m xss
  cap : m ≤ c1
  lens : m ≤ 6 ∧ ∀ xs ∈ xss, xs.length ≤ 401
  src : ∃ i h, Src wq lo g TS A n c bs i h
  bel : Below w.heap.size w wq
  size : b + 1 ≤ wq.heap.size
section
variable {w : World} {lo g b : Nat} {TS TM : TypeId} {A : Option Addr} {n c : Nat} {bs : List Int} {wq w2 : World} {A1 : Option Addr} {m c1 : Nat} {xss : List (List Int)}
theorem RS.same {w w' : World} {lo hi m : Nat} {A : Option Addr} {xss : List (List Int)} (h : RS w lo hi A m xss) (hs : Same lo hi w w') : RS w' lo hi A m xss := by
  obtain ⟨vs, h1, h2⟩ := h
  exact ⟨vs, h1.keep hs, h2.keep hs⟩
theorem DxS.start {w2 w3 : World} (hg : w.heap.size < g) (hz : g + 1 ≤ w2.heap.size) (g0 : w2.heap[w.heap.size]? = some (.cells #[.slice none 0 0] TM (0, 0))) (bel : Below w.heap.size w w2) (D : SpoiltM w2 w3 lo g TS A n c bs A1 m c1) : ∃ xss, DxS w lo g w3.heap.size TS TM A n c bs (w3.alloc (.cells #[.slice A1 m c1] TM)) A1 m c1 xss := by
  obtain ⟨zss, i, h, hR, hc, s, C, hl⟩ := D
  have hz3 := C.size
  have B : Below w3.heap.size w3 (w3.alloc (.cells #[.slice A1 m c1] TM)) := (Below.refl _ _).alloc (Nat.le_refl _) _
  refine ⟨zss, hg, by omega, (B.block _ (by omega)).trans ((C.block _ (by omega) (by omega)).trans g0), heap_new _ _ _ rfl, (hR.more hz (Nat.le_refl _)).below B (Nat.le_refl _), hc, hl, ⟨i, h, s.below B s.lt⟩, ?_, by simp⟩
  exact (bel.trans (C.below (by omega) (by omega))).trans (B.mono (by have := bel.size; omega))
theorem DxS.step (S : DxS w lo g b TS TM A n c bs wq A1 m c1 xss) {i h : Nat} (s : Src w2 lo g TS A n c bs i h) (C : Chg g (g + 1) wq w2) : DxS w lo g b TS TM A n c bs w2 A1 m c1 xss := by
  have h1 := S.hg
  have h2 := S.hb
  have h3 := S.size
  have h4 := C.size
  exact ⟨h1, h2, (C.block _ (by omega) (by omega)).trans S.g0, (C.block _ (by omega) (by omega)).trans S.gm, S.rs.same (Same.of_chg C (by omega) (.inr (by omega))), S.cap, S.lens, ⟨_, _, s⟩, S.bel.trans (C.below (by omega) (by omega)), by omega⟩
theorem DxS.below (S : DxS w lo g b TS TM A n c bs wq A1 m c1 xss) (B : Below wq.heap.size wq w2) : DxS w lo g b TS TM A n c bs w2 A1 m c1 xss := by
  obtain ⟨i, h, s⟩ := S.src
  exact S.step (s.below B s.lt) (Chg.of_below _ _ B)
theorem DxS.cellM (S : DxS w lo g b TS TM A n c bs wq A1 m c1 xss) : wq.cell? ⟨b, 0, none⟩ = some (.slice A1 m c1) := by rw [cell_of_row _ _ _ _ _ _ S.gm]; rfl
theorem DxS.cell0 (S : DxS w lo g b TS TM A n c bs wq A1 m c1 xss) : wq.cell? ⟨w.heap.size, 0, none⟩ = some (.slice none 0 0) := by rw [cell_of_row _ _ _ _ _ _ S.g0]; rfl
theorem DxS.frz0 (S : DxS w lo g b TS TM A n c bs wq A1 m c1 xss) : wq.frozen? ⟨w.heap.size, 0, none⟩ = false := frozen_of_row _ _ _ _ _ S.g0
theorem DxS.ret (S : DxS w lo g b TS TM A n c bs wq A1 m c1 xss) (v : Value) : DrwMP w (wq.setCell ⟨w.heap.size, 0, none⟩ v) A1 m c1 := by
  have h1 := S.hg
  have h3 := S.size
  exact ⟨xss, (S.rs.same (same_set _ _ _ _ _ (.inl (by simp; omega)))).more (by omega) (by simp; omega), S.cap, S.bel.setCell (by simp) _⟩
end
theorem nextz_any (w : World) (lo g : Nat) (A : Option Addr) (n c : Nat) (bs : List Int) (i h : Nat) (s : Src w lo g 74 A n c bs i h) (x : Int) (hx : x ≤ 1099511627776) :
    Calls Tryz.prog 44 #[.pointer (some ⟨g, 0, none⟩), .int .i64 x] w fun e w' => ∃ (v i' h' : Nat), e = .returned (.int .i64 (v : Int)) ∧ ((v : Int) < x ∨ v = 0) ∧ Src w' lo g 74 A n c bs i' h' ∧ Chg g (g + 1) w w' := by
  by_cases h1 : 1 ≤ x
  · refine (next_nat w lo g A n c bs i h s x h1 hx).mono ?_
    rintro e w' ⟨v, rfl, hv, i', h', s', C⟩
    exact ⟨v, i', h', rfl, by omega, s', C⟩
  · refine (next_zero w g x (by omega)).mono ?_
    rintro e w' ⟨rfl, rfl⟩
    exact ⟨0, i, h, rfl, .inr rfl, s, Chg.of_below _ _ (Below.refl _ _)⟩
end Go.Proofs.YtbioelmofceaaaaGreat
/- OpenB -/
namespace Go.Proofs.YtbioelmofceaaaaGreat
open Go.ChangeShapes Go.WideShapes Go.ChangeAt Go.RowKit
set_option linter.unusedVariables false
set_option maxRecDepth 100000
theorem open_RB {H : Type} {enc : TypeId × Value → H} {P : Program} {w : World} {t e : TypeId} {a : Option Addr} {len cap : Nat} {d : DataW H} {p : List MemPlace}
    (ht : P.underlying t = some (.slice e)) (he : P.underlying e = some (.int .u8)) (hc : P.cellsOf e = 1)
    (h : DataW.Trod enc P w 0 (fun _ => true) true t (.slice a len cap) d p) : ∃ xs : List Int, Rd w 0 w.heap.size a len (xs.map (Value.int .u8)) ∧ ∀ x ∈ xs, 0 ≤ x ∧ x < 256 := by
  obtain ⟨fuel, hf⟩ := h
  rcases open_ints ht he hc hf with ⟨hcs, _⟩ | ⟨x, l, c, zs, hcs, _, hl, hm, hz, _, hcell, hwz⟩
  · simp [Value.cells] at hcs
    obtain ⟨rfl, rfl, rfl⟩ := hcs
    exact ⟨[], Rd.nil, by simp⟩
  · simp [Value.cells] at hcs
    obtain ⟨rfl, rfl, rfl⟩ := hcs
    have hz' : zs.length = cap := by simpa using hz
    simp only [maxLen] at hm
    refine ⟨zs.take len, rd_of_cells (by simp; omega) (by omega) fun i v hv => ?_, fun y hy => by have := bounds_u8 (hwz y (List.mem_of_mem_take hy)); omega⟩
    have hi : i < len := by have := (List.getElem?_eq_some_iff.1 hv).1; simp at this; omega
    rw [hcell i (by omega)]
    simp [hi, List.getD] at hv ⊢
    obtain ⟨y, hy, rfl⟩ := hv
    simp [hy]
end Go.Proofs.YtbioelmofceaaaaGreat
/- Like -/
namespace Go.Proofs.YtbioelmofceaaaaGreat
open Go.RowKit
set_option linter.unusedVariables false
set_option maxRecDepth 100000
set_option maxHeartbeats 400000 in
theorem like_q (A : Option Addr) (n c : Nat) (xs : List Int) (A' : Option Addr) (n' c' : Nat) (ys : List Int) (w : World) (lo hi lo' hi' : Nat) (h : RI w lo hi A n xs) (h' : RI w lo' hi' A' n' ys) (hhi : hi ≤ w.heap.size) (hhi' : hi' ≤ w.heap.size) :
    Calls Tryz.prog 19 #[.slice A n c, .slice A' n' c'] w fun e w' => e = .returned (.bool (decide (xs = ys))) ∧ ∃ m, w' = w.drewN m := by
  have hm := h.max
  have hm' := h'.max
  have hl := h.len
  have hl' := h'.len
  replace hl := Lib.hid hl
  replace hl' := Lib.hid hl'
  by_cases hne : n = n'
  · subst hne
    go_enter Tryz.func19, Tryz.ntmps19
    go_wp2
    go_loopw [5] (fun i wr => ∃ k : Nat, k ≤ n ∧ i = .int .i64 k ∧ (∀ j, j < k → xs[j]? = ys[j]?) ∧ (∃ m, wr = w.drewN m)) (fun i wr => n - (intOf i).toNat)
    case atStart => exact ⟨0, by omega, rfl, fun j hj => absurd hj (by omega), 0, rfl⟩
    case round =>
      obtain ⟨k, hk, rfl, hys, md, hmd⟩ := hrel
      have hb : Below w.heap.size w wr := by rw [hmd]; exact below_drewN (Below.refl _ _) _
      replace hmd := Lib.hid hmd
      replace hys := Lib.hid hys
      by_cases hlt : k < n
      · obtain ⟨b, o, x, rfl, _, _, hx, hc⟩ := (h.below hb hhi).at_ hlt
        obtain ⟨b', o', y, rfl, _, _, hy, hc'⟩ := (h'.below hb hhi').at_ hlt
        replace hx := Lib.hid hx
        replace hy := Lib.hid hy
        by_cases hxy : x = y
        · subst hxy
          go_wp2
          go_quiet (fail)
          go_wp2
          go_roundw
          case rel =>
            refine ⟨k + 1, by omega, by go_num, fun j hj => ?_, md + nq, by rw [hmd.out, World.drewN_drewN]⟩
            by_cases e : j = k
            · subst e; rw [hx.out, hy.out]
            · exact hys.out j (by omega)
          case measure => simp [intOf]; omega
        · have hxy' : (x != y) = true := by simpa using hxy
          go_wp2
          go_quiet (fail)
          go_wp2
          go_ret
          refine ⟨ret_bool ?_, md + nq, by rw [hmd.out, World.drewN_drewN]⟩
          have hx := hx.out
          have hy := hy.out
          symm
          apply decide_eq_false
          rintro rfl
          rw [hx] at hy
          exact hxy (Option.some.inj hy)
      · go_wp2
        go_ret
        refine ⟨ret_bool ?_, md, hmd.out⟩
        have hl := hl.out
        have hl' := hl'.out
        symm
        apply decide_eq_true
        exact list_ext_upto k (by omega) (by omega) hys.out
  · have hne' : ((n : Int) != (n' : Int)) = true := by simp; omega
    go_enter Tryz.func19, Tryz.ntmps19
    go_wp2
    go_ret
    refine ⟨ret_bool ?_, 0, rfl⟩
    have hl := hl.out
    have hl' := hl'.out
    symm
    apply decide_eq_false
    rintro rfl
    omega

theorem like_any (A : Option Addr) (n c : Nat) (xs : List Int) (A' : Option Addr) (n' c' : Nat) (ys : List Int) (w : World) (lo hi lo' hi' : Nat) (h : RI w lo hi A n xs) (h' : RI w lo' hi' A' n' ys) (hhi : hi ≤ w.heap.size) (hhi' : hi' ≤ w.heap.size) :
    Calls Tryz.prog 19 #[.slice A n c, .slice A' n' c'] w fun e w' => e = .returned (.bool (decide (xs = ys))) ∧ Below w.heap.size w w' :=
  (like_q A n c xs A' n' c' ys w lo hi lo' hi' h h' hhi hhi').mono fun e w' ⟨he, m, hm⟩ => ⟨he, by rw [hm]; exact below_drewN (Below.refl _ _) _⟩

end Go.Proofs.YtbioelmofceaaaaGreat
/- LawQ -/
namespace Go.Proofs.YtbioelmofceaaaaGreat
open Go.RowKit
set_option linter.unusedVariables false
set_option maxRecDepth 100000
theorem bigl_any (a : Option Addr) (n c : Nat) (w : World) (hn : n ≤ 9223372036854775807) : Calls Tryz.prog 4 #[.slice a n c] w fun e w' => e = .returned (.bool (decide (4096 < n))) ∧ w = w' := by
  have hd : decide ((4096 : Int) < (n : Int)) = decide (4096 < n) := decide_eq_decide.2 (by omega)
  replace hd := Lib.hid hd
  go_enter Tryz.func4, Tryz.ntmps4
  go_wp2_with fail
  go_ret
  exact ⟨ret_bool hd.out, rfl⟩
theorem flags5_any (A : Option Addr) (n c : Nat) (xss : List (List Int)) (w : World) {lo hi : Nat} (h : RS w lo hi A n xss) (hhi : hi ≤ w.heap.size) (hn : 0 < n) :
    Calls Tryz.prog 12 #[.agg #[.slice A n c]] w fun e w' => e = .returned (.int .i64 (flg xss : Nat)) ∧ Below w.heap.size w w' := by
  obtain ⟨b0, o0, A0, n0, c0, p0, rfl, _, _, hp0, hc0, hr0⟩ := (rs_alloc h hhi (.cells #[.slice A n c] 26)).at_ (k := 0) hn
  rw [Nat.add_zero] at hc0
  have hl := hr0.len
  have hm := h.max
  have hm0 := hr0.max
  have hpn : ¬ n = 0 := by omega
  have e : flg xss = n0 := by rw [flg_of hp0]; exact hl
  replace e := Lib.hid e
  replace hp0 := Lib.hid hp0
  replace hl := Lib.hid hl
  go_enter Tryz.func12, Tryz.ntmps12
  go_wp2_with fail
  go_ret
  exact ⟨ret_int (by rw [e.out]), (Below.refl _ _).alloc (Nat.le_refl _) _⟩
end Go.Proofs.YtbioelmofceaaaaGreat
