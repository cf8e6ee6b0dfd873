/- FnManiplexTexts: the text of a maniplex is parsed to it, and a text that is parsed is the text of the result: the law returns true for every code. No condition. (Merged: Any, Dra, SpoP, Spo, DrwX, Shr, Mtx, MtxS, MtxX, DrwV, Pmx, PmX, Like, Lk5, LawQ, Crd, CrdE, LManiplexTexts.) -/
import Derived.Test.YtcjnhiglfkcmiaaGreatDoorMga
import Derived.Test.YtcjnhiglfkcmiaaGreatDoorDrwZ
import Derived.Deep.Cut
import Derived.Deep.CutRange
import Derived.Deep.CutBlock
import Derived.Test.YtcjnhiglfkcmiaaGreatDoorStep
import Derived.Test.YtcjnhiglfkcmiaaGreatDoorDrwF
import Derived.Shelf.Strings.Builder1
import Derived.Shelf.Strings.Builder2
import Derived.Shelf.Strings.OnBuilder
import Derived.Shelf.Strconv.Itoa0
import Derived.Shelf.Strconv.Itoa1
import Derived.Shelf.LaysM
import Derived.Shelf.Strconv.Itoa2
import Derived.Shelf.Strconv.Itoa3
import Derived.Shelf.Strconv.Itoa4
import Derived.Shelf.Strconv.ParseIntEmpty
import Derived.Shelf.Strconv.Clone
import Derived.Shelf.Strconv.SyntaxError
import Derived.Shelf.LaysC
import Derived.Shelf.Strconv.ToError
import Derived.Shelf.Strconv.Lower
import Derived.Shelf.Strconv.ParseUint10
import Derived.Shelf.Strconv.ParseUint10Empty
import Derived.Shelf.Strconv.ParseUint10Any
import Derived.Shelf.Strconv.ParseInt10
import Derived.Shelf.Strconv.RangeError
import Derived.Shelf.Strconv.ToErrorRange
import Derived.Shelf.Strconv.ParseUintEmpty
import Derived.Shelf.Strconv.ParseUint10b64
import Derived.Shelf.Strconv.ParseUint10b32
import Derived.Shelf.Strconv.ParseUint10b16
import Derived.Shelf.Strconv.ParseUint10b8
import Derived.Shelf.Strconv.ParseUint10At
import Derived.Shelf.Strconv.ParseInt10At64
import Derived.Shelf.Strconv.ParseInt10At32
import Derived.Shelf.Strconv.ParseInt10At16
import Derived.Shelf.Strconv.ParseInt10At8
import Derived.Shelf.Strconv.ParseInt10All
import Derived.Shelf.Strconv.ParseIntPublic10
import Derived.Shelf.Strconv.ErrVarParseInt
import Derived.Shelf.Strings.Search1
import Derived.Shelf.Strings.Search2
import Derived.Shelf.Strings.Search3
import Derived.Shelf.Strings.Count
import Derived.Shelf.Strings.Shaped
import Derived.Shelf.Strings.Split
import Derived.Shelf.Strings.Replace
import Derived.Shelf.Strings.SplitShaped
import Derived.Shelf.Bits.Mul64
import Derived.Shelf.Unicode.DecodeSlow
import Derived.Test.YtcjnhiglfkcmiaaGreatDoorProg
import Derived.Test.YtcjnhiglfkcmiaaGreatDoorMtxP
import Derived.Test.YtcjnhiglfkcmiaaGreatDoorTxt
import Derived.Test.YtcjnhiglfkcmiaaGreatDoorManX
import Derived.Lib.SplitLaws
import Derived.Test.YtcjnhiglfkcmiaaGreatDoorDmg
import Derived.Test.YtcjnhiglfkcmiaaGreatDoorRdN
import Derived.Test.YtcjnhiglfkcmiaaGreatDoorPmS
import Derived.Test.YtcjnhiglfkcmiaaGreatDoorLawI
import Derived.Test.YtcjnhiglfkcmiaaGreatDoorLawM
import Derived.HandedShaped
import Derived.Handed
import Derived.Shelf.Vars
import Derived.Stop.LaidErr
import Derived.Test.YtcjnhiglfkcmiaaGreatDoorRows
import Derived.Test.YtcjnhiglfkcmiaaGreatDoorTie
import Derived.Test.YtcjnhiglfkcmiaaGreatDoorCards
import Derived.ProofKit
import Derived.LaidMore
import Derived.OpenShut
import Derived.Stop.Joined
import Derived.SevenTiedAt
import Derived.Lib.LaidTab
import Derived.MakeChecks
import Derived.Lay
import Derived.Test.YtcjnhiglfkcmiaaGreatDoorOpen
import Derived.Test.YtcjnhiglfkcmiaaGreatDoorOpenB
/- Any -/
namespace Go.Proofs.YtcjnhiglfkcmiaaGreatDoor
open Go.RowKit
set_option linter.unusedVariables false
set_option maxRecDepth 100000
/-- what a draw of a maniplex leaves: rows of its own that are permutations of an even number of flags -/
def DrawnM (w w' : World) (lo g : Nat) (TS T2 T1 : TypeId) (A : Option Addr) (n c : Nat) (bs : List Int) (M : Nat) (A1 : Option Addr) (m c1 : Nat) : Prop :=
  ∃ (zss : List (List Int)) (K i' h' : Nat), OwnS w' w.heap.size w'.heap.size T2 T1 A1 m c1 zss ∧ SysOf zss (2 * K) ∧ 1 ≤ K ∧ 2 * K ≤ M ∧ 1 ≤ m ∧ m ≤ 5 ∧ Src w' lo g TS A n c bs i' h' ∧ Chg g (g + 1) w w'
/-- the length of the slice that the cell at b holds -/
def mLen (w : World) (b : Nat) : Nat := match w.cell? ⟨b, 0, none⟩ with | some (.slice _ n _) => n | _ => 0
theorem mLen_eq {w : World} {b n c : Nat} {A : Option Addr} {T : TypeId} (h : w.heap[b]? = some (.cells #[.slice A n c] T (0, 0))) : mLen w b = n := by
  unfold mLen
  rw [cell_of_row _ _ _ _ _ _ h]
  rfl
/-- the walk's frame: the result's block, the edge, the source -/
structure AnyS (w : World) (lo g b3 : Nat) (TS TM T2 T1 : TypeId) (A : Option Addr) (n c : Nat) (bs : List Int) (wq : World) : Prop where
  hb : b3 = w.heap.size + 3
  hg : g < w.heap.size
  g0 : wq.heap[w.heap.size]? = some (.cells #[.slice none 0 0] TM (0, 0))
  ge : wq.heap[b3]? = some (.cells #[.slice (some ⟨w.heap.size + 1 + 1, 0, none⟩) 1 1] TM (0, 0))
  eo : OwnS wq (w.heap.size + 1) b3 T2 T1 (some ⟨w.heap.size + 1 + 1, 0, none⟩) 1 1 [[1, 0]]
  src : ∃ i h, Src wq lo g TS A n c bs i h
  chg : Chg g (g + 1) w wq
  size : b3 + 2 ≤ wq.heap.size
section
variable {w : World} {lo g b3 : Nat} {TS TM T2 T1 : TypeId} {A : Option Addr} {n c : Nat} {bs : List Int} {wq w2 : World}
theorem AnyS.step (S : AnyS w lo g b3 TS TM T2 T1 A n c bs wq) {i h : Nat} (s : Src w2 lo g TS A n c bs i h) (C : Chg g (g + 1) wq w2) : AnyS w lo g b3 TS TM T2 T1 A n c bs w2 := by
  have h1 := S.hb
  have h2 := S.hg
  have h3 := S.size
  have h4 := C.size
  exact ⟨h1, h2, (C.block _ (by omega) (by omega)).trans S.g0, (C.block _ (by omega) (by omega)).trans S.ge, S.eo.keep (Same.of_chg C (by omega) (.inr (by omega))), ⟨_, _, s⟩, S.chg.trans C ⟨Nat.le_refl _, Nat.le_refl _⟩ ⟨Nat.le_refl _, Nat.le_refl _⟩, by omega⟩
theorem AnyS.below (S : AnyS w lo g b3 TS TM T2 T1 A n c bs wq) (B : Below wq.heap.size wq w2) : AnyS w lo g b3 TS TM T2 T1 A n c bs w2 := by
  obtain ⟨i, h, s⟩ := S.src
  have h2 := S.hg
  have h3 := S.size
  have h1 := S.hb
  exact S.step (s.below B (by omega)) (Chg.of_below _ _ B)
theorem AnyS.setM (S : AnyS w lo g b3 TS TM T2 T1 A n c bs wq) (v : Value) : AnyS w lo g b3 TS TM T2 T1 A n c bs (wq.setCell ⟨b3 + 1, 0, none⟩ v) := by
  obtain ⟨i, h, s⟩ := S.src
  have h1 := S.hb
  have h2 := S.hg
  have h3 := s.above
  exact ⟨h1, h2, (Below.heap_setCell _ _ _ _ (by simp; omega)).trans S.g0, (Below.heap_setCell _ _ _ _ (by simp)).trans S.ge, S.eo.keep (same_set _ _ _ _ _ (.inr (by simp))), ⟨_, _, s.far (by simp; omega) (by simp; omega) _⟩, S.chg.setNew (by simp; omega) _, by have := S.size; simpa using this⟩
theorem AnyS.cellE (S : AnyS w lo g b3 TS TM T2 T1 A n c bs wq) : wq.cell? ⟨b3, 0, none⟩ = some (.slice (some ⟨w.heap.size + 1 + 1, 0, none⟩) 1 1) := by rw [cell_of_row _ _ _ _ _ _ S.ge]; rfl
theorem AnyS.cell0 (S : AnyS w lo g b3 TS TM T2 T1 A n c bs wq) : wq.cell? ⟨w.heap.size, 0, none⟩ = some (.slice none 0 0) := by rw [cell_of_row _ _ _ _ _ _ S.g0]; rfl
theorem AnyS.frz0 (S : AnyS w lo g b3 TS TM T2 T1 A n c bs wq) : wq.frozen? ⟨w.heap.size, 0, none⟩ = false := frozen_of_row _ _ _ _ _ S.g0
end
/-- the maniplex drawn so far, in the block behind the edge's -/
structure AnyM (b3 : Nat) (TM T2 T1 : TypeId) (M : Nat) (wq : World) (A1 : Option Addr) (m c1 : Nat) (zss : List (List Int)) (K : Nat) : Prop where
  gm : wq.heap[b3 + 1]? = some (.cells #[.slice A1 m c1] TM (0, 0))
  own : OwnS wq (b3 + 2) wq.heap.size T2 T1 A1 m c1 zss
  sys : SysOf zss (2 * K)
  k1 : 1 ≤ K
  kM : 2 * K ≤ M
  m1 : 1 ≤ m
  m5 : m ≤ 5
  hz : b3 + 2 ≤ wq.heap.size
section
variable {b3 : Nat} {TM T2 T1 : TypeId} {M : Nat} {wq w2 : World} {A1 : Option Addr} {m c1 : Nat} {zss : List (List Int)} {K : Nat}
theorem AnyM.step (S : AnyM b3 TM T2 T1 M wq A1 m c1 zss K) {g : Nat} (hg : g < b3) (C : Chg g (g + 1) wq w2) : AnyM b3 TM T2 T1 M w2 A1 m c1 zss K := by
  have h3 := S.hz
  have h4 := C.size
  exact ⟨(C.block _ (by omega) (by omega)).trans S.gm, (S.own.keep (Same.of_chg C (Nat.le_refl _) (.inr (by omega)))).more (Nat.le_refl _) h4, S.sys, S.k1, S.kM, S.m1, S.m5, by omega⟩
theorem AnyM.below (S : AnyM b3 TM T2 T1 M wq A1 m c1 zss K) (B : Below wq.heap.size wq w2) : AnyM b3 TM T2 T1 M w2 A1 m c1 zss K := by
  have h3 := S.hz
  have h4 := B.size
  exact ⟨(B.block _ (by omega)).trans S.gm, (S.own.below B (Nat.le_refl _)).more (Nat.le_refl _) h4, S.sys, S.k1, S.kM, S.m1, S.m5, by omega⟩
theorem AnyM.cellM (S : AnyM b3 TM T2 T1 M wq A1 m c1 zss K) : wq.cell? ⟨b3 + 1, 0, none⟩ = some (.slice A1 m c1) := by rw [cell_of_row _ _ _ _ _ _ S.gm]; rfl
theorem AnyM.frzM (S : AnyM b3 TM T2 T1 M wq A1 m c1 zss K) : wq.frozen? ⟨b3 + 1, 0, none⟩ = false := frozen_of_row _ _ _ _ _ S.gm
/-- another maniplex is stored -/
theorem AnyM.set {A2 : Option Addr} {m2 c2 lo2 : Nat} {yss : List (List Int)} {K2 : Nat} {cs : Array Value} (hg : w2.heap[b3 + 1]? = some (.cells cs TM (0, 0))) (hc : cs.size = 1) (o : OwnS w2 lo2 w2.heap.size T2 T1 A2 m2 c2 yss) (hlo : b3 + 2 ≤ lo2) (hs : SysOf yss (2 * K2)) (k1 : 1 ≤ K2) (kM : 2 * K2 ≤ M) (m1 : 1 ≤ m2) (m5 : m2 ≤ 5) (hz : b3 + 2 ≤ w2.heap.size) :
    AnyM b3 TM T2 T1 M (w2.setCell ⟨b3 + 1, 0, none⟩ (.slice A2 m2 c2)) A2 m2 c2 yss K2 := by
  obtain ⟨⟨x⟩⟩ := cs
  · simp at hc
  rename_i x t
  obtain rfl : t = [] := by simpa using hc
  have := heap_setCell_same _ _ 0 _ _ (Value.slice A2 m2 c2) hg
  refine ⟨by simpa using this, ((o.keep (same_set _ _ _ _ _ (.inl (by simp; omega)))).more hlo (by simp)), hs, k1, kM, m1, m5, by simpa using hz⟩
end
section
variable {w : World} {lo g b3 : Nat} {TS TM T2 T1 : TypeId} {A : Option Addr} {n c : Nat} {bs : List Int} {wq : World}
theorem AnyS.retE (S : AnyS w lo g b3 TS TM T2 T1 A n c bs wq) (he : SysOf [[1, 0]] 2) {M : Nat} (hM : 8 ≤ M) (v : Value) : DrawnM w (wq.setCell ⟨w.heap.size, 0, none⟩ v) lo g TS T2 T1 A n c bs M (some ⟨w.heap.size + 1 + 1, 0, none⟩) 1 1 := by
  obtain ⟨i, h, s⟩ := S.src
  have h1 := S.hb
  have h2 := S.hg
  have h3 := s.above
  have h4 := S.size
  exact ⟨_, 1, i, h, (S.eo.keep (same_set _ _ _ _ _ (.inl (by simp)))).more (by omega) (by simp; omega), he, by omega, by omega, by omega, by omega, s.far (by simp; omega) (by simp; omega) _, S.chg.setNew (by simp) _⟩
theorem AnyS.ret (S : AnyS w lo g b3 TS TM T2 T1 A n c bs wq) {M : Nat} {A1 : Option Addr} {m c1 : Nat} {zss : List (List Int)} {K : Nat} (N : AnyM b3 TM T2 T1 M wq A1 m c1 zss K) (v : Value) : DrawnM w (wq.setCell ⟨w.heap.size, 0, none⟩ v) lo g TS T2 T1 A n c bs M A1 m c1 := by
  obtain ⟨i, h, s⟩ := S.src
  have h1 := S.hb
  have h2 := S.hg
  have h3 := s.above
  have h4 := S.size
  exact ⟨zss, K, i, h, (N.own.keep (same_set _ _ _ _ _ (.inl (by simp; omega)))).more (by omega) (by simp), N.sys, N.k1, N.kM, N.m1, N.m5, s.far (by simp; omega) (by simp; omega) _, S.chg.setNew (by simp) _⟩
end
theorem edge_sys : SysOf [[1, 0]] 2 := by
  intro p hp
  obtain rfl := List.mem_singleton.1 hp
  refine ⟨fun x hx => ?_, by decide, rfl⟩
  simp at hx
  rcases hx with rfl | rfl <;> omega
theorem next_one (w : World) (lo g : Nat) (A : Option Addr) (n c : Nat) (bs : List Int) (i h : Nat) (s : Src w lo g 53 A n c bs i h) (r : Nat) (h1 : 1 ≤ r) (hx : r ≤ 400) :
    Calls Tryz.prog 21 #[.pointer (some ⟨g, 0, none⟩), .int .i64 (r : Int)] w fun e w' => ∃ (v p i' h' : Nat), e = .returned (.int .i64 v) ∧ (1 : Int) + (v : Int) = (p : Int) ∧ 1 ≤ p ∧ p ≤ r ∧ Src w' lo g 53 A n c bs i' h' ∧ Chg g (g + 1) w w' := by
  refine (next_nat w lo g A n c bs i h s (r : Int) (by omega) (by omega)).mono ?_
  rintro e w' ⟨v, rfl, hv, i', h', s', C⟩
  exact ⟨v, 1 + v, i', h', rfl, by omega, by omega, by omega, s', C⟩
set_option maxHeartbeats 8000000 in
theorem l02Any_any (w : World) (lo g : Nat) (A : Option Addr) (n c : Nat) (bs : List Int) (i h : Nat) (s : Src w lo g 53 A n c bs i h) (M : Nat) (hM8 : 8 ≤ M) (hM4 : M ≤ 400) :
    Calls Tryz.prog 44 #[.pointer (some ⟨g, 0, none⟩), .int .i64 (M : Int)] w fun e w' => ∃ (A1 : Option Addr) (m c1 : Nat), e = .returned (.agg #[.slice A1 m c1]) ∧ DrawnM w w' lo g 53 46 2 A n c bs M A1 m c1 := by
  have hgl := s.lt
  go_enter Tryz.func44, Tryz.ntmps44
  go_wp2_with fail
  obtain ⟨b3, hb3⟩ : ∃ b3, w.heap.size + 1 + 1 + 1 = b3 := ⟨_, rfl⟩
  rw [hb3]
  obtain ⟨W0, hW⟩ : ∃ W0 : World, (((((w.alloc (.cells #[.slice none 0 0] 26)).alloc (.cells #[.int .i64 1, .int .i64 0] 2)).alloc (.cells #[.slice (some ⟨w.heap.size + 1, 0, none⟩) 2 2] 46)).alloc (.cells #[.slice (some ⟨w.heap.size + 1 + 1, 0, none⟩) 1 1] 26)).alloc (.cells #[.slice (some ⟨w.heap.size + 1 + 1, 0, none⟩) 1 1] 26)) = W0 := ⟨_, rfl⟩
  have S0 : AnyS w lo g b3 53 26 46 2 A n c bs W0 := by
    subst hb3
    rw [← hW]
    have E1 := World.ownsRow_lit (e := 2) (base := w.heap.size + 1) (size := 1) (w.alloc (.cells #[.slice none 0 0] 26)) #[.int .i64 1, .int .i64 0] 2 (by simp) (by simp only [maxLen]; omega) rfl
    have E2 := World.ownsRow_lit (e := 46) (base := w.heap.size + 1) (size := 1) ((w.alloc (.cells #[.slice none 0 0] 26)).alloc (.cells #[.int .i64 1, .int .i64 0] 2)) #[.slice (some ⟨w.heap.size + 1, 0, none⟩) 2 2] 1 (by simp) (by simp only [maxLen]; omega) rfl
    have z1 : (w.alloc (.cells #[.slice none 0 0] 26)).heap.size = w.heap.size + 1 := by simp
    have z2 : ((w.alloc (.cells #[.slice none 0 0] 26)).alloc (.cells #[.int .i64 1, .int .i64 0] 2)).heap.size = w.heap.size + 1 + 1 := by simp
    rw [z1] at E1
    rw [z2] at E2
    have o1 := Own.of_row E1
    have o2 := Own.of_row E2
    have B : Below w.heap.size w (((((w.alloc (.cells #[.slice none 0 0] 26)).alloc (.cells #[.int .i64 1, .int .i64 0] 2)).alloc (.cells #[.slice (some ⟨w.heap.size + 1, 0, none⟩) 2 2] 46)).alloc (.cells #[.slice (some ⟨w.heap.size + 1 + 1, 0, none⟩) 1 1] 26)).alloc (.cells #[.slice (some ⟨w.heap.size + 1 + 1, 0, none⟩) 1 1] 26)) := ((((((Below.refl _ _).alloc (Nat.le_refl _) _).alloc (by simp) _).alloc (by simp; omega) _).alloc (by simp; omega) _).alloc (by simp; omega) _)
    refine ⟨rfl, hgl, ?_, ?_, ⟨[.slice (some ⟨w.heap.size + 1, 0, none⟩) 2 2], ?_, ?_⟩, ⟨i, h, s.below B hgl⟩, Chg.of_below _ _ B, by simp⟩
    · exact (Below.heap_alloc _ _ _ (by simp; omega)).trans ((Below.heap_alloc _ _ _ (by simp; omega)).trans ((Below.heap_alloc _ _ _ (by simp; omega)).trans ((Below.heap_alloc _ _ _ (by simp)).trans (heap_new _ _ _ rfl))))
    · exact (Below.heap_alloc _ _ _ (by simp)).trans (heap_new _ _ _ (by simp))
    · exact ((o2.keep (same_alloc _ _ _ _ (by first | (simp; done) | (simp; omega)))).keep (same_alloc _ _ _ _ (by first | (simp; done) | (simp; omega)))).more (Nat.le_refl _) (by simp)
    · have r1 : RowsOwn ((w.alloc (.cells #[.slice none 0 0] 26)).alloc (.cells #[.int .i64 1, .int .i64 0] 2)) (w.heap.size + 1) (w.heap.size + 1 + 1) 2 [.slice (some ⟨w.heap.size + 1, 0, none⟩) 2 2] [[1, 0]] := RowsOwn.snoc (hi := w.heap.size + 1) (hi' := w.heap.size + 1 + 1) (vs := []) (xss := []) (xs := [1, 0]) RowsOwn.nil (by simpa using o1) (Nat.le_refl _) (by omega)
      exact ((((r1.keep (same_alloc _ _ _ _ (by first | (simp; done) | (simp; omega)))).keep (same_alloc _ _ _ _ (by first | (simp; done) | (simp; omega)))).keep (same_alloc _ _ _ _ (by first | (simp; done) | (simp; omega))))).more (Nat.le_refl _) (by omega)
  have G0 : W0.heap[b3 + 1]? = some (.cells #[.slice (some ⟨w.heap.size + 1 + 1, 0, none⟩) 1 1] 26 (0, 0)) := by rw [← hW]; exact heap_new _ _ _ (by simp; omega)
  rw [hW]
  clear hW
  have hb : w.heap.size + 3 ≤ b3 ∧ b3 ≤ w.heap.size + 3 := by have := S0.hb; omega
  clear hb3
  obtain ⟨i0, h0, s0⟩ := S0.src
  have hn := next_any W0 lo g A n c bs i0 h0 s0 7 (by omega) (by omega)
  ((with_reducible refine hn.mono ?_); rintro e w2 ⟨v, i2, rfl, P⟩)
  have v0 := P.ge
  have v7 := P.lt
  have S2 := S0.step P.src P.chg
  have hz2 := S2.size
  have G2 := (P.chg.block (b3 + 1) (by have := S0.size; omega) (by omega)).trans G0
  obtain ⟨i2', h2', s2⟩ := S2.src
  clear hn P s0 G0 S0 s
  have hz2 := S2.size
  have D3 := S2.cellE
  have D4 : w2.cell? ⟨b3 + 1, 0, none⟩ = some (.slice (some ⟨w.heap.size + 1 + 1, 0, none⟩) 1 1) := by rw [cell_of_row _ _ _ _ _ _ G2]; rfl
  have F4 : w2.frozen? ⟨b3 + 1, 0, none⟩ = false := frozen_of_row _ _ _ _ _ G2
  have D0 := S2.cell0
  have F0 := S2.frz0
  obtain ⟨M2, hM2⟩ : ∃ M2 : Nat, Int.tdiv (M : Int) 2 = (M2 : Int) := ⟨M / 2, rfl⟩
  obtain ⟨M4, hM4'⟩ : ∃ M4 : Nat, Int.tdiv (M : Int) 4 = (M4 : Int) := ⟨M / 4, rfl⟩
  have hM2b : 2 * M2 ≤ M ∧ 4 ≤ M2 := by
    have : (M2 : Int) = ((M / 2 : Nat) : Int) := hM2.symm
    omega
  have hM4b : 4 * M4 ≤ M ∧ 2 ≤ M4 := by
    have : (M4 : Int) = ((M / 4 : Nat) : Int) := hM4'.symm
    omega
  go_upto_block 0 with fail
  go_cut [] from 7 to 62 (fun wx => ∃ (A1 : Option Addr) (m c1 : Nat) (zss : List (List Int)) (K : Nat), AnyS w lo g b3 53 26 46 2 A n c bs wx ∧ AnyM b3 26 46 2 M wx A1 m c1 zss K)
  case first =>
    have hcase : v = 0 ∨ v = 1 ∨ v = 2 ∨ v = 3 ∨ 4 ≤ v := by omega
    rcases hcase with rfl | rfl | rfl | rfl | hv4
    · clear D3 D4 F4 D0 F0
      have hn3 := next_nat w2 lo g A n c bs _ _ s2 (M2 : Int) (by omega) (by omega)
      go_wp2_with fail
      ((with_reducible refine hn3.mono ?_); rintro e w3 ⟨u, rfl, hu3, i3, h3, s3, C3⟩)
      have S3 := S2.step s3 C3
      clear hn3
      have hu3 : u + 1 ≤ M2 := by omega
      obtain ⟨p, hp⟩ : ∃ p : Nat, (1 : Int) + (u : Int) = (p : Int) := ⟨1 + u, by omega⟩
      have hp1 : 1 ≤ p ∧ p ≤ M2 := by omega
      have G3 := (C3.block (b3 + 1) (by omega) (by omega)).trans G2
      have hz3 := S3.size
      go_wp2_with fail
      ((with_reducible refine (l02Polygon_any p (by omega) (by omega) w3).mono ?_); rintro e w4 ⟨A4, c4, rfl, o4, f4⟩)
      have S4 := S3.below f4
      have hz4 := S4.size
      have G4 := (f4.block (b3 + 1) (by omega)).trans G3
      have D4 : w4.cell? ⟨b3 + 1, 0, none⟩ = some (.slice (some ⟨w.heap.size + 1 + 1, 0, none⟩) 1 1) := by rw [cell_of_row _ _ _ _ _ _ G4]; rfl
      have F4 : w4.frozen? ⟨b3 + 1, 0, none⟩ = false := frozen_of_row _ _ _ _ _ G4
      go_wp2_with fail
      go_meet
      exact ⟨_, _, _, _, p, S4.setM _, AnyM.set G4 rfl o4 (by have := S3.size; omega) (ply_sys (by omega)) (by omega) (by omega) (by omega) (by omega) hz4⟩
    · have g9 := heap_setCell_same _ _ 0 _ _ (Value.slice (some ⟨w.heap.size + 1 + 1, 0, none⟩) 1 1) S2.g0
      go_wp2_with fail
      (try simp only [Exit.inBlock, Exit.then])
      refine bodyPost_ret (v := .agg #[.slice (some ⟨w.heap.size + 1 + 1, 0, none⟩) 1 1]) ?_ rfl ?_
      · exact results_cell_row rfl _ _ w.heap.size 26 #[.slice (some ⟨w.heap.size + 1 + 1, 0, none⟩) 1 1] (0, 0) _ rfl (by simpa using g9) Tryz.underlying26 rfl (by kernel_rfl)
      · exact ⟨_, _, _, rfl, S2.retE edge_sys hM8 _⟩
    · clear D3 D4 F4 D0 F0
      have hn3 := next_nat w2 lo g A n c bs _ _ s2 (M4 : Int) (by omega) (by omega)
      go_wp2_with fail
      ((with_reducible refine hn3.mono ?_); rintro e w3 ⟨u, rfl, hu3, i3, h3, s3, C3⟩)
      have S3 := S2.step s3 C3
      clear hn3
      have hu3 : u + 1 ≤ M4 := by omega
      obtain ⟨p, hp⟩ : ∃ p : Nat, (1 : Int) + (u : Int) = (p : Int) := ⟨1 + u, by omega⟩
      have hp1 : 1 ≤ p ∧ p ≤ M4 := by omega
      have G3 := (C3.block (b3 + 1) (by omega) (by omega)).trans G2
      have hz3 := S3.size
      go_wp2_with fail
      ((with_reducible refine (l02Polygon_any p (by omega) (by omega) w3).mono ?_); rintro e w4 ⟨A4, c4, rfl, o4, f4⟩)
      have S4 := S3.below f4
      have hz4 := S4.size
      have G4 := (f4.block (b3 + 1) (by omega)).trans G3
      have D4 : w4.cell? ⟨b3 + 1, 0, none⟩ = some (.slice (some ⟨w.heap.size + 1 + 1, 0, none⟩) 1 1) := by rw [cell_of_row _ _ _ _ _ _ G4]; rfl
      have F4 : w4.frozen? ⟨b3 + 1, 0, none⟩ = false := frozen_of_row _ _ _ _ _ G4
      have S5 := S4.setM (.slice A4 2 c4)
      have N5 : AnyM b3 26 46 2 M (w4.setCell ⟨b3 + 1, 0, none⟩ (.slice A4 2 c4)) A4 2 c4 _ p := AnyM.set G4 rfl o4 (by have := S3.size; omega) (ply_sys (by omega)) (by omega) (by omega) (by omega) (by omega) hz4
      obtain ⟨pss, hpss⟩ : ∃ pss, [(List.range (2 * p)).map plyA, (List.range (2 * p)).map (plyB (2 * p))] = pss := ⟨_, rfl⟩
      rw [hpss] at N5
      have E3 := S5.cellE
      have E4 := N5.cellM
      go_wp2_with fail
      obtain ⟨w5, hw5⟩ : ∃ w5, w4.setCell ⟨b3 + 1, 0, none⟩ (.slice A4 2 c4) = w5 := ⟨_, rfl⟩
      rw [hw5] at S5 N5 E3 E4 ⊢
      clear hw5
      have hz5 := S5.size
      ((with_reducible refine (l02Beside_any A4 2 c4 pss _ 1 1 [[1, 0]] w5 N5.own.rs (Nat.le_refl _) S5.eo.rs (by omega) (by omega) (by omega) (by omega) (2 * p) 2 N5.sys edge_sys (by omega) (by omega) (by omega)).mono ?_); rintro e w6 ⟨A6, c6, rfl, o6, f6⟩)
      have S6 := S5.below f6
      have N6 := N5.below f6
      have E4 := N6.cellM
      have F4 := N6.frzM
      have hys : SysOf (besL pss [[1, 0]] (2 * p) 2) (2 * (2 * p)) := by
        have := bes_sys N5.sys edge_sys
        rwa [Nat.mul_comm (2 * p) 2] at this
      go_wp2_with fail
      go_meet
      exact ⟨_, _, _, _, 2 * p, S6.setM _, AnyM.set N6.gm rfl o6 (by omega) hys (by omega) (by omega) (by omega) (by omega) S6.size⟩
    · clear D3 D4 F4 D0 F0
      have hn3 := next_nat w2 lo g A n c bs _ _ s2 4 (by omega) (by omega)
      go_wp2_with fail
      ((with_reducible refine hn3.mono ?_); rintro e w3 ⟨u, rfl, hu3, i3, h3, s3, C3⟩)
      have S3 := S2.step s3 C3
      clear hn3
      have hu3 : u ≤ 3 := by omega
      obtain ⟨p, hp⟩ : ∃ p : Nat, (1 : Int) + (u : Int) = (p : Int) := ⟨1 + u, by omega⟩
      have hp1 : 1 ≤ p ∧ p ≤ 4 := by omega
      have G3 := (C3.block (b3 + 1) (by omega) (by omega)).trans G2
      have hz3 := S3.size
      obtain ⟨p4, hp4⟩ : ∃ p4 : Nat, (4 : Int) * (p : Int) = (p4 : Int) := ⟨4 * p, by omega⟩
      go_upto_if 51 with fail
      go_cut [7] from 44 to 51 (fun v7 wx => ∃ q : Nat, v7 = .int .i64 q ∧ 1 ≤ q ∧ 4 * q ≤ M ∧ q ≤ 4 ∧ wx = w3)
      case first =>
        by_cases hq : M < p4
        · have d1 : decide ((M : Int) < (p4 : Int)) = true := by simp; omega
          go_wp2_with fail
          go_meet
          exact ⟨2, rfl, by omega, by omega, by omega, rfl⟩
        · have d1 : decide ((M : Int) < (p4 : Int)) = false := by simp; omega
          go_wp2_with fail
          go_meet
          exact ⟨p, rfl, by omega, by omega, by omega, rfl⟩
      case rest =>
        obtain ⟨q, rfl, hq1, hq2, hq4, rfl⟩ := hcut
        clear hp4 hp hp1 hM2 hM2b hM4'
        obtain ⟨q4, hq4'⟩ : ∃ q4 : Nat, (4 : Int) * (q : Int) = (q4 : Int) := ⟨4 * q, by omega⟩
        have hq4v : q4 = 4 * q := by omega
        obtain ⟨r, hr⟩ : ∃ r : Nat, Int.tdiv (M : Int) (q4 : Int) = (r : Int) := ⟨M / q4, rfl⟩
        have hrv : M / q4 = r := Int.ofNat.inj hr
        have hr1 : 1 ≤ r := by rw [← hrv]; exact Nat.div_pos (by omega) (by omega)
        have hrM : r * q4 ≤ M := by rw [← hrv]; exact Nat.div_mul_le_self M q4
        have hr4 : r ≤ M := Nat.le_trans (Nat.le_mul_of_pos_right r (by omega)) hrM
        have hpos : (0 : Int) < (q4 : Int) := by omega
        have hq0 : ¬ q4 = 0 := by omega
        have hwq : IntKind.i64.wrap (q4 : Int) = (q4 : Int) := by rw [IntKind.wrap_i64]; omega
        have hr2 : (M : Int) / (q4 : Int) = (r : Int) := by rw [← hrv]; simp
        have hwr : IntKind.i64.wrap (r : Int) = (r : Int) := by rw [IntKind.wrap_i64]; omega
        have S3d : AnyS w lo g b3 53 26 46 2 A n c bs wc.drew := S3.below (below_drw (Below.refl _ _))
        have G3d : wc.drew.heap[b3 + 1]? = some (.cells #[.slice (some ⟨w.heap.size + 1 + 1, 0, none⟩) 1 1] 26 (0, 0)) := G3
        have hz3d : b3 + 2 ≤ wc.drew.heap.size := hz3
        have hP2 : Hid (∀ p2, p2 ≤ r → 2 * p2 ≤ M) := Lib.hid (fun p2 hp => by
          have h1 := Nat.mul_le_mul_right q4 hp
          have h3 : p2 * 4 ≤ p2 * q4 := Nat.mul_le_mul_left p2 (by omega)
          omega)
        have hP3 : Hid (∀ p2, p2 ≤ r → 2 * q * (2 * p2) ≤ M) := Lib.hid (fun p2 hp => by
          have h1 := Nat.mul_le_mul_right q4 hp
          have h3 : 2 * q * (2 * p2) = p2 * q4 := by rw [hq4v, Nat.mul_comm (2 * q), Nat.mul_comm 2 p2, Nat.mul_assoc, ← Nat.mul_assoc 2 2 q]
          omega)
        have hPw : Hid (∀ p2, p2 ≤ r → IntKind.i64.wrap (p2 : Int) = (p2 : Int)) := Lib.hid (fun p2 hp => by rw [IntKind.wrap_i64]; omega)
        replace hrv := Lib.hid hrv
        replace hrM := Lib.hid hrM
        replace hq4v := Lib.hid hq4v
        replace S3d := Lib.hid S3d
        replace G3d := Lib.hid G3d
        clear S3 G3 s3 C3
        go_wp2_with fail
        go_region_law? (first
          | (refine step_call rfl 58 #[.int .i64 (q : Int)] (by go_simp) (l02Polygon_any q (by omega) (by omega) _) ?_; rintro e w6 ⟨A6, c6, rfl, o6, f6⟩; refine ⟨_, rfl, ?_⟩; have S6 := S3d.out.below f6; have G6 := (f6.block (b3 + 1) (by omega)).trans G3d.out; have hz6 := S6.size; obtain ⟨i6, h6, s6⟩ := S6.src; replace S6 := Lib.hid S6; replace G6 := Lib.hid G6)
          | (refine step_call rfl 21 #[.pointer (some ⟨g, 0, none⟩), .int .i64 (r : Int)] (by go_simp) (next_one _ lo g A n c bs _ _ s6 r (by omega) (by omega)) ?_; rintro e w7 ⟨u2, p2, i7, h7, rfl, hp2, hp20, hp21, s7, C7⟩; refine ⟨_, rfl, ?_⟩; have S7 := S6.out.step s7 C7; have G7 := (C7.block (b3 + 1) (by omega) (by omega)).trans G6.out; have hz7 := S7.size; have o6 := (o6.keep (Same.of_chg C7 (Nat.le_refl _) (.inr (by omega)))); have hz67 := C7.size; have hp2M := hP2.out p2 hp21; have hpq := hP3.out p2 hp21; have hwp2 := hPw.out p2 hp21; replace S7 := Lib.hid S7; replace G7 := Lib.hid G7)
          | (refine step_call rfl 58 #[.int .i64 (p2 : Int)] (by go_simp) (l02Polygon_any p2 (by omega) (by omega) _) ?_; rintro e w8 ⟨A8, c8, rfl, o8, f8⟩; refine ⟨_, rfl, ?_⟩; have S8 := S7.out.below f8; have G8 := (f8.block (b3 + 1) (by omega)).trans G7.out; have hz8 := S8.size; have o6 := o6.below f8 hz67; have hz78 := f8.size; replace S8 := Lib.hid S8; replace G8 := Lib.hid G8)
          | (refine step_call rfl 59 #[.agg #[.slice A6 2 c6], .agg #[.slice A8 2 c8]] (by go_simp) (l02Beside_any A6 2 c6 _ A8 2 c8 _ _ o6.rs (by omega) o8.rs (Nat.le_refl _) (by omega) (by omega) (by omega) (2 * q) (2 * p2) (ply_sys hq1) (ply_sys hp20) (by omega) (by omega) (by omega)) ?_; rintro e w9 ⟨A9, c9, rfl, o9, f9⟩; refine ⟨_, rfl, ?_⟩; have S9 := S8.out.below f9; have G9 := (f9.block (b3 + 1) (by omega)).trans G8.out; have F9 : w9.frozen? ⟨b3 + 1, 0, none⟩ = false := frozen_of_row _ _ _ _ _ G9; have D9 : w9.cell? ⟨b3 + 1, 0, none⟩ = some (.slice (some ⟨w.heap.size + 1 + 1, 0, none⟩) 1 1) := by { rw [cell_of_row _ _ _ _ _ _ G9]; rfl }; replace S9 := Lib.hid S9; replace G9 := Lib.hid G9))
        all_goals
          have hys : SysOf (besL [(List.range (2 * q)).map plyA, (List.range (2 * q)).map (plyB (2 * q))] [(List.range (2 * p2)).map plyA, (List.range (2 * p2)).map (plyB (2 * p2))] (2 * q) (2 * p2)) (2 * (q * (2 * p2))) := by
            have := bes_sys (ply_sys hq1) (ply_sys hp20)
            rwa [Nat.mul_assoc] at this
          rw [Nat.mul_assoc] at hpq
          have hK1 : 1 ≤ q * (2 * p2) := Nat.mul_pos (by omega) (by omega)
          go_wp2_with fail
          go_meet
          exact ⟨_, _, _, _, q * (2 * p2), S9.out.setM _, AnyM.set G9.out rfl o9 hz8 hys hK1 hpq (by omega) (by omega) S9.out.size⟩
    · clear D3 D4 F4 D0 F0
      have e0 : (v == 0) = false := by simp; omega
      have e1 : (v == 1) = false := by simp; omega
      have e2 : (v == 2) = false := by simp; omega
      have e3 : (v == 3) = false := by simp; omega
      have hn3 := next_nat w2 lo g A n c bs _ _ s2 (M4 : Int) (by omega) (by omega)
      go_wp2_with fail
      ((with_reducible refine hn3.mono ?_); rintro e w3 ⟨u, rfl, hu3, i3, h3, s3, C3⟩)
      have S3 := S2.step s3 C3
      clear hn3
      have hu3 : u + 1 ≤ M4 := by omega
      obtain ⟨p, hp⟩ : ∃ p : Nat, (1 : Int) + (u : Int) = (p : Int) := ⟨1 + u, by omega⟩
      have hp1 : 1 ≤ p ∧ p ≤ M4 := by omega
      have G3 := (C3.block (b3 + 1) (by omega) (by omega)).trans G2
      have hz3 := S3.size
      have hMp := l02Map_any w3 lo g A n c bs _ _ s3 p (by omega) (by omega)
      go_wp2_with fail
      ((with_reducible refine hMp.mono ?_); rintro e w4 ⟨A4, c4, zss, F, i4, h4, rfl, o4, hsF, hF1, hF2, ⟨K, rfl⟩, s4, C4⟩)
      have S4 := S3.step s4 C4
      have hz4 := S4.size
      have G4 := (C4.block (b3 + 1) (by omega) (by omega)).trans G3
      have D4 : w4.cell? ⟨b3 + 1, 0, none⟩ = some (.slice (some ⟨w.heap.size + 1 + 1, 0, none⟩) 1 1) := by rw [cell_of_row _ _ _ _ _ _ G4]; rfl
      have F4 : w4.frozen? ⟨b3 + 1, 0, none⟩ = false := frozen_of_row _ _ _ _ _ G4
      go_wp2_with fail
      go_meet
      exact ⟨_, _, _, _, K, S4.setM _, AnyM.set G4 rfl o4 (by have := S3.size; omega) hsF (by omega) (by omega) (by omega) (by omega) hz4⟩
  case rest =>
    obtain ⟨A1, m, c1, zss, K, S, N⟩ := hcut
    replace S := Lib.hid S
    replace N := Lib.hid N
    clear S2 G2 s2 D3 D4 F4 D0 F0 hz2
    go_wp2_with fail
    go_loopw [] (fun wq => ∃ (A1 : Option Addr) (m c1 : Nat) (zss : List (List Int)) (K : Nat), Hid (AnyS w lo g b3 53 26 46 2 A n c bs wq) ∧ Hid (AnyM b3 26 46 2 M wq A1 m c1 zss K)) (fun wq => 5 - mLen wq (b3 + 1))
    case atStart => exact ⟨A1, m, c1, zss, K, S, N⟩
    case round =>
      clear S N
      clear A1 m c1 zss K
      obtain ⟨A1, m, c1, zss, K, S, N⟩ := hrel
      have D3 := S.out.cellE
      have D4 := N.out.cellM
      have D0 := S.out.cell0
      have F0 := S.out.frz0
      have m1 := N.out.m1
      have m5 := N.out.m5
      by_cases hm5 : m < 5
      · have d1 : decide ((m : Int) < 5) = true := by simp; omega
        obtain ⟨F, hF⟩ : ∃ F, 2 * K = F := ⟨_, rfl⟩
        have hfl : flg zss = F := by
          have hl := N.out.own.len
          obtain ⟨p, hp⟩ : ∃ p, zss[0]? = some p := ⟨_, List.getElem?_eq_getElem (by omega)⟩
          rw [flg_of hp, ← hF]
          exact (N.out.sys p (List.mem_of_getElem? hp)).2.2
        have hFM : F ≤ M := by have := N.out.kM; omega
        have hK1 := N.out.k1
        have hfa := hfl ▸ l02Flags_any A1 m c1 zss wr N.out.own.rs (Nat.le_refl _) (by omega)
        obtain ⟨F2, hF2⟩ : ∃ F2 : Nat, (F : Int) * 2 = (F2 : Int) := ⟨2 * F, by omega⟩
        by_cases hG : F2 ≤ M
        · have d2 : decide ((F2 : Int) ≤ (M : Int)) = true := by simp; omega
          go_wp2_with fail
          ((with_reducible refine hfa.mono ?_); rintro e w3 ⟨rfl, f3⟩)
          have S3 := S.out.below f3
          have N3 := N.out.below f3
          obtain ⟨i3, h3, s3⟩ := S3.src
          have hn4 := next_any w3 lo g A n c bs _ _ s3 3 (by omega) (by omega)
          clear hfa
          go_wp2_with fail
          ((with_reducible refine hn4.mono ?_); rintro e w4 ⟨v, i4, rfl, P4⟩)
          have S4 := S3.step P4.src P4.chg
          have N4 := N3.step (g := g) (by omega) P4.chg
          obtain ⟨i4', h4', s4⟩ := S4.src
          clear hn4 P4 s3
          by_cases hv0 : v = 0
          · subst hv0
            have hn5 := next_any w4 lo g A n c bs _ _ s4 2 (by omega) (by omega)
            go_wp2_with fail
            ((with_reducible refine hn5.mono ?_); rintro e w5 ⟨v2, i5, rfl, P5⟩)
            have S5 := S4.step P5.src P5.chg
            have N5 := N4.step (g := g) (by omega) P5.chg
            have hz5 := S5.size
            have E3 := S5.cellE
            have E4 := N5.cellM
            clear hn5 P5 s4 D3 D4 D0 F0
            have hsz : mLen wr (b3 + 1) = m := mLen_eq N.out.gm
            have hFF : F * 2 ≤ 400 := by omega
            have hsF : SysOf zss F := by rw [← hF]; exact N.out.sys
            by_cases hv2 : v2 = 0
            · subst hv2
              go_wp2_with fail
              ((with_reducible refine (l02Beside_any A1 m c1 zss _ 1 1 [[1, 0]] w5 N5.own.rs (Nat.le_refl _) S5.eo.rs (by omega) (by omega) (by omega) (by omega) F 2 hsF edge_sys (by omega) (by omega) hFF).mono ?_); rintro e w6 ⟨A6, c6, rfl, o6, f6⟩)
              have S6 := S5.below f6
              have N6 := N5.below f6
              have E4 := N6.cellM
              have F4 := N6.frzM
              have hys : SysOf (besL zss [[1, 0]] F 2) (2 * F) := by
                have := bes_sys hsF edge_sys
                rwa [Nat.mul_comm F 2] at this
              have N7 : AnyM b3 26 46 2 M (w6.setCell ⟨b3 + 1, 0, none⟩ (.slice A6 (m + 1) c6)) A6 (m + 1) c6 _ F := AnyM.set N6.gm rfl o6 (by omega) hys (by omega) (by omega) (by omega) (by omega) S6.size
              have hsz2 : mLen (w6.setCell ⟨b3 + 1, 0, none⟩ (.slice A6 (m + 1) c6)) (b3 + 1) = m + 1 := mLen_eq N7.gm
              have S7 := S6.setM (.slice A6 (m + 1) c6)
              replace S7 := Lib.hid S7
              replace N7 := Lib.hid N7
              go_wp2_with fail
              go_roundw
              case measure => simp only [hsz, hsz2]; omega
              case rel => exact ⟨_, _, _, _, F, S7, N7⟩
            · have dv : (v2 == 0) = false := by simpa using hv2
              go_wp2_with fail
              ((with_reducible refine (l02Beside_any _ 1 1 [[1, 0]] A1 m c1 zss w5 S5.eo.rs (by omega) N5.own.rs (Nat.le_refl _) (by omega) (by omega) (by omega) 2 F edge_sys hsF (by omega) (by omega) (by omega)).mono ?_); rintro e w6 ⟨A6, c6, rfl, o6, f6⟩)
              have S6 := S5.below f6
              have N6 := N5.below f6
              have E4 := N6.cellM
              have F4 := N6.frzM
              have hys : SysOf (besL [[1, 0]] zss 2 F) (2 * F) := bes_sys edge_sys hsF
              have N7 : AnyM b3 26 46 2 M (w6.setCell ⟨b3 + 1, 0, none⟩ (.slice A6 (1 + m) c6)) A6 (1 + m) c6 _ F := AnyM.set N6.gm rfl o6 (by omega) hys (by omega) (by omega) (by omega) (by omega) S6.size
              have hsz2 : mLen (w6.setCell ⟨b3 + 1, 0, none⟩ (.slice A6 (1 + m) c6)) (b3 + 1) = 1 + m := mLen_eq N7.gm
              have S7 := S6.setM (.slice A6 (1 + m) c6)
              replace S7 := Lib.hid S7
              replace N7 := Lib.hid N7
              go_wp2_with fail
              go_roundw
              case measure => simp only [hsz, hsz2]; omega
              case rel => exact ⟨_, _, _, _, F, S7, N7⟩
          · have dv : (v == 0) = false := by simpa using hv0
            have g9 := heap_setCell_same _ _ 0 _ _ (Value.slice A1 m c1) S4.g0
            have D4 := N4.cellM
            have D0 := S4.cell0
            have F0 := S4.frz0
            replace g9 := Lib.hid g9
            go_wp2_with fail
            (try simp only [Exit.inBlock, Exit.then])
            refine bodyPost_ret (v := .agg #[.slice A1 m c1]) ?_ rfl ?_
            · exact results_cell_row rfl _ _ w.heap.size 26 #[.slice A1 m c1] (0, 0) _ rfl (by simpa using g9.out) Tryz.underlying26 rfl (by kernel_rfl)
            · exact ⟨_, _, _, rfl, S4.ret N4 _⟩
        · have d2 : decide ((F2 : Int) ≤ (M : Int)) = false := by simp; omega
          go_wp2_with fail
          ((with_reducible refine hfa.mono ?_); rintro e w3 ⟨rfl, f3⟩)
          have S3 := S.out.below f3
          have N3 := N.out.below f3
          clear hfa
          have g9 := heap_setCell_same _ _ 0 _ _ (Value.slice A1 m c1) S3.g0
          have D4 := N3.cellM
          have D0 := S3.cell0
          have F0 := S3.frz0
          replace g9 := Lib.hid g9
          go_wp2_with fail
          (try simp only [Exit.inBlock, Exit.then])
          refine bodyPost_ret (v := .agg #[.slice A1 m c1]) ?_ rfl ?_
          · exact results_cell_row rfl _ _ w.heap.size 26 #[.slice A1 m c1] (0, 0) _ rfl (by simpa using g9.out) Tryz.underlying26 rfl (by kernel_rfl)
          · exact ⟨_, _, _, rfl, S3.ret N3 _⟩
      · have d1 : decide ((m : Int) < 5) = false := by simp; omega
        have g9 := heap_setCell_same _ _ 0 _ _ (Value.slice A1 m c1) S.out.g0
        have D4 := N.out.cellM
        have D0 := S.out.cell0
        have F0 := S.out.frz0
        replace g9 := Lib.hid g9
        go_wp2_with fail
        (try simp only [Exit.inBlock, Exit.then])
        refine bodyPost_ret (v := .agg #[.slice A1 m c1]) ?_ rfl ?_
        · exact results_cell_row rfl _ _ w.heap.size 26 #[.slice A1 m c1] (0, 0) _ rfl (by simpa using g9.out) Tryz.underlying26 rfl (by kernel_rfl)
        · exact ⟨_, _, _, rfl, S.out.ret N.out _⟩
end Go.Proofs.YtcjnhiglfkcmiaaGreatDoor
/- Dra -/
namespace Go.Proofs.YtcjnhiglfkcmiaaGreatDoor
open Go.RowKit
set_option linter.unusedVariables false
set_option maxRecDepth 100000
theorem ren_sys {xss : List (List Int)} {n : Nat} {p : List Int} (hs : SysOf xss n) (hp : isPermP p) (hl : p.length = n) : SysOf (xss.map (renL p)) n := by
  intro r hr
  obtain ⟨M, hM, rfl⟩ := List.mem_map.1 hr
  obtain ⟨m1, m2, m3⟩ := hs M hM
  have hMP : isPermP M := ⟨by have := hp.le; omega, by rw [m3]; exact m1, m2⟩
  have h1 := thenL_perm (invL_perm hp) hMP (by rw [invL_length]; omega)
  have h2 := thenL_perm h1 hp (by rw [thenL_length, invL_length])
  have h3 : (renL p M).length = n := by rw [renL_length]; exact hl
  refine ⟨fun x hx => ?_, h2.nd, h3⟩
  have := h2.rng x hx
  rwa [show (thenL (thenL (invL p) M) p).length = n from h3] at this
theorem perm_of_id {xs : List Int} {N : Nat} (h : xs.Perm (idL N)) (hN : N ≤ 400) : isPermP xs := by
  obtain ⟨h1, h2, h3, _⟩ := perm_id h
  exact ⟨by omega, by rw [h2]; exact h3, h1⟩
/-- the frame of a call that holds a drawn maniplex in the block b -/
structure DrS (w : World) (lo g b : Nat) (TS TM T2 T1 : TypeId) (A : Option Addr) (n c : Nat) (bs : List Int) (M : Nat) (wq : World) (A1 : Option Addr) (m c1 : Nat) (zss : List (List Int)) (K : Nat) : Prop where
  hg : g < w.heap.size
  hb : w.heap.size + 1 ≤ b
  g0 : wq.heap[w.heap.size]? = some (.cells #[.slice none 0 0] TM (0, 0))
  gm : wq.heap[b]? = some (.cells #[.slice A1 m c1] TM (0, 0))
  own : OwnS wq (w.heap.size + 1) b T2 T1 A1 m c1 zss
  sys : SysOf zss (2 * K)
  k1 : 1 ≤ K
  kM : 2 * K ≤ M
  m1 : 1 ≤ m
  m5 : m ≤ 5
  src : ∃ i h, Src wq lo g TS A n c bs i h
  chg : Chg g (g + 1) w wq
  size : b + 1 ≤ wq.heap.size
section
variable {w : World} {lo g b : Nat} {TS TM T2 T1 : TypeId} {A : Option Addr} {n c : Nat} {bs : List Int} {M : Nat} {wq w2 : World} {A1 : Option Addr} {m c1 : Nat} {zss : List (List Int)} {K : Nat}
theorem DrS.start {o : Obj} (ho : o = .cells #[.slice none 0 0] TM (0, 0)) (hg : g < w.heap.size) (D : DrawnM (w.alloc o) w2 lo g TS T2 T1 A n c bs M A1 m c1) : ∃ zss K, DrS w lo g w2.heap.size TS TM T2 T1 A n c bs M (w2.alloc (.cells #[.slice A1 m c1] TM)) A1 m c1 zss K := by
  subst ho
  obtain ⟨zss, K, i, h, o, hs, k1, kM, m1, m5, s, C⟩ := D
  have hz := C.size
  have e : (w.alloc (.cells #[.slice none 0 0] TM)).heap.size = w.heap.size + 1 := by simp
  rw [e] at o hz
  have B : Below w2.heap.size w2 (w2.alloc (.cells #[.slice A1 m c1] TM)) := (Below.refl _ _).alloc (Nat.le_refl _) _
  have C1 : Chg g (g + 1) w w2 := (Chg.of_below g (g + 1) ((Below.refl _ _).alloc (Nat.le_refl _) _)).trans C ⟨Nat.le_refl _, Nat.le_refl _⟩ ⟨Nat.le_refl _, Nat.le_refl _⟩
  refine ⟨zss, K, hg, hz, ?_, heap_new _ _ _ rfl, o.below B (Nat.le_refl _), hs, k1, kM, m1, m5, ⟨i, h, s.below B s.lt⟩, C1.trans_below B, by simp⟩
  exact (B.block _ (by omega)).trans ((C.block _ (by simp) (by omega)).trans (heap_new _ _ _ rfl))
theorem DrS.step (S : DrS w lo g b TS TM T2 T1 A n c bs M wq A1 m c1 zss K) {i h : Nat} (s : Src w2 lo g TS A n c bs i h) (C : Chg g (g + 1) wq w2) : DrS w lo g b TS TM T2 T1 A n c bs M w2 A1 m c1 zss K := by
  have h1 := S.hb
  have h2 := S.hg
  have h3 := S.size
  have h4 := C.size
  exact ⟨h2, h1, (C.block _ (by omega) (by omega)).trans S.g0, (C.block _ (by omega) (by omega)).trans S.gm, S.own.keep (Same.of_chg C (by omega) (.inr (by omega))), S.sys, S.k1, S.kM, S.m1, S.m5, ⟨_, _, s⟩, S.chg.trans C ⟨Nat.le_refl _, Nat.le_refl _⟩ ⟨Nat.le_refl _, Nat.le_refl _⟩, by omega⟩
theorem DrS.below (S : DrS w lo g b TS TM T2 T1 A n c bs M wq A1 m c1 zss K) (B : Below wq.heap.size wq w2) : DrS w lo g b TS TM T2 T1 A n c bs M w2 A1 m c1 zss K := by
  obtain ⟨i, h, s⟩ := S.src
  exact S.step (s.below B s.lt) (Chg.of_below _ _ B)
theorem DrS.cellM (S : DrS w lo g b TS TM T2 T1 A n c bs M wq A1 m c1 zss K) : wq.cell? ⟨b, 0, none⟩ = some (.slice A1 m c1) := by rw [cell_of_row _ _ _ _ _ _ S.gm]; rfl
theorem DrS.frzM (S : DrS w lo g b TS TM T2 T1 A n c bs M wq A1 m c1 zss K) : wq.frozen? ⟨b, 0, none⟩ = false := frozen_of_row _ _ _ _ _ S.gm
theorem DrS.cell0 (S : DrS w lo g b TS TM T2 T1 A n c bs M wq A1 m c1 zss K) : wq.cell? ⟨w.heap.size, 0, none⟩ = some (.slice none 0 0) := by rw [cell_of_row _ _ _ _ _ _ S.g0]; rfl
theorem DrS.frz0 (S : DrS w lo g b TS TM T2 T1 A n c bs M wq A1 m c1 zss K) : wq.frozen? ⟨w.heap.size, 0, none⟩ = false := frozen_of_row _ _ _ _ _ S.g0
theorem DrS.flg_ (S : DrS w lo g b TS TM T2 T1 A n c bs M wq A1 m c1 zss K) : flg zss = 2 * K := by
  have hl := S.own.len
  have := S.m1
  obtain ⟨p, hp⟩ : ∃ p, zss[0]? = some p := ⟨_, List.getElem?_eq_getElem (by omega)⟩
  rw [flg_of hp]
  exact (S.sys p (List.mem_of_getElem? hp)).2.2
theorem DrS.ret (S : DrS w lo g b TS TM T2 T1 A n c bs M wq A1 m c1 zss K) (v : Value) : DrawnM w (wq.setCell ⟨w.heap.size, 0, none⟩ v) lo g TS T2 T1 A n c bs M A1 m c1 := by
  obtain ⟨i, h, s⟩ := S.src
  have h1 := S.hb
  have h2 := S.hg
  have h3 := s.above
  have h4 := S.size
  exact ⟨zss, K, i, h, (S.own.keep (same_set _ _ _ _ _ (.inl (by simp)))).more (by omega) (by simp; omega), S.sys, S.k1, S.kM, S.m1, S.m5, s.far (by simp; omega) (by simp; omega) _, S.chg.setNew (by simp) _⟩
theorem DrS.ret2 (S : DrS w lo g b TS TM T2 T1 A n c bs M wq A1 m c1 zss K) {A2 : Option Addr} {c2 lo2 : Nat} {yss : List (List Int)} (o : OwnS wq lo2 wq.heap.size T2 T1 A2 m c2 yss) (hlo : b ≤ lo2) (hs : SysOf yss (2 * K)) (v : Value) : DrawnM w (wq.setCell ⟨w.heap.size, 0, none⟩ v) lo g TS T2 T1 A n c bs M A2 m c2 := by
  obtain ⟨i, h, s⟩ := S.src
  have h1 := S.hb
  have h2 := S.hg
  have h3 := s.above
  have h4 := S.size
  exact ⟨yss, K, i, h, (o.keep (same_set _ _ _ _ _ (.inl (by simp; omega)))).more (by omega) (by simp), hs, S.k1, S.kM, S.m1, S.m5, s.far (by simp; omega) (by simp; omega) _, S.chg.setNew (by simp) _⟩
end
set_option maxHeartbeats 8000000 in
theorem l02Draw_any (w : World) (lo g : Nat) (A : Option Addr) (n c : Nat) (bs : List Int) (i h : Nat) (s : Src w lo g 53 A n c bs i h) (M : Nat) (hM8 : 8 ≤ M) (hM4 : M ≤ 400) :
    Calls Tryz.prog 20 #[.pointer (some ⟨g, 0, none⟩), .int .i64 (M : Int)] w fun e w' => ∃ (A1 : Option Addr) (m c1 : Nat), e = .returned (.agg #[.slice A1 m c1]) ∧ DrawnM w w' lo g 53 46 2 A n c bs M A1 m c1 := by
  have hgl := s.lt
  have B1 : Below w.heap.size w (w.alloc (.cells #[.slice none 0 0] 26)) := (Below.refl _ _).alloc (Nat.le_refl _) _
  have hA := l02Any_any _ lo g A n c bs i h (s.below B1 hgl) M hM8 hM4
  go_enter Tryz.func20, Tryz.ntmps20
  go_wp2_with fail
  ((with_reducible refine hA.mono ?_); rintro e w2 ⟨A1, m, c1, rfl, D⟩)
  clear hA B1
  obtain ⟨zss, K, S⟩ := DrS.start rfl hgl D
  clear D
  go_wp2_with fail
  obtain ⟨b, hb⟩ : ∃ b, w2.heap.size = b := ⟨_, rfl⟩
  obtain ⟨w3, hw3⟩ : ∃ w3, w2.alloc (.cells #[.slice A1 m c1] 26) = w3 := ⟨_, rfl⟩
  rw [hw3] at S ⊢
  rw [hb] at S ⊢
  clear hw3 hb
  obtain ⟨i3, h3, s3⟩ := S.src
  have hn := next_any w3 lo g A n c bs _ _ s3 4 (by omega) (by omega)
  go_wp2_with fail
  ((with_reducible refine hn.mono ?_); rintro e w4 ⟨v, i4, rfl, P⟩)
  have v0 := P.ge
  have S4 := S.step P.src P.chg
  clear hn P S s3
  obtain ⟨i4', h4, s4⟩ := S4.src
  have D4 := S4.cellM
  have D0 := S4.cell0
  have F0 := S4.frz0
  by_cases hv : 0 < v
  · have d1 : decide ((0 : Int) < v) = true := by simp; omega
    have m1 := S4.m1
    have m5 := S4.m5
    obtain ⟨F, hF⟩ : ∃ F, 2 * K = F := ⟨_, rfl⟩
    have hFM := S4.kM
    rw [hF] at hFM
    have hfl : flg zss = F := S4.flg_.trans hF
    have hsF : SysOf zss F := by rw [← hF]; exact S4.sys
    have S4d : DrS w lo g b 53 26 46 2 A n c bs M w4.drew A1 m c1 zss K := S4.below (below_drw (Below.refl _ _))
    replace S4d := Lib.hid S4d
    replace hsF := Lib.hid hsF
    replace hF := Lib.hid hF
    have hb0 : w.heap.size + 1 ≤ b := S4.hb
    clear S4 s4
    go_wp2_with fail
    go_region_law? (first
      | (refine step_call rfl 25 #[.agg #[.slice A1 m c1]] (by go_simp) (hfl ▸ l02Flags_any A1 m c1 zss _ S4d.out.own.rs (by have := S4d.out.size; omega) (by omega)) ?_; rintro e w6 ⟨rfl, f6⟩; refine ⟨_, rfl, ?_⟩; have S6 := S4d.out.below f6; have E6 := S6.cellM; obtain ⟨i6, h6, s6⟩ := S6.src; replace S6 := Lib.hid S6)
      | (refine step_call rfl 46 #[.pointer (some ⟨g, 0, none⟩), .int .i64 (F : Int)] (by go_simp) (draw_any _ lo g A n c bs _ _ s6 F (by omega)) ?_; rintro e w7 ⟨A7, c7, rfl, i7, h7, xs, o7, hp7, s7, C7⟩; refine ⟨_, rfl, ?_⟩; have S7 := S6.out.step s7 C7; have E7 := S7.cellM; have hz6 := S6.out.size; replace S7 := Lib.hid S7; replace hp7 := Lib.hid hp7)
      | (refine step_call rfl 45 #[.agg #[.slice A1 m c1], .slice A7 F c7] (by go_simp) (l02Renumber_any A1 m c1 zss A7 F c7 xs _ S7.out.own.rs (by have := S7.out.size; omega) o7.ri (Nat.le_refl _) (by omega) hsF.out (perm_of_id hp7.out (by omega))) ?_; rintro e w8 ⟨A8, c8, rfl, o8, f8⟩; refine ⟨_, rfl, ?_⟩; have S8 := S7.out.below f8; have E8 := S8.cell0; have F8 := S8.frz0; have hz7 := S7.out.size; replace S8 := Lib.hid S8))
    all_goals
      have hys : SysOf (zss.map (renL xs)) (2 * K) := by
        rw [hF.out]
        exact ren_sys hsF.out (perm_of_id hp7.out (by omega)) (perm_id hp7.out).2.1
      have g9 := heap_setCell_same _ _ 0 _ _ (Value.slice A8 m c8) S8.out.g0
      replace g9 := Lib.hid g9
      replace hys := Lib.hid hys
      go_wp2_with fail
      (try simp only [Exit.inBlock, Exit.then])
      refine bodyPost_ret (v := .agg #[.slice A8 m c8]) ?_ rfl ?_
      · exact results_cell_row rfl _ _ w.heap.size 26 #[.slice A8 m c8] (0, 0) _ rfl (by simpa using g9.out) Tryz.underlying26 rfl (by kernel_rfl)
      · exact ⟨_, _, _, rfl, S8.out.ret2 o8 (by omega) hys.out _⟩
  · have d1 : decide ((0 : Int) < v) = false := by simp; omega
    have g9 := heap_setCell_same _ _ 0 _ _ (Value.slice A1 m c1) S4.g0
    replace g9 := Lib.hid g9
    go_wp2_with fail
    (try simp only [Exit.inBlock, Exit.then])
    refine bodyPost_ret (v := .agg #[.slice A1 m c1]) ?_ rfl ?_
    · exact results_cell_row rfl _ _ w.heap.size 26 #[.slice A1 m c1] (0, 0) _ rfl (by simpa using g9.out) Tryz.underlying26 rfl (by kernel_rfl)
    · exact ⟨_, _, _, rfl, S4.ret _⟩
end Go.Proofs.YtcjnhiglfkcmiaaGreatDoor
/- SpoP -/
namespace Go.Proofs.YtcjnhiglfkcmiaaGreatDoor
open Go.RowKit
set_option linter.unusedVariables false
set_option maxRecDepth 100000
/-- what the draw leaves: rows that are read, the source with another state -/
def SpoiltM (w w' : World) (lo g : Nat) (TS : TypeId) (A : Option Addr) (n c : Nat) (bs : List Int) (A1 : Option Addr) (m c1 : Nat) : Prop :=
  ∃ (zss : List (List Int)) (i' h' : Nat), RS w' w.heap.size w'.heap.size A1 m zss ∧ m ≤ c1 ∧ Src w' lo g TS A n c bs i' h' ∧ Chg g (g + 1) w w' ∧ m ≤ 6 ∧ ∀ xs ∈ zss, xs.length ≤ 401
/-- the frame alone -/
structure DrB (w : World) (lo g b : Nat) (TS TM : TypeId) (A : Option Addr) (n c : Nat) (bs : List Int) (wq : World) : Prop where
  hg : g < w.heap.size
  hb : w.heap.size + 1 ≤ b
  g0 : wq.heap[w.heap.size]? = some (.cells #[.slice none 0 0] TM (0, 0))
  src : ∃ i h, Src wq lo g TS A n c bs i h
  chg : Chg g (g + 1) w wq
  size : b + 1 ≤ wq.heap.size
/-- the frame and what the block b holds -/
structure SpS (w : World) (lo g b : Nat) (TS TM : TypeId) (A : Option Addr) (n c : Nat) (bs : List Int) (wq : World) (A1 : Option Addr) (m c1 : Nat) (zss : List (List Int)) : Prop where
  fr : DrB w lo g b TS TM A n c bs wq
  gm : wq.cell? ⟨b, 0, none⟩ = some (.slice A1 m c1)
  rs : RS wq (w.heap.size + 1) wq.heap.size A1 m zss
  cap : m ≤ c1
  lens : m ≤ 6 ∧ ∀ xs ∈ zss, xs.length ≤ 401
section
variable {w : World} {lo g b : Nat} {TS TM T2 T1 : TypeId} {A : Option Addr} {n c : Nat} {bs : List Int} {M : Nat} {wq w2 : World} {A1 : Option Addr} {m c1 : Nat} {zss : List (List Int)} {K : Nat}
theorem DrS.fr (S : DrS w lo g b TS TM T2 T1 A n c bs M wq A1 m c1 zss K) : DrB w lo g b TS TM A n c bs wq := ⟨S.hg, S.hb, S.g0, S.src, S.chg, S.size⟩
theorem OwnS.cap {w : World} {lo hi : Nat} {A : Option Addr} {n c : Nat} {xss : List (List Int)} (h : OwnS w lo hi T2 T1 A n c xss) : n ≤ c := by
  obtain ⟨vs, h1, _⟩ := h
  exact h1.cap
theorem DrS.lens (S : DrS w lo g b TS TM T2 T1 A n c bs M wq A1 m c1 zss K) (hM : M ≤ 400) : m ≤ 6 ∧ ∀ xs ∈ zss, xs.length ≤ 401 :=
  ⟨by have := S.m5; omega, fun xs hx => by have := (S.sys xs hx).2.2; have := S.kM; omega⟩
theorem DrS.sp (S : DrS w lo g b TS TM T2 T1 A n c bs M wq A1 m c1 zss K) (hM : M ≤ 400) : SpS w lo g b TS TM A n c bs wq A1 m c1 zss :=
  ⟨S.fr, S.cellM, (S.own.more (Nat.le_refl _) (by have := S.size; omega)).rs, S.own.cap, S.lens hM⟩
theorem DrB.step (S : DrB w lo g b TS TM A n c bs wq) {i h : Nat} (s : Src w2 lo g TS A n c bs i h) (C : Chg g (g + 1) wq w2) : DrB w lo g b TS TM A n c bs w2 := by
  have h1 := S.hb
  have h2 := S.hg
  have h3 := S.size
  have h4 := C.size
  exact ⟨h2, h1, (C.block _ (by omega) (by omega)).trans S.g0, ⟨_, _, s⟩, S.chg.trans C ⟨Nat.le_refl _, Nat.le_refl _⟩ ⟨Nat.le_refl _, Nat.le_refl _⟩, by omega⟩
theorem DrB.below (S : DrB w lo g b TS TM A n c bs wq) (B : Below wq.heap.size wq w2) : DrB w lo g b TS TM A n c bs w2 := by
  obtain ⟨i, h, s⟩ := S.src
  exact S.step (s.below B s.lt) (Chg.of_below _ _ B)
/-- a row of the call's own has grown or was written -/
theorem DrB.grown (S : DrB w lo g b TS TM A n c bs wq) {row : Option Nat} (hg : wq.grownBy w2 row) (hr : ∀ q, row = some q → w.heap.size + 1 ≤ q) : DrB w lo g b TS TM A n c bs w2 := by
  obtain ⟨i, h, s⟩ := S.src
  have h1 := S.hb
  have h2 := S.hg
  have h3 := S.size
  have h4 := hg.size
  have h5 := S.chg.size
  have hold : ∀ k, k < w.heap.size + 1 → w2.heap[k]? = wq.heap[k]? := fun k hk => hg.block k (by omega) (fun e => by have := hr k e.symm; omega)
  refine ⟨h2, h1, (hold _ (by omega)).trans S.g0, ⟨i, h, ?_⟩, ?_, by omega⟩
  · exact ⟨(hold g (by omega)).trans s.blk, s.above, s.code.keep fun k _ hk => hold k (by have := s.above; omega), s.byte, s.le, s.st⟩
  · exact ⟨hg.os.trans S.chg.os, hg.tape.trans S.chg.tape, hg.output.trans S.chg.output, by omega, fun k hk e => (hold k (by omega)).trans (S.chg.block k hk e)⟩
theorem DrB.setM (S : DrB w lo g b TS TM A n c bs wq) (v : Value) : DrB w lo g b TS TM A n c bs (wq.setCell ⟨b, 0, none⟩ v) := by
  obtain ⟨i, h, s⟩ := S.src
  have h1 := S.hb
  have h2 := S.hg
  have h3 := s.above
  exact ⟨h2, h1, (Below.heap_setCell _ _ _ _ (by simp; omega)).trans S.g0, ⟨_, _, s.far (by simp; omega) (by simp; omega) _⟩, S.chg.setNew (by simp; omega) _, by have := S.size; simpa using this⟩
theorem DrB.cell0 (S : DrB w lo g b TS TM A n c bs wq) : wq.cell? ⟨w.heap.size, 0, none⟩ = some (.slice none 0 0) := by rw [cell_of_row _ _ _ _ _ _ S.g0]; rfl
theorem DrB.frz0 (S : DrB w lo g b TS TM A n c bs wq) : wq.frozen? ⟨w.heap.size, 0, none⟩ = false := frozen_of_row _ _ _ _ _ S.g0
theorem SpS.ret (S : SpS w lo g b TS TM A n c bs wq A1 m c1 zss) (v : Value) : SpoiltM w (wq.setCell ⟨w.heap.size, 0, none⟩ v) lo g TS A n c bs A1 m c1 := by
  obtain ⟨i, h, s⟩ := S.fr.src
  have h2 := S.fr.hg
  have h3 := s.above
  obtain ⟨vs, r1, r2⟩ := S.rs
  have hs : Same (w.heap.size + 1) wq.heap.size wq (wq.setCell ⟨w.heap.size, 0, none⟩ v) := same_set _ _ _ _ _ (.inl (by simp))
  have hR : RS (wq.setCell ⟨w.heap.size, 0, none⟩ v) (w.heap.size + 1) wq.heap.size A1 m zss := ⟨vs, r1.keep hs, r2.keep hs⟩
  exact ⟨zss, i, h, hR.more (by omega) (by simp), S.cap, s.far (by simp; omega) (by simp; omega) _, S.fr.chg.setNew (by simp) _, S.lens⟩
theorem cell_set_same {w : World} {b : Nat} {T : TypeId} {u v : Value} (h : w.heap[b]? = some (.cells #[u] T (0, 0))) : (w.setCell ⟨b, 0, none⟩ v).cell? ⟨b, 0, none⟩ = some v := by
  have := heap_setCell_same _ _ 0 _ _ v h
  have h2 : (w.setCell ⟨b, 0, none⟩ v).heap[b]? = some (.cells #[v] T (0, 0)) := by simpa using this
  rw [cell_of_row _ _ _ _ _ _ h2]
  rfl
/-- the rows stay where the block b (of another type) is written -/
theorem own_setM {A2 : Option Addr} {m2 c2 lo2 hi2 : Nat} {yss : List (List Int)} {u : Value} (hne2 : T2 ≠ TM) (hne1 : T1 ≠ TM) (o : OwnS wq lo2 hi2 T2 T1 A2 m2 c2 yss) (h : wq.heap[b]? = some (.cells #[u] TM (0, 0))) (v : Value) : OwnS (wq.setCell ⟨b, 0, none⟩ v) lo2 hi2 T2 T1 A2 m2 c2 yss := by
  have ob : wq.ownsRow 0 TM 1 (.slice (some ⟨b, 0, none⟩) 1 1) 1 [u] := blk_own (vs := [u]) h rfl (Nat.zero_le _) (by simp only [maxLen]; omega)
  have hg := (ob.stored 0 v).2
  obtain ⟨vs, o1, o2⟩ := o
  exact ⟨vs, o1.kept_ty ob hne2 hg, o2.kept_ty ob hne1 hg⟩
/-- no rows -/
theorem DrS.sp2 (S : DrS w lo g b TS TM T2 T1 A n c bs M wq A1 m c1 zss K) : SpS w lo g b TS TM A n c bs ((wq.alloc (.cells #[] T2)).setCell ⟨b, 0, none⟩ (.slice (some ⟨wq.heap.size, 0, none⟩) 0 0)) (some ⟨wq.heap.size, 0, none⟩) 0 0 [] := by
  have B : Below wq.heap.size wq (wq.alloc (.cells #[] T2)) := (Below.refl _ _).alloc (Nat.le_refl _) _
  have S2 := S.below B
  refine ⟨S2.fr.setM _, cell_set_same S2.gm, ⟨[], ⟨by simp, by omega, fun h => absurd h (by omega)⟩, ⟨rfl, fun k v xs h => by simp at h⟩⟩, Nat.le_refl _, by simp⟩
/-- without the first row -/
theorem DrS.sp4 (S : DrS w lo g b TS TM T2 T1 A n c bs M wq A1 m c1 zss K) (hM : M ≤ 400) {bA : Nat} (hA : A1 = some ⟨bA, 0, none⟩) {A2 : Option Addr} {c2 : Nat} (h2 : 1 < m → A2 = some ⟨bA, 0 + 1, none⟩) (hc : m - 1 ≤ c2) : SpS w lo g b TS TM A n c bs (wq.setCell ⟨b, 0, none⟩ (.slice A2 (m - 1) c2)) A2 (m - 1) c2 (zss.drop 1) := by
  subst hA
  have hm := S.m1
  have hr := rs_sub S.own.rs (i := 1) (j := m) hm (Nat.le_refl _) (A' := A2) (fun h => h2 h)
  have hl := S.own.len
  rw [List.take_of_length_le (by rw [List.length_drop]; omega)] at hr
  obtain ⟨vs, r1, r2⟩ := hr
  have hs : Same (w.heap.size + 1) b wq (wq.setCell ⟨b, 0, none⟩ (.slice A2 (m - 1) c2)) := same_set _ _ _ _ _ (.inr (by simp))
  have hR : RS (wq.setCell ⟨b, 0, none⟩ (.slice A2 (m - 1) c2)) (w.heap.size + 1) b A2 (m - 1) (zss.drop 1) := ⟨vs, r1.keep hs, r2.keep hs⟩
  exact ⟨S.fr.setM _, cell_set_same S.gm, hR.more (Nat.le_refl _) (by have := S.size; simp; omega), hc, by have := (S.lens hM).1; omega, fun xs hx => (S.lens hM).2 xs (List.mem_of_mem_drop hx)⟩
/-- a number of the first row has been written -/
theorem DrS.sp0 (S : DrS w lo g b TS TM T2 T1 A n c bs M wq A1 m c1 zss K) (hM : M ≤ 400) (hne : T2 ≠ T1) {vs : List Value} {bR nR cR k : Nat} {ys : List Int} (hO : Own wq (w.heap.size + 1) b T2 A1 m c1 vs) (hR : RowsOwn wq (w.heap.size + 1) b T1 vs zss) (hv : vs[0]? = some (.slice (some ⟨bR, 0, none⟩) nR cR)) (hy : zss[0]? = some ys) (ho : Own wq (w.heap.size + 1) b T1 (some ⟨bR, 0, none⟩) nR cR (ys.map (Value.int .i64))) (y : Int) :
    SpS w lo g b TS TM A n c bs (wq.setCell ⟨bR, k, none⟩ (.int .i64 y)) A1 m c1 (zss.set 0 (ys.set k y)) := by
  have hg := (ho.1.stored k (.int .i64 y)).2
  have hb := (ho.1.lt bR rfl).1
  have hlt := ho.2 _ rfl
  have o1 := hO.kept_ty ho.1 hne hg
  have o2 := hR.upd hv (ho.setI (k := k) y) hg
  have hz := S.size
  refine ⟨S.fr.grown hg (fun q hq => by simp at hq; omega), ?_, (OwnS.more ⟨vs, o1, o2⟩ (Nat.le_refl _) (by simp; omega)).rs, S.own.cap, (S.lens hM).1, fun xs hx => by
    rcases List.mem_or_eq_of_mem_set hx with g | g
    · exact (S.lens hM).2 xs g
    · rw [g, List.length_set]; exact (S.lens hM).2 ys (mem_of_get? hy)⟩
  rw [cell_far_set _ _ _ _ (by simp at hlt; simp; omega)]
  exact S.cellM
/-- a row has been appended -/
theorem DrS.sp1 (S : DrS w lo g b TS TM T2 T1 A n c bs M wq A1 m c1 zss K) (hM : M ≤ 400) (hne : T2 ≠ T1) (hne2 : T2 ≠ TM) (hne1 : T1 ≠ TM) {vs : List Value} {lo6 hi6 F c6 c7 : Nat} {A6 A7 : Option Addr} {xs : List Int} {w7 : World} (hO : Own wq (w.heap.size + 1) b T2 A1 m c1 vs) (hR : RowsOwn wq (w.heap.size + 1) b T1 vs zss)
    (row : Own wq lo6 hi6 T1 A6 F c6 (xs.map (Value.int .i64))) (hF : F ≤ 400) (h6 : b ≤ lo6) (h67 : lo6 ≤ hi6) (hh6 : hi6 ≤ wq.heap.size) (ho : w7.ownsRow (w.heap.size + 1) T2 1 (.slice A7 (m + 1) c7) (m + 1) (vs ++ [.slice A6 F c6])) (hg : wq.grownBy w7 (Value.slice A1 m c1).ownBlock) :
    SpS w lo g b TS TM A n c bs (w7.setCell ⟨b, 0, none⟩ (.slice A7 (m + 1) c7)) A7 (m + 1) c7 (zss ++ [xs]) := by
  have hz := S.size
  have hb := S.hb
  have hz7 := hg.size
  have hrow : ∀ q, (Value.slice A1 m c1).ownBlock = some q → w.heap.size + 1 ≤ q ∧ q < b := by
    intro q hq
    have h1 := (hO.1.lt q hq).1
    rcases A1 with _ | a
    · simp [Value.ownBlock] at hq
    · have := hO.2 a rfl
      simp [Value.ownBlock] at hq
      omega
  have r1 := (hR.kept_ty hO.1 (fun e => hne e.symm) hg).more (Nat.le_refl _) h6
  have r2 := r1.snoc (row.kept_ty hO.1 (fun e => hne e.symm) hg) (by omega) h67
  have o7 := Own.of_row ho
  have gm7 := (hg.block b (by omega) (fun e => by have := (hrow b e.symm).2; omega)).trans S.gm
  have own7 : OwnS w7 (w.heap.size + 1) w7.heap.size T2 T1 A7 (m + 1) c7 (zss ++ [xs]) := ⟨_, o7, r2.more (Nat.le_refl _) (by omega)⟩
  have own8 := own_setM hne2 hne1 own7 gm7 (.slice A7 (m + 1) c7)
  exact ⟨(S.fr.grown hg (fun q hq => (hrow q hq).1)).setM _, cell_set_same gm7, (own8.more (Nat.le_refl _) (by simp)).rs, own7.cap, by have := S.m5; omega, fun ys hy => by
    rcases List.mem_append.1 hy with g | g
    · exact (S.lens hM).2 ys g
    · rw [List.mem_singleton.1 g, row.lenI]; omega⟩
/-- the first row has got one more -/
theorem DrS.sp3 {bA : Nat} (S : DrS w lo g b TS TM T2 T1 A n c bs M wq (some ⟨bA, 0, none⟩) m c1 zss K) (hM : M ≤ 400) (hne : T2 ≠ T1) {vs : List Value} {F c0 g4 c4 : Nat} {A0 : Option Addr} {ys : List Int} {x : Int} {w7 : World} (hO : Own wq (w.heap.size + 1) b T2 (some ⟨bA, 0, none⟩) m c1 vs) (hR : RowsOwn wq (w.heap.size + 1) b T1 vs zss)
    (hv : vs[0]? = some (.slice A0 F c0)) (hy : zss[0]? = some ys) (ho : w7.ownsRow (w.heap.size + 1) T1 1 (.slice (some ⟨g4, 0, none⟩) (F + 1) c4) (F + 1) ((ys ++ [x]).map (Value.int .i64))) (hg : wq.grownBy w7 (Value.slice A0 F c0).ownBlock) (hor : (Value.slice A0 F c0).ownBlock = some g4 ∨ b ≤ g4) :
    SpS w lo g b TS TM A n c bs (w7.setCell ⟨bA, 0, none⟩ (.slice (some ⟨g4, 0, none⟩) (F + 1) c4)) (some ⟨bA, 0, none⟩) m c1 (zss.set 0 (ys ++ [x])) := by
  have hz := S.size
  have hb := S.hb
  have hz7 := hg.size
  obtain ⟨A', n', c', e, r0⟩ := hR.2.2 0 _ ys hv hy
  injection e with e1 e2 e3
  subst e1; subst e2; subst e3
  have hrow : ∀ q, (Value.slice A0 F c0).ownBlock = some q → w.heap.size + 1 ≤ q ∧ q < b := by
    intro q hq
    have h1 := (r0.1.lt q hq).1
    rcases A0 with _ | a
    · simp [Value.ownBlock] at hq
    · have := r0.2 a rfl
      simp [Value.ownBlock] at hq
      omega
  have hbA := hO.2 _ rfl
  have hbA1 := (hO.1.lt bA rfl).1
  have r1 := hR.app hv hy ho hg hor (by omega)
  have o1 := hO.kept_ty r0.1 hne hg
  have hg2 := (o1.1.stored 0 (.slice (some ⟨g4, 0, none⟩) (F + 1) c4)).2
  have o2 := o1.set (k := 0) (.slice (some ⟨g4, 0, none⟩) (F + 1) c4)
  have r2 := r1.kept_ty o1.1 (fun e => hne e.symm) hg2
  have gm7 := (hg.block b (by omega) (fun e => by have := (hrow b e.symm).2; omega)).trans S.gm
  refine ⟨(S.fr.grown hg (fun q hq => (hrow q hq).1)).grown hg2 (fun q hq => by simp at hq; omega), ?_, (OwnS.more ⟨_, o2.more (Nat.le_refl _) (by omega), r2⟩ (Nat.le_refl _) (by simp)).rs, S.own.cap, (S.lens hM).1, fun xs hx => by
    rcases List.mem_or_eq_of_mem_set hx with g | g
    · exact (S.lens hM).2 xs g
    · rw [g, List.length_append]
      have := (S.sys ys (mem_of_get? hy)).2.2
      have := S.kM
      simp
      omega⟩
  rw [cell_far_set _ _ _ _ (by simp at hbA; simp; omega), cell_of_row _ _ _ _ _ _ gm7]
  rfl
end
end Go.Proofs.YtcjnhiglfkcmiaaGreatDoor
/- Spo -/
namespace Go.Proofs.YtcjnhiglfkcmiaaGreatDoor
open Go.RowKit
set_option linter.unusedVariables false
set_option maxRecDepth 100000
theorem Same.trans_ {lo hi : Nat} {a b c : World} (h : Same lo hi a b) (g : Same lo hi b c) : Same lo hi a c := fun k h1 h2 => (g k h1 h2).trans (h k h1 h2)
set_option maxHeartbeats 8000000 in
theorem l02Spoil_any (w : World) (lo g : Nat) (A : Option Addr) (n c : Nat) (bs : List Int) (i h : Nat) (s : Src w lo g 53 A n c bs i h) (M : Nat) (hM8 : 8 ≤ M) (hM4 : M ≤ 400) :
    Calls Tryz.prog 12 #[.pointer (some ⟨g, 0, none⟩), .int .i64 (M : Int)] w fun e w' => ∃ (A1 : Option Addr) (m c1 : Nat), e = .returned (.agg #[.slice A1 m c1]) ∧ SpoiltM w w' lo g 53 A n c bs A1 m c1 := by
  obtain ⟨j0, hj0, hy0, hy1, hy2⟩ := info_parts infoI
  obtain ⟨s0, hs0, hu0, hu1, hu2⟩ := info_parts infoS
  have hgl := s.lt
  have B1 : Below w.heap.size w (w.alloc (.cells #[.slice none 0 0] 26)) := (Below.refl _ _).alloc (Nat.le_refl _) _
  have hA := l02Draw_any _ lo g A n c bs i h (s.below B1 hgl) M hM8 hM4
  go_enter Tryz.func12, Tryz.ntmps12
  go_wp2_with fail
  ((with_reducible refine hA.mono ?_); rintro e w2 ⟨A1, m, c1, rfl, D⟩)
  clear hA B1
  obtain ⟨zss, K, S⟩ := DrS.start rfl hgl D
  clear D
  go_wp2_with fail
  obtain ⟨b, hb⟩ : ∃ b, w2.heap.size = b := ⟨_, rfl⟩
  obtain ⟨w3, hw3⟩ : ∃ w3, w2.alloc (.cells #[.slice A1 m c1] 26) = w3 := ⟨_, rfl⟩
  rw [hw3] at S ⊢
  rw [hb] at S ⊢
  clear hw3 hb
  have m1 := S.m1
  have m5 := S.m5
  obtain ⟨F, hF⟩ : ∃ F, 2 * K = F := ⟨_, rfl⟩
  have hFM := S.kM
  have hFK := S.k1
  have hFl : 2 ≤ F := by omega
  rw [hF] at hFM
  have hfl : flg zss = F := S.flg_.trans hF
  have hF400 : F ≤ 400 := by omega
  have D3 := S.cellM
  have hfa := hfl ▸ l02Flags_any A1 m c1 zss w3 S.own.rs (by have := S.size; omega) (by omega)
  go_wp2_with fail
  ((with_reducible refine hfa.mono ?_); rintro e w4 ⟨rfl, f4⟩)
  have S4 := S.below f4
  clear hfa S D3 f4
  obtain ⟨i4, h4, s4⟩ := S4.src
  have hn := next_any w4 lo g A n c bs _ _ s4 40 (by omega) (by omega)
  go_wp2_with fail
  ((with_reducible refine hn.mono ?_); rintro e w5 ⟨v, i5, rfl, P⟩)
  have v0 := P.ge
  have S5 := S4.step P.src P.chg
  clear hn P S4 s4
  obtain ⟨i5', h5, s5⟩ := S5.src
  have hb0 := S5.hb
  have hz5 := S5.size
  go_upto_block 0 with fail
  go_cut [] from 7 to 59 (fun wx => ∃ (A1 : Option Addr) (m c1 : Nat) (zss : List (List Int)), SpS w lo g b 53 26 A n c bs wx A1 m c1 zss)
  case first =>
    have hcase : v = 0 ∨ v = 1 ∨ v = 2 ∨ v = 3 ∨ v = 4 ∨ 5 ≤ v := by omega
    obtain ⟨vs, hO, hR⟩ := S5.own
    obtain ⟨bA, r, rfl, hbA0, hbA, _, hr0, -, hcA, hfA⟩ := hO.at_ (k := 0) (by omega)
    have hl := S5.own.len
    obtain ⟨ys, hy⟩ : ∃ ys, zss[0]? = some ys := ⟨_, List.getElem?_eq_getElem (by omega)⟩
    obtain ⟨A0, nR, cR, rfl, oR⟩ := hR.2.2 0 r ys hr0 hy
    obtain ⟨y1, y2, y3⟩ := S5.sys ys (List.mem_of_getElem? hy)
    obtain rfl : nR = F := by have := oR.lenI; omega
    have D4 := S5.cellM
    have F4 := S5.frzM
    have fA0 := hfA 0
    clear hfA
    have hm0 : 0 < m := by omega
    replace y1 := Lib.hid y1
    clear y2 y3
    replace hr0 := Lib.hid hr0
    replace hy := Lib.hid hy
    replace S5 := Lib.hid S5
    replace hO := Lib.hid hO
    replace hR := Lib.hid hR
    replace hl := Lib.hid hl
    replace hF := Lib.hid hF
    rcases hcase with rfl | rfl | rfl | rfl | rfl | hv5
    · obtain ⟨bR, x, rfl, hbR0, hbR, _, hx0, -, hcx, hfx⟩ := oR.at_ (k := 0) (by omega)
      have hNx : ∀ wq, Below w5.heap.size w5 wq → Calls Tryz.prog 21 #[.pointer (some ⟨g, 0, none⟩), .int .i64 (nR : Int)] wq fun e w' => ∃ (k i' h' : Nat), e = .returned (.int .i64 k) ∧ k < nR ∧ (0 : Int) ≤ (k : Int) ∧ (k : Int) < (nR : Int) ∧ Src w' lo g 53 A n c bs i' h' ∧ Chg g (g + 1) wq w' ∧ Chg g (g + 1) w5 w' := fun wq hq => by
        refine (next_nat wq lo g A n c bs _ _ (s5.below hq s5.lt) (nR : Int) (by omega) (by omega)).mono ?_
        rintro e w' ⟨v, rfl, hv, i', h', s', C⟩
        exact ⟨v, i', h', rfl, by omega, by omega, by omega, s', C, (Chg.of_below g (g + 1) hq).trans C ⟨Nat.le_refl _, Nat.le_refl _⟩ ⟨Nat.le_refl _, Nat.le_refl _⟩⟩
      have hPk : ∀ (wq : World) (z i h : Nat) (s : Src wq lo g 53 A n c bs i h) (hz : wq.heap[z]? = some (.cells #[.int .i64 (-1), .int .i64 (nR : Int), .int .i64 0] 2 (0, 0))) (hg : g < z) (C5 : Chg g (g + 1) w5 wq), Calls Tryz.prog 26 #[.pointer (some ⟨g, 0, none⟩), .slice (some ⟨z, 0, none⟩) 3 3] wq fun e w' => ∃ (i' h' : Nat) (y : Int), e = .returned (.int .i64 y) ∧ Src w' lo g 53 A n c bs i' h' ∧ Chg g (g + 1) w5 w' := fun wq z i h s hz hg C5 => by
        refine (pick_any wq lo g A n c bs i h s (some ⟨z, 0, none⟩) 3 3 [-1, (nR : Int), 0] (lo1 := z) (hi1 := z + 1) (Own.ri (T := 2) (c := 3) ⟨blk_own (vs := [.int .i64 (-1), .int .i64 (nR : Int), .int .i64 0]) hz rfl (Nat.le_refl _) (by simp only [maxLen]; omega), fun a e => by injection e with e; subst e; simp⟩) (.inr hg) (Array.getElem?_eq_some_iff.1 hz).1 (by omega) (by omega)).mono ?_
        rintro e w' ⟨v, i', h', y, rfl, _, s', C, _⟩
        exact ⟨i', h', y, rfl, s', C5.trans C ⟨Nat.le_refl _, Nat.le_refl _⟩ ⟨Nat.le_refl _, Nat.le_refl _⟩⟩
      have hCb : ∀ W, Chg g (g + 1) w5 W → W.cell? ⟨b, 0, none⟩ = some (.slice (some ⟨bA, 0, none⟩) m c1) := fun W C => (World.cell?_of_block (C.block b (by omega) (by omega))).trans D4
      have hCA : ∀ W, Chg g (g + 1) w5 W → W.cell? ⟨bA, 0, none⟩ = some (.slice (some ⟨bR, 0, none⟩) nR cR) := fun W C => (World.cell?_of_block (C.block bA (by omega) (by omega))).trans hcA
      have hCR : ∀ W k, Chg g (g + 1) w5 W → k < nR → W.cell? ⟨bR, k, none⟩ = some (.int .i64 (ys.getD k 0)) := fun W k C hk => (World.cell?_of_block (C.block bR (by omega) (by omega))).trans (oR.cellI (get?_getD 0 (by have := oR.lenI; omega)))
      have hFR : ∀ W k, Chg g (g + 1) w5 W → W.frozen? ⟨bR, k, none⟩ = false := fun W k C => ((oR.keep (Same.of_chg C (by omega) (.inr (by omega)))).frz k)
      have hAl : ∀ W o, Chg g (g + 1) w5 W → Chg g (g + 1) w5 (W.alloc o) := fun W o C => C.trans_below ((Below.refl _ _).alloc (Nat.le_refl _) _)
      have hA5 : ∀ o, Chg g (g + 1) w5 (w5.alloc o) := fun o => Chg.of_below _ _ ((Below.refl _ _).alloc (Nat.le_refl _) o)
      have b5 := hCb _ (hA5 (.cells #[.int .i64 (-1), .int .i64 (nR : Int), .int .i64 0] 2))
      have a5 := hCA _ (hA5 (.cells #[.int .i64 (-1), .int .i64 (nR : Int), .int .i64 0] 2))
      replace hNx := Lib.hid hNx
      replace hPk := Lib.hid hPk
      replace hCb := Lib.hid hCb
      replace hCA := Lib.hid hCA
      replace hCR := Lib.hid hCR
      replace hFR := Lib.hid hFR
      replace hAl := Lib.hid hAl
      replace hA5 := Lib.hid hA5
      clear hcx hfx hx0
      go_wp2_with fail
      go_region_law? (first
        | (refine step_call rfl 21 #[.pointer (some ⟨g, 0, none⟩), .int .i64 (nR : Int)] (by go_simp) (hNx.out _ (by first | exact below_drw (Below.refl _ _) | exact below_drw ((Below.refl _ _).alloc (Nat.le_refl _) _) | exact (below_drw (Below.refl _ _)).alloc (Nat.le_refl _) _)) ?_; rintro e w6 ⟨k, i6, h6, rfl, hk, hk0, hk1, s6, C6, C65⟩; refine ⟨_, rfl, ?_⟩; have b6 := hCb.out _ C65; have a6 := hCA.out _ C65; have b6a := hCb.out _ (hAl.out _ (.cells #[.int .i64 (-1), .int .i64 (nR : Int), .int .i64 0] 2) C65); have a6a := hCA.out _ (hAl.out _ (.cells #[.int .i64 (-1), .int .i64 (nR : Int), .int .i64 0] 2) C65); have hz65 := C65.size)
        | (refine step_call rfl 26 #[.pointer (some ⟨g, 0, none⟩), .slice (some ⟨w5.heap.size, 0, none⟩) 3 3] (by go_simp) (hPk.out w6 w5.heap.size i6 h6 s6 ((C6.block _ (by simp) (by omega)).trans (heap_new _ _ _ rfl)) (by omega) C65) ?_; rintro e w7 ⟨i7, h7, y, rfl, s7, C75⟩; refine ⟨_, rfl, ?_⟩; have c7 := hCR.out _ k C75 hk; have f7 := hFR.out _ k C75; have b7 := hCb.out _ C75; have a7 := hCA.out _ C75)
        | (refine step_call rfl 26 #[.pointer (some ⟨g, 0, none⟩), .slice (some ⟨w6.heap.size, 0, none⟩) 3 3] (by go_simp) (hPk.out _ w6.heap.size i6 h6 (s6.below (by first | exact below_drw ((Below.refl _ _).alloc (Nat.le_refl _) _) | exact (below_drw (Below.refl _ _)).alloc (Nat.le_refl _) _ | exact (Below.refl _ _).alloc (Nat.le_refl _) _) s6.lt) (heap_new _ _ _ rfl) (by omega) (hAl.out _ _ C65)) ?_; rintro e w7 ⟨i7, h7, y, rfl, s7, C75⟩; refine ⟨_, rfl, ?_⟩; have c7 := hCR.out _ k C75 hk; have f7 := hFR.out _ k C75; have b7 := hCb.out _ C75; have a7 := hCA.out _ C75))
      all_goals
        have S7 := S5.out.step s7 C75
        have hsm : Same (w.heap.size + 1) b w5 w7 := Same.of_chg C75 (by omega) (.inr (by omega))
        have hfin := S7.sp0 hM4 (by decide) (hO.out.keep hsm) (hR.out.keep hsm) hr0.out hy.out (oR.keep hsm) (k := k) y
        replace hfin := Lib.hid hfin
        replace S7 := Lib.hid S7
        clear C6 C65 s6 s7
        go_wp2_with fail
        go_meet
        exact ⟨_, _, _, _, hfin.out⟩
    · have hMt : ∀ wq, Below w5.heap.size w5 wq → Calls Tryz.prog 27 #[.pointer (some ⟨g, 0, none⟩), .int .i64 (nR : Int)] wq fun e w' => ∃ (A1 : Option Addr) (c1 lo6 i' h' : Nat) (xs : List Int), e = .returned (.slice A1 nR c1) ∧ Own w' lo6 w'.heap.size 2 A1 nR c1 (xs.map (Value.int .i64)) ∧ b ≤ lo6 ∧ lo6 ≤ w'.heap.size ∧ Src w' lo g 53 A n c bs i' h' ∧ Chg g (g + 1) w5 w' := fun wq hq => by
        have hm := matching_any wq lo g A n c bs _ _ (s5.below hq s5.lt) K (by have := hF.out; omega)
        rw [hF.out] at hm
        refine hm.mono ?_
        rintro e w' ⟨A1, c1, rfl, i', h', zs, o, _, s', C⟩
        have := hq.size
        have := C.size
        exact ⟨A1, c1, wq.heap.size, i', h', zs, rfl, o, by omega, by omega, s', (Chg.of_below g (g + 1) hq).trans C ⟨Nat.le_refl _, Nat.le_refl _⟩ ⟨Nat.le_refl _, Nat.le_refl _⟩⟩
      have hCb : ∀ W, Chg g (g + 1) w5 W → W.cell? ⟨b, 0, none⟩ = some (.slice (some ⟨bA, 0, none⟩) m c1) := fun W C => (World.cell?_of_block (C.block b (by omega) (by omega))).trans D4
      have hAl : ∀ W o, Chg g (g + 1) w5 W → Chg g (g + 1) w5 (W.alloc o) := fun W o C => C.trans_below ((Below.refl _ _).alloc (Nat.le_refl _) _)
      have hOw : ∀ W, Chg g (g + 1) w5 W → Own W (w.heap.size + 1) b 46 (some ⟨bA, 0, none⟩) m c1 vs := fun W C => hO.out.keep (Same.of_chg C (by omega) (.inr (by omega)))
      have hml : Hid (m + 1 ≤ maxLen) := Lib.hid (by simp only [maxLen]; omega)
      have hRw : ∀ W, Chg g (g + 1) w5 W → RowsOwn W (w.heap.size + 1) b 2 vs zss := fun W C => hR.out.keep (Same.of_chg C (by omega) (.inr (by omega)))
      have hGb : ∀ W, Chg g (g + 1) w5 W → W.heap[b]? = some (.cells #[.slice (some ⟨bA, 0, none⟩) m c1] 26 (0, 0)) := fun W C => (C.block b (by omega) (by omega)).trans S5.out.gm
      replace hRw := Lib.hid hRw
      replace hGb := Lib.hid hGb
      replace hMt := Lib.hid hMt
      replace hCb := Lib.hid hCb
      replace hAl := Lib.hid hAl
      replace hOw := Lib.hid hOw
      go_wp2_with fail
      go_region_law? (first
        | (refine step_call rfl 27 #[.pointer (some ⟨g, 0, none⟩), .int .i64 (nR : Int)] (by go_simp) (hMt.out _ (below_drw (Below.refl _ _))) ?_; rintro e w6 ⟨A6, c6, lo6, i6, h6, xs, rfl, o6, hlo6, hlh6, s6, C65⟩; refine ⟨_, rfl, ?_⟩; have b6 := hCb.out _ C65; have hz65 := C65.size; have b6a := hCb.out _ (hAl.out _ (.cells #[.slice A6 nR c6] 46) C65); have hown' := (hOw.out _ (hAl.out _ (.cells #[.slice A6 nR c6] 46) C65)).1; have hnew' := cell_one_of (heap_new w6 (.cells #[.slice A6 nR c6] 46 (0, 0)) w6.heap.size rfl); replace hown' := Lib.hid hown'; replace hnew' := Lib.hid hnew')
        | (refine step_append_lies _ (by rfl) (.tmp 31) (.tmp 35) 24 (by rfl) (w.heap.size + 1) 46 s0 (.slice none 0 0) 1 24 Tryz.underlying24 hs0 hu0 hu1 hu2 rfl (by decide) (.slice (some ⟨bA, 0, none⟩) m c1) m vs (by rfl) hown'.out ⟨w6.heap.size, 0, none⟩ 1 1 [.slice A6 nR c6] (by rfl) rfl hnew'.out (by simp [Value.oneCell']) (by decide) hml.out (by omega) (by simp; omega) (w6.heap.size + 1) (by simp) ?_; intro g4 c4 w7 ho7 hg7 hor7 hlt7; have gm7 := (hg7.block b (by simp; omega) (fun e => by simp [Value.ownBlock] at e; omega)).trans (hGb.out _ (hAl.out w6 (.cells #[.slice A6 nR c6] 46) C65)); have F7 : w7.frozen? ⟨b, 0, none⟩ = false := frozen_of_row _ _ _ _ _ gm7; have D7 : w7.cell? ⟨b, 0, none⟩ = some (.slice (some ⟨bA, 0, none⟩) m c1) := by { rw [cell_of_row _ _ _ _ _ _ gm7]; rfl }; replace gm7 := Lib.hid gm7))
      all_goals
        have B6d : Below w6.heap.size w6 (w6.alloc (.cells #[.slice A6 nR c6] 46)) := (Below.refl _ _).alloc (Nat.le_refl _) _
        have C6d := hAl.out w6 (.cells #[.slice A6 nR c6] 46) C65
        have S6d := S5.out.step (s6.below B6d s6.lt) C6d
        have hfin := S6d.sp1 hM4 (by decide) (by decide) (by decide) (hOw.out _ C6d) (hRw.out _ C6d) (o6.below B6d (Nat.le_refl _)) hF400 hlo6 hlh6 (by simp) ho7 hg7
        replace hfin := Lib.hid hfin
        clear B6d C6d S6d s6 o6 ho7 hg7 hor7 C65
        go_wp2_with fail
        go_meet
        exact ⟨_, _, _, _, hfin.out⟩
    · have B : Below w5.heap.size w5 (w5.alloc (.cells #[] 46)) := (Below.refl _ _).alloc (Nat.le_refl _) _
      have S6 := S5.out.below B
      have D6 := S6.cellM
      have F6 := S6.frzM
      have hfin := S5.out.sp2
      replace hfin := Lib.hid hfin
      clear S6 B
      go_wp2_with fail
      go_meet
      exact ⟨_, _, _, _, hfin.out⟩
    · have Bd : Below w5.heap.size w5 (w5.alloc (.cells #[.int .i64 (nR : Int)] 2)).drew := below_drw ((Below.refl _ _).alloc (Nat.le_refl _) _)
      have S5d := S5.out.below Bd
      have hOd := hO.out.below Bd (by omega)
      have hRd := hR.out.keep (Same.of_below Bd (by omega))
      have oRd := oR.below Bd (by omega)
      have b5d := S5d.cellM
      have hAnb : ∀ q, (Value.slice A0 nR cR).ownBlock = some q → q < b := by
        intro q hq
        rcases A0 with _ | a
        · simp [Value.ownBlock] at hq
        · have := oR.2 a rfl
          simp [Value.ownBlock] at hq
          omega
      have hnew' := cell_one_of (heap_new w5 (.cells #[.int .i64 (nR : Int)] 2 (0, 0)) w5.heap.size rfl)
      have hml : Hid (nR + 1 ≤ maxLen) := Lib.hid (by simp only [maxLen]; omega)
      have hbs : Hid (w.heap.size + 1 ≤ (w5.alloc (.cells #[.int .i64 (nR : Int)] 2)).drew.heap.size) := Lib.hid (by simp; omega)
      have hown' := oRd.1
      have hOd1 := hOd.1
      replace S5d := Lib.hid S5d
      replace hOd := Lib.hid hOd
      replace hOd1 := Lib.hid hOd1
      replace hRd := Lib.hid hRd
      replace oRd := Lib.hid oRd
      replace hAnb := Lib.hid hAnb
      replace hnew' := Lib.hid hnew'
      replace hown' := Lib.hid hown'
      replace b5d := Lib.hid b5d
      have b5a : (w5.alloc (.cells #[.int .i64 (nR : Int)] 2)).cell? ⟨b, 0, none⟩ = some (.slice (some ⟨bA, 0, none⟩) m c1) := (al_old _ _ _ _ (by omega)).trans D4
      have a5a : (w5.alloc (.cells #[.int .i64 (nR : Int)] 2)).cell? ⟨bA, 0, none⟩ = some (.slice A0 nR cR) := (al_old _ _ _ _ (by omega)).trans hcA
      clear Bd oR
      go_wp2_with fail
      go_region_law? (refine step_append_lies _ (by rfl) (.tmp 49) (.tmp 51) 46 (by rfl) (w.heap.size + 1) 2 j0 (.int .i64 0) 1 8 Tryz.underlying46 hj0 hy0 hy1 hy2 rfl (by decide) (.slice A0 nR cR) nR (ys.map (Value.int .i64)) (by rfl) hown'.out ⟨w5.heap.size, 0, none⟩ 1 1 [.int .i64 (nR : Int)] (by rfl) rfl hnew'.out (by simp [Value.oneCell']) (by decide) hml.out (by omega) hbs.out (w5.heap.size + 1) (by simp) ?_; intro g4 c4 w7 ho7 hg7 hor7 hlt7; have oH7 := own_kept_ty hOd1.out hown'.out (by decide) hg7; have a7 : w7.cell? ⟨bA, 0, none⟩ = some (.slice A0 nR cR) := (oH7.cellAt 0 (by omega)).trans hr0.out; have fa7 : w7.frozen? ⟨bA, 0, none⟩ = false := oH7.frozenAt 0; clear oH7; have b7 := (World.cell?_of_block (a := ⟨b, 0, none⟩) (hg7.block b (by simp; omega) (fun e => by have := hAnb.out b e.symm; omega))).trans b5d.out)
      all_goals
        have ho8 : w7.ownsRow (w.heap.size + 1) 2 1 (.slice (some ⟨g4, 0, none⟩) (nR + 1) c4) (nR + 1) ((ys ++ [(nR : Int)]).map (Value.int .i64)) := by rw [List.map_append]; exact ho7
        have hfin := S5d.out.sp3 hM4 (by decide) hOd.out hRd.out hr0.out hy.out ho8 hg7 (hor7.imp id (fun e => by omega))
        replace hfin := Lib.hid hfin
        clear ho7 ho8 hg7 hor7
        go_wp2_with fail
        go_meet
        exact ⟨_, _, _, _, hfin.out⟩
    · have hm1 : 1 ≤ m := m1
      have hc := S5.out.own.cap
      go_wp2_with fail
      all_goals
        go_meet
        first
          | exact ⟨_, _, _, _, S5.out.sp4 hM4 rfl (fun h => rfl) (by omega)⟩
          | exact ⟨_, _, _, _, S5.out.sp4 hM4 rfl (fun h => absurd h (by omega)) (by omega)⟩
    · have e0 : (v == 0) = false := by simp; omega
      have e1 : (v == 1) = false := by simp; omega
      have e2 : (v == 2) = false := by simp; omega
      have e3 : (v == 3) = false := by simp; omega
      have e4 : (v == 4) = false := by simp; omega
      have hfin := S5.out.sp hM4
      replace hfin := Lib.hid hfin
      go_wp2_with fail
      go_meet
      exact ⟨_, _, _, _, hfin.out⟩
  case rest =>
    obtain ⟨A2, m2, c2, yss, S⟩ := hcut
    clear S5 s5 hz5
    have D0 := S.fr.cell0
    have F0 := S.fr.frz0
    have D4 := S.gm
    have g9 := heap_setCell_same _ _ 0 _ _ (Value.slice A2 m2 c2) S.fr.g0
    replace g9 := Lib.hid g9
    go_wp2_with fail
    (try simp only [Exit.inBlock, Exit.then])
    refine bodyPost_ret (v := .agg #[.slice A2 m2 c2]) ?_ rfl ?_
    · exact results_cell_row rfl _ _ w.heap.size 26 #[.slice A2 m2 c2] (0, 0) _ rfl (by simpa using g9.out) Tryz.underlying26 rfl (by kernel_rfl)
    · exact ⟨_, _, _, rfl, S.ret _⟩
end Go.Proofs.YtcjnhiglfkcmiaaGreatDoor
/- DrwX -/
namespace Go.Proofs.YtcjnhiglfkcmiaaGreatDoor
open Go.RowKit
set_option linter.unusedVariables false
set_option maxRecDepth 100000
/-- a maniplex, or what is none, in rows behind the call's beginning -/
def DrwMP (w w' : World) (A1 : Option Addr) (m c1 : Nat) : Prop := ∃ xss, RS w' w.heap.size w'.heap.size A1 m xss ∧ m ≤ c1 ∧ Below w.heap.size w w'
theorem spoilt_out {w w2 w3 : World} {lo g : Nat} {TS : TypeId} {A : Option Addr} {n c : Nat} {bs : List Int} {A1 : Option Addr} {m c1 : Nat} (B1 : Below w.heap.size w w2) (h2 : w.heap.size < w2.heap.size) (hg : w.heap.size ≤ g) (D : SpoiltM w2 w3 lo g TS A n c bs A1 m c1) (v : Value) : DrwMP w (w3.setCell ⟨w.heap.size, 0, none⟩ v) A1 m c1 := by
  obtain ⟨zss, i, h, hR, hc, s, C, _, _⟩ := D
  have hz := C.size
  obtain ⟨vs, r1, r2⟩ := hR
  have hs : Same w2.heap.size w3.heap.size w3 (w3.setCell ⟨w.heap.size, 0, none⟩ v) := same_set _ _ _ _ _ (.inl (by simpa using h2))
  have hR' : RS (w3.setCell ⟨w.heap.size, 0, none⟩ v) w2.heap.size w3.heap.size A1 m zss := ⟨vs, r1.keep hs, r2.keep hs⟩
  exact ⟨zss, hR'.more (by omega) (by simp), hc, (B1.trans (C.below hg (by omega))).setCell (by simp) _⟩
end Go.Proofs.YtcjnhiglfkcmiaaGreatDoor
/- Shr -/
namespace Go.Proofs
open Go.Shelf
def YtcjnhiglfkcmiaaGreatDoor.lays155_ren : Go.Shelf.Ren := ⟨fun | 155 => 34 | 154 => 50 | 138 => 63 | 165 => 52 | 143 => 64 | 166 => 53 | 197 => 65 | 169 => 54 | 195 => 74 | 218 => 75 | 240 => 67 | 241 => 68 | 219 => 76 | 260 => 77 | 276 => 79 | 277 => 80 | 217 => 86 | 225 => 87 | 224 => 88 | 267 => 89 | 266 => 99 | 314 => 100 | n => n, fun | 9 => 9 | 3 => 3 | 4 => 4 | 72 => 77 | 0 => 0 | 76 => 81 | 105 => 94 | 21 => 21 | 5 => 5 | 70 => 75 | 20 => 20 | 37 => 22 | 75 => 80 | 127 => 97 | 164 => 107 | 46 => 70 | 119 => 117 | 139 => 120 | 138 => 119 | 146 => 101 | 51 => 100 | 80 => 83 | n => n, fun | 1 => 0 | 3 => 1 | 4 => 2 | n => n⟩
theorem YtcjnhiglfkcmiaaGreatDoor.lays155 : Go.Proofs.Lays.n155 Tryz.prog YtcjnhiglfkcmiaaGreatDoor.lays155_ren := {
  mixed := by kernel_rfl
  f138 := Tryz.func63.trans (congrArg some (by kernel_rfl))
  f143 := Tryz.func64.trans (congrArg some (by kernel_rfl))
  f154 := Tryz.func50.trans (congrArg some (by kernel_rfl))
  f155 := Tryz.func34.trans (congrArg some (by kernel_rfl))
  f165 := Tryz.func52.trans (congrArg some (by kernel_rfl))
  f166 := Tryz.func53.trans (congrArg some (by kernel_rfl))
  f169 := Tryz.func54.trans (congrArg some (by kernel_rfl))
  f195 := Tryz.func74.trans (congrArg some (by kernel_rfl))
  f197 := Tryz.func65.trans (congrArg some (by kernel_rfl))
  f217 := Tryz.func86.trans (congrArg some (by kernel_rfl))
  f218 := Tryz.func75.trans (congrArg some (by kernel_rfl))
  f219 := Tryz.func76.trans (congrArg some (by kernel_rfl))
  f224 := Tryz.func88.trans (congrArg some (by kernel_rfl))
  f225 := Tryz.func87.trans (congrArg some (by kernel_rfl))
  f240 := Tryz.func67.trans (congrArg some (by kernel_rfl))
  f241 := Tryz.func68.trans (congrArg some (by kernel_rfl))
  f260 := Tryz.func77.trans (congrArg some (by kernel_rfl))
  f266 := Tryz.func99.trans (congrArg some (by kernel_rfl))
  f267 := Tryz.func89.trans (congrArg some (by kernel_rfl))
  f276 := Tryz.func79.trans (congrArg some (by kernel_rfl))
  f277 := Tryz.func80.trans (congrArg some (by kernel_rfl))
  f314 := Tryz.func100.trans (congrArg some (by kernel_rfl))
  t0 := Tryz.underlying0
  a0 := Tryz.isAgg0
  z0 := Tryz.sizeOf0
  v0 := Tryz.zeroValue0
  t3 := Tryz.underlying3
  a3 := Tryz.isAgg3
  z3 := Tryz.sizeOf3
  v3 := Tryz.zeroValue3
  t4 := Tryz.underlying4
  a4 := Tryz.isAgg4
  z4 := Tryz.sizeOf4
  v4 := Tryz.zeroValue4
  t5 := Tryz.underlying5
  a5 := Tryz.isAgg5
  z5 := Tryz.sizeOf5
  v5 := Tryz.zeroValue5
  t9 := Tryz.underlying9
  a9 := Tryz.isAgg9
  z9 := Tryz.sizeOf9
  v9 := Tryz.zeroValue9
  t20 := Tryz.underlying20
  a20 := Tryz.isAgg20
  z20 := Tryz.sizeOf20
  v20 := Tryz.zeroValue20
  t21 := Tryz.underlying21
  a21 := Tryz.isAgg21
  z21 := Tryz.sizeOf21
  v21 := Tryz.zeroValue21
  t37 := Tryz.underlying22
  a37 := Tryz.isAgg22
  z37 := Tryz.sizeOf22
  v37 := Tryz.zeroValue22
  t46 := Tryz.underlying70
  a46 := Tryz.isAgg70
  z46 := Tryz.sizeOf70
  v46 := Tryz.zeroValue70
  t51 := Tryz.underlying100
  a51 := Tryz.isAgg100
  z51 := Tryz.sizeOf100
  v51 := Tryz.zeroValue100
  t70 := Tryz.underlying75
  a70 := Tryz.isAgg75
  z70 := Tryz.sizeOf75
  v70 := Tryz.zeroValue75
  t72 := Tryz.underlying77
  a72 := Tryz.isAgg77
  z72 := Tryz.sizeOf77
  v72 := Tryz.zeroValue77
  t75 := Tryz.underlying80
  a75 := Tryz.isAgg80
  z75 := Tryz.sizeOf80
  v75 := Tryz.zeroValue80
  t76 := Tryz.underlying81
  a76 := Tryz.isAgg81
  z76 := Tryz.sizeOf81
  v76 := Tryz.zeroValue81
  t105 := Tryz.underlying94
  a105 := Tryz.isAgg94
  z105 := Tryz.sizeOf94
  v105 := Tryz.zeroValue94
  t119 := Tryz.underlying117
  a119 := Tryz.isAgg117
  z119 := Tryz.sizeOf117
  t127 := Tryz.underlying97
  a127 := Tryz.isAgg97
  z127 := Tryz.sizeOf97
  v127 := Tryz.zeroValue97
  t138 := Tryz.underlying119
  a138 := Tryz.isAgg119
  z138 := Tryz.sizeOf119
  v138 := Tryz.zeroValue119
  t139 := Tryz.underlying120
  a139 := Tryz.isAgg120
  z139 := Tryz.sizeOf120
  v139 := Tryz.zeroValue120
  t146 := Tryz.underlying101
  a146 := Tryz.isAgg101
  z146 := Tryz.sizeOf101
  v146 := Tryz.zeroValue101
  t164 := Tryz.underlying107
  a164 := Tryz.isAgg107
  z164 := Tryz.sizeOf107
  v164 := Tryz.zeroValue107
  g1 := by kernel_rfl
  g3 := by kernel_rfl
  g4 := by kernel_rfl }
theorem YtcjnhiglfkcmiaaGreatDoor.Builder_Extra_155 : Builder.Extra Tryz.prog YtcjnhiglfkcmiaaGreatDoor.lays155_ren := {
  sizeBuilder := by kernel_rfl
  liesBuilder := by kernel_rfl
  t5 := Tryz.underlying5
  a5 := Tryz.isAgg5
  z5 := Tryz.sizeOf5
  v5 := Tryz.zeroValue5
  infoByte := by kernel_rfl
  cellsByte := by kernel_rfl
  sizeByte := by kernel_rfl
  neB5 := by decide }
open Go.RowKit Go.Lib in
theorem YtcjnhiglfkcmiaaGreatDoor.strings_ReplaceAll (s old new : ByteArray) (m : Int) (w : World) (hs : s.size < 4294967281) (hm : w.cell? ⟨0, 0, none⟩ = some (.int .i64 m)) (h1 : 1 ≤ old.size) (hlen : s.size + Lib.countB s old * new.size ≤ 140737488355328) :
    Calls Tryz.prog 34 #[.string s, .string old, .string new] w fun e w' =>
      e = .returned (.string ⟨(Lib.replaceAll s.data.toList old.data.toList new.data.toList).toArray⟩) ∧ Below w.heap.size w w' := Any.strings_ReplaceAll YtcjnhiglfkcmiaaGreatDoor.lays155 YtcjnhiglfkcmiaaGreatDoor.Builder_Extra_155 s old new m w hs hm h1 hlen
end Go.Proofs
/- Mtx -/
namespace Go.Proofs.YtcjnhiglfkcmiaaGreatDoor
open Go.RowKit
set_option linter.unusedVariables false
set_option maxRecDepth 100000
theorem commas_any (xs : List Int) (hs : ∀ x ∈ xs, SmallI x) (hl : xs.length ≤ 1048576) (w : World) {B : Nat} (hM : MX B w) :
    Calls Tryz.prog 34 #[.string (strB (numsB 32 xs)), .string ⟨#[32]⟩, .string ⟨#[44]⟩] w fun e w' => e = .returned (.string (strB (numsB 44 xs))) ∧ Below w.heap.size w w' := by
  obtain ⟨m, hm⟩ := hM
  have hle := numsB_len 32 xs hs
  have hcn := Lib.countB_le (⟨#[32]⟩ : ByteArray) (by decide) (strB (numsB 32 xs)).size (strB (numsB 32 xs)) (Nat.le_refl _)
  have hsz := strB_size (numsB 32 xs)
  have h := strings_ReplaceAll (strB (numsB 32 xs)) ⟨#[32]⟩ ⟨#[44]⟩ m w (by omega) (hm w (Below.refl _ _)) (by decide) (by
    show (strB (numsB 32 xs)).size + Lib.countB (strB (numsB 32 xs)) ⟨#[32]⟩ * 1 ≤ 140737488355328
    omega)
  refine h.mono fun e w' ⟨he, hb⟩ => ⟨?_, hb⟩
  rw [he, strB_data]
  show Ending.returned (.string (strB (Lib.replaceAll (numsB 32 xs) [32] [44]))) = _
  rw [replaceAll_map (by decide), nums_swap 32 44 (by decide) xs hs]
set_option maxHeartbeats 4000000 in
theorem maniplexText_any (A : Option Addr) (n c : Nat) (xss : List (List Int)) (w : World) {lo hi : Nat} (h : RS w lo hi A n xss) (hhi : hi ≤ w.heap.size) (hn : n ≤ 20) (hs : ∀ xs ∈ xss, xs.length ≤ 400 ∧ ∀ x ∈ xs, SmallI x) {B : Nat} (hT : T10 B w) (hM : MX B w) (hB : B ≤ w.heap.size) :
    Calls Tryz.prog 15 #[.agg #[.slice A n c]] w fun e w' => e = .returned (.string (strB (txtB xss))) ∧ Below w.heap.size w w' := by
  obtain ⟨j0, hj0, hy0, hy1, hy2⟩ := info_parts infoT
  have hl := h.len
  have hle := txtB_len 400 xss hs
  have hR := rs_alloc h hhi (.cells #[.slice A n c] 26)
  have hC : (w.alloc (.cells #[.slice A n c] 26)).cell? ⟨w.heap.size, 0, none⟩ = some (.slice A n c) := al_new _ _ _ _ rfl
  have hB0 : Below w.heap.size w (w.alloc (.cells #[.slice A n c] 26)) := (Below.refl _ _).alloc (Nat.le_refl _) _
  have hT1 := hT.on (hB0.mono hB)
  have hM1 := hM.on (hB0.mono hB)
  replace hs := Lib.hid hs
  replace hl := Lib.hid hl
  clear hT hM
  go_enter Tryz.func15, Tryz.ntmps15
  go_wp2_with fail
  obtain ⟨W1, hW⟩ : ∃ W1 : World, w.alloc (.cells #[.slice A n c] 26) = W1 := ⟨_, rfl⟩
  have hz1 : w.heap.size < W1.heap.size := by rw [← hW]; simp
  rw [hW] at hR hC hB0 hT1 hM1 ⊢
  clear hW h
  replace hT1 := Lib.hid hT1
  replace hM1 := Lib.hid hM1
  go_loopw [9, 3] (fun kv sv wq => ∃ (k : Nat) (A1 : Option Addr) (c1 : Nat), k ≤ n ∧ kv = .int .i64 k ∧ sv = .slice A1 k c1 ∧ Hid (wq.ownsRow W1.heap.size 9 1 (.slice A1 k c1) k ((xss.take k).map fun x => .string (strB (numsB 44 x)))) ∧ Below W1.heap.size W1 wq) (fun kv _ _ => n - (intOf kv).toNat)
  case atStart => exact ⟨0, none, 0, by omega, rfl, rfl, Lib.hid (by simpa using World.ownsRow_nil W1 W1.heap.size 9 1), Below.refl _ _⟩
  case round =>
    obtain ⟨k, A1, c1, hk, rfl, rfl, hO, hBr⟩ := hrel
    have yr := hBr.size
    by_cases hlt : k < n
    · obtain ⟨b, o, Ak, nk, ck, x, rfl, _, hb, hx, hcx, hRx⟩ := (hR.below hBr (by omega)).at_ hlt
      obtain ⟨hx1, hx2⟩ := hs.out x (List.mem_of_getElem? hx)
      have hxl := hRx.len
      have hTr := hT1.out.on (hBr.mono (by omega))
      have hN := numbersText_any Ak nk ck x wr hRx (by omega) hx2 (by omega) hTr (by omega)
      have hCm := fun V (hV : Below wr.heap.size wr V) => commas_any x hx2 (by omega) V ((hM1.out.on (hBr.mono (by omega))).on (hV.mono (by omega)))
      have htk : xss.take (k + 1) = xss.take k ++ [x] := by rw [List.take_add_one, hx]; rfl
      replace htk := Lib.hid htk
      replace hxl := Lib.hid hxl
      replace hCm := Lib.hid hCm
      clear hx hx1 hx2 hTr
      go_wp2_with fail
      ((with_reducible refine hN.mono ?_); rintro e w1 ⟨rfl, f1⟩)
      clear hN
      have y1 := f1.size
      have hC2 := hCm.out _ f1
      go_wp2_with fail
      ((with_reducible refine hC2.mono ?_); rintro e w2 ⟨rfl, f2⟩)
      clear hC2
      have f3 := f1.trans (f2.mono y1)
      have y3 := f3.size
      have hO1 := ((Own.of_row hO.out).below f3 (Nat.le_refl _)).1
      have hB1 := hBr.trans (f3.mono yr)
      go_wp2_with (at_builtin; refine wpList_append1 w2 rfl (.tmp 13) (.tmp 17) 44 rfl W1.heap.size 9 j0 (.string ByteArray.empty) 16 Tryz.underlying44 hj0 hy0 hy1 hy2 rfl (by omega) _ k c1 _ (.string (strB (numsB 44 x))) rfl hO1 _ rfl rfl rfl (by omega) (by omega) ?_)
      intro g c2 w4 ho2 hg2 hlo2 hlt2 hor2
      have hB2 := hB1.grown hg2 (by omega) (fun q hq => by have := (hO1.lt q hq).1; omega)
      have ho3 : Hid (w4.ownsRow W1.heap.size 9 1 (.slice (some ⟨g, 0, none⟩) (k + 1) c2) (k + 1) ((xss.take (k + 1)).map fun x => .string (strB (numsB 44 x)))) := Lib.hid (by rw [htk.out, List.map_append]; simpa using ho2)
      clear ho2 hg2 hor2 hO1
      go_wp2_with fail
      go_roundw
      case measure => simp [intOf]; omega
      case rel => exact ⟨k + 1, _, c2, by omega, by go_num, rfl, ho3, hB2⟩
    · obtain rfl : k = n := by omega
      have e : xss.take k = xss := List.take_of_length_le (by rw [hl.out]; exact Nat.le_refl _)
      have hO := hO.out
      rw [e] at hO
      have hBe := hB0.trans (hBr.mono (by omega))
      rcases Nat.eq_zero_or_pos k with h0 | h0
      · have hx0 : xss = [] := List.eq_nil_of_length_eq_zero (by rw [hl.out]; exact h0)
        subst h0
        have hJ := strings_Join_none A1 c1 ⟨#[47]⟩ wr
        go_wp2_with fail
        ((with_reducible refine hJ.mono ?_); rintro e w1 ⟨rfl, rfl⟩)
        go_wp2_with fail
        go_ret
        refine ⟨?_, hBe⟩
        rw [hx0]
        rfl
      · obtain ⟨g, cap, e1, lg, zg⟩ := slice_of_own hO h0
        injection e1 with e1 _ e3
        subst e1
        subst e3
        have hrd := (Own.of_row hO).rd
        have hcp := own_cap (Own.of_row hO)
        have hln : (xss.map fun x => strB (numsB 44 x)).length = k := by simpa using hl.out
        have hjd : (xss.map fun x => strB (numsB 44 x)).map (·.data.toList) = xss.map (numsB 44) := by simp
        have hJ := strings_Join g 0 c1 (xss.map fun x => strB (numsB 44 x)) ⟨#[47]⟩ wr (fun j y hj => by
          refine hrd.cell (k := j) (v := .string y) ?_
          rw [List.getElem?_map] at hj ⊢
          rw [Option.map_eq_some_iff] at hj
          obtain ⟨x, hx, rfl⟩ := hj
          rw [hx]; rfl) zg (by omega) (by omega) (by rw [hjd]; show (txtB xss).length ≤ _; have := hl.out; have : xss.length * (22 * 400 + 1) ≤ 20 * (22 * 400 + 1) := Nat.mul_le_mul_right _ (by omega); omega)
        rw [hln, hjd] at hJ
        replace hrd := Lib.hid hrd
        replace hO := Lib.hid hO
        clear hjd hln
        go_wp2_with fail
        ((with_reducible refine hJ.mono ?_); rintro e w1 ⟨rfl, f1⟩)
        have hB1 := hBe.trans (f1.mono (by omega))
        go_wp2_with fail
        go_ret
        exact ⟨rfl, hB1⟩
end Go.Proofs.YtcjnhiglfkcmiaaGreatDoor
/- MtxS -/
namespace Go.Proofs.YtcjnhiglfkcmiaaGreatDoor
open Go.RowKit
set_option linter.unusedVariables false
set_option maxRecDepth 100000
set_option maxHeartbeats 8000000 in
theorem l02Text_any (A : Option Addr) (n c : Nat) (xss : List (List Int)) (w : World) {lo hi : Nat} (h : RS w lo hi A n xss) (hhi : hi ≤ w.heap.size) (hn : n ≤ 20) (hs : ∀ xs ∈ xss, xs.length ≤ 400 ∧ ∀ x ∈ xs, SmallI x) :
    Calls Tryz.prog 17 #[.agg #[.slice A n c]] w fun e w' => e = .returned (.string (strB (txtB xss))) ∧ Below w.heap.size w w' := by
  have hl := h.len
  have hpl : ∀ k, (txtB (xss.take k)).length ≤ 20 * (22 * 400 + 1) := fun k => by
    have h1 := txtB_take 400 xss k hs
    have h2 : xss.length * (22 * 400 + 1) ≤ 20 * (22 * 400 + 1) := Nat.mul_le_mul_right _ (by omega)
    omega
  have hR := rs_alloc h hhi (.cells #[.slice A n c] 26)
  have hC : (w.alloc (.cells #[.slice A n c] 26)).cell? ⟨w.heap.size, 0, none⟩ = some (.slice A n c) := al_new _ _ _ _ rfl
  have hB0 : Below w.heap.size w (w.alloc (.cells #[.slice A n c] 26)) := (Below.refl _ _).alloc (Nat.le_refl _) _
  replace hs := Lib.hid hs
  replace hl := Lib.hid hl
  replace hpl := Lib.hid hpl
  go_enter Tryz.func17, Tryz.ntmps17
  go_wp2_with fail
  obtain ⟨W1, hW⟩ : ∃ W1 : World, w.alloc (.cells #[.slice A n c] 26) = W1 := ⟨_, rfl⟩
  have hz1 : w.heap.size < W1.heap.size := by rw [← hW]; simp
  rw [hW] at hR hC hB0 ⊢
  clear hW h
  go_loopw [4, 3] (fun kv sv wq => ∃ (k : Nat) (s : ByteArray), k ≤ n ∧ kv = .int .i64 k ∧ sv = .string s ∧ s = strB (txtB (xss.take k)) ∧ Below W1.heap.size W1 wq) (fun kv _ _ => n - (intOf kv).toNat)
  case atStart => exact ⟨0, _, by omega, rfl, rfl, rfl, Below.refl _ _⟩
  case round =>
    obtain ⟨k, s, hk, rfl, rfl, hst, hBr⟩ := hrel
    have yr := hBr.size
    have hpk := hpl.out k
    have hss : s.size ≤ 4000000 := by rw [hst, strB_size]; exact Nat.le_trans hpk (by decide)
    have kC := (hBr.cell (p := ⟨w.heap.size, 0, none⟩) hz1).trans hC
    by_cases hlt : k < n
    · obtain ⟨b, o, Ak, nk, ck, x, rfl, _, hb, hx, hcx, hRx⟩ := hR.at_ hlt
      have hxl := hRx.len
      obtain ⟨hx1, hx2⟩ := hs.out x (List.mem_of_getElem? hx)
      have hnx : nk ≤ 400 := by omega
      have htk : xss.take (k + 1) = xss.take k ++ [x] := by rw [List.take_add_one, hx]; rfl
      replace hxl := Lib.hid hxl
      have hpt : ∀ j, (numsB 44 (x.take j)).length ≤ 10000 := fun j => by
        have := numsB_take 44 x j hx2
        omega
      obtain ⟨wo, rfl⟩ : ∃ wo : World, wo = wr := ⟨_, rfl⟩
      replace hpt := Lib.hid hpt
      replace hx2 := Lib.hid hx2
      replace hx := Lib.hid hx
      clear hx1
      by_cases hk0 : k = 0
      · subst hk0
        rw [Nat.add_zero] at hcx
        obtain ⟨P, hPe⟩ : ∃ P : List UInt8, P = [] := ⟨_, rfl⟩
        have hP2 : P.length ≤ 4000000 := by rw [hPe]; simp
        have hs0 : s = strB (P ++ numsB 44 (x.take 0)) := by rw [hst, hPe]; rfl
        have hP : strB (P ++ numsB 44 x) = strB (txtB (xss.take (0 + 1))) := by rw [hPe, htk]; simp [txtB_one]
        replace hs0 := Lib.hid hs0
        replace hP := Lib.hid hP
        replace hst := Lib.hid hst
        replace htk := Lib.hid htk
        replace hPe := Lib.hid hPe
        go_wp2_with fail
        go_loopw [5, 3] (fun jv tv wq => ∃ (j : Nat) (t : ByteArray), j ≤ nk ∧ jv = .int .i64 j ∧ tv = .string t ∧ t = strB (P ++ numsB 44 (x.take j)) ∧ Below wo.heap.size wo wq) (fun jv _ _ => nk - (intOf jv).toNat)
        case atStart => exact ⟨0, _, by omega, rfl, rfl, hs0.out, Below.refl _ _⟩
        case round =>
          obtain ⟨j, t, hj, rfl, rfl, ht, hBq⟩ := hrel
          have yq := hBq.size
          have hts : t.size ≤ 5000000 := by rw [ht, strB_size]; have := hpt.out j; simp only [List.length_append]; omega
          have kC2 := (hBq.cell (p := ⟨w.heap.size, 0, none⟩) (by simp; omega)).trans kC
          have kcx := (hBq.cell (p := ⟨b, o, none⟩) (by simp; omega)).trans ((hBr.cell (p := ⟨b, o, none⟩) (by simp; omega)).trans hcx)
          by_cases hjl : j < nk
          · obtain ⟨b2, o2, v, rfl, _, hb2, hv, hcv⟩ := (hRx.below (hBr.trans (hBq.mono yr)) (by omega)).at_ hjl
            have hvs := hx2.out v (List.mem_of_getElem? hv)
            obtain ⟨u, rfl⟩ := Int.eq_ofNat_of_zero_le hvs.1
            have hum : u ≤ 9223372036854775807 := by have := hvs.2; omega
            have hD := fun V => l01Dec_any (u + 1) u (by omega) hum V
            have hdl : (strB (Lib.decDigits u)).size ≤ 21 := by rw [strB_size]; exact dec_len u hum
            have htj : x.take (j + 1) = x.take j ++ [(u : Int)] := by rw [List.take_add_one, hv]; rfl
            obtain ⟨d, hd⟩ : ∃ d, strB (Lib.decDigits u) = d := ⟨_, rfl⟩
            rw [hd] at hD hdl
            replace hd := Lib.hid hd
            replace ht := Lib.hid ht
            replace htj := Lib.hid htj
            clear hvs hv
            by_cases hj0 : j = 0
            · subst hj0
              rw [Nat.add_zero] at hcv
              have hD0 := hD wr
              have hnew : t ++ d = strB (P ++ numsB 44 (x.take 1)) := by
                rw [ht.out, ← hd.out, strB_append, htj.out]
                simp [numsB_zero, numsB_one, itoa_nat]
              replace hnew := Lib.hid hnew
              go_wp2_with fail
              ((with_reducible refine hD0.mono ?_); rintro e w2 ⟨rfl, f2⟩)
              have hB2 := hBq.trans (f2.mono yq)
              go_wp2_with fail
              go_roundw
              case measure => simp [intOf]; omega
              case rel => first | exact ⟨1, _, by omega, by go_num, rfl, hnew.out, hB2⟩ | ((repeat (apply Exists.intro)); exact ⟨⟨1, _, by omega, by go_num, rfl, hnew.out, hB2⟩, rfl⟩)
            · have dj : (0 : Int) < (j : Int) := by omega
              have hD0 := hD wr
              have hne : x.take j ≠ [] := by
                intro e
                have := congrArg List.length e
                have h9 := hxl.out
                simp only [List.length_take, List.length_nil] at this
                omega
              have hnew : t ++ strB [44] ++ d = strB (P ++ numsB 44 (x.take (j + 1))) := by
                rw [ht.out, ← hd.out, strB_append, strB_append, htj.out, numsB_snoc _ _ _ hne, itoa_nat]
                simp
              replace hne := Lib.hid hne
              replace hnew := Lib.hid hnew
              go_wp2_with fail
              ((with_reducible refine hD0.mono ?_); rintro e w2 ⟨rfl, f2⟩)
              have hB2 := hBq.trans (f2.mono yq)
              go_wp2_with fail
              go_roundw
              case measure => simp [intOf]; omega
              case rel => first | exact ⟨j + 1, _, by omega, by go_num, rfl, hnew.out, hB2⟩ | ((repeat (apply Exists.intro)); exact ⟨⟨j + 1, _, by omega, by go_num, rfl, hnew.out, hB2⟩, rfl⟩)
          · obtain rfl : j = nk := by omega
            have e : x.take j = x := List.take_of_length_le (by rw [hxl.out]; exact Nat.le_refl _)
            rw [e] at ht
            have hB3 := hBr.trans (hBq.mono yr)
            replace ht := Lib.hid ht
            go_wp2_with fail
            go_roundw
            case measure => simp [intOf]; omega
            case rel => first | exact ⟨0 + 1, _, by omega, by go_num, rfl, ht.out.trans hP.out, hB3⟩ | ((repeat (apply Exists.intro)); exact ⟨⟨0 + 1, _, by omega, by go_num, rfl, ht.out.trans hP.out, hB3⟩, rfl⟩)
      · have dk : (0 : Int) < (k : Int) := by omega
        have hne : xss.take k ≠ [] := by
          intro e
          have := congrArg List.length e
          have h9 := hl.out
          simp only [List.length_take, List.length_nil] at this
          omega
        obtain ⟨P, hPe⟩ : ∃ P, txtB (xss.take k) ++ [47] = P := ⟨_, rfl⟩
        have hP2 : P.length ≤ 4000000 := by rw [← hPe]; simp only [List.length_append, List.length_singleton]; omega
        have hs0 : s ++ strB [47] = strB (P ++ numsB 44 (x.take 0)) := by rw [hst, strB_append, hPe]; simp [numsB_zero]
        have hP : strB (P ++ numsB 44 x) = strB (txtB (xss.take (k + 1))) := by rw [← hPe, htk, txtB_snoc _ _ hne]; simp
        replace hs0 := Lib.hid hs0
        replace hP := Lib.hid hP
        replace hst := Lib.hid hst
        replace htk := Lib.hid htk
        replace hPe := Lib.hid hPe
        clear hne
        have dkn : 0 < k := by omega
        go_wp2_with fail
        go_loopw [5, 3] (fun jv tv wq => ∃ (j : Nat) (t : ByteArray), j ≤ nk ∧ jv = .int .i64 j ∧ tv = .string t ∧ t = strB (P ++ numsB 44 (x.take j)) ∧ Below wo.heap.size wo wq) (fun jv _ _ => nk - (intOf jv).toNat)
        case atStart => exact ⟨0, _, by omega, rfl, rfl, hs0.out, Below.refl _ _⟩
        case round =>
          obtain ⟨j, t, hj, rfl, rfl, ht, hBq⟩ := hrel
          have yq := hBq.size
          have hts : t.size ≤ 5000000 := by rw [ht, strB_size]; have := hpt.out j; simp only [List.length_append]; omega
          have kC2 := (hBq.cell (p := ⟨w.heap.size, 0, none⟩) (by simp; omega)).trans kC
          have kcx := (hBq.cell (p := ⟨b, o + k, none⟩) (by simp; omega)).trans ((hBr.cell (p := ⟨b, o + k, none⟩) (by simp; omega)).trans hcx)
          by_cases hjl : j < nk
          · obtain ⟨b2, o2, v, rfl, _, hb2, hv, hcv⟩ := (hRx.below (hBr.trans (hBq.mono yr)) (by omega)).at_ hjl
            have hvs := hx2.out v (List.mem_of_getElem? hv)
            obtain ⟨u, rfl⟩ := Int.eq_ofNat_of_zero_le hvs.1
            have hum : u ≤ 9223372036854775807 := by have := hvs.2; omega
            have hD := fun V => l01Dec_any (u + 1) u (by omega) hum V
            have hdl : (strB (Lib.decDigits u)).size ≤ 21 := by rw [strB_size]; exact dec_len u hum
            have htj : x.take (j + 1) = x.take j ++ [(u : Int)] := by rw [List.take_add_one, hv]; rfl
            obtain ⟨d, hd⟩ : ∃ d, strB (Lib.decDigits u) = d := ⟨_, rfl⟩
            rw [hd] at hD hdl
            replace hd := Lib.hid hd
            replace ht := Lib.hid ht
            replace htj := Lib.hid htj
            clear hvs hv
            by_cases hj0 : j = 0
            · subst hj0
              rw [Nat.add_zero] at hcv
              have hD0 := hD wr
              have hnew : t ++ d = strB (P ++ numsB 44 (x.take 1)) := by
                rw [ht.out, ← hd.out, strB_append, htj.out]
                simp [numsB_zero, numsB_one, itoa_nat]
              replace hnew := Lib.hid hnew
              go_wp2_with fail
              ((with_reducible refine hD0.mono ?_); rintro e w2 ⟨rfl, f2⟩)
              have hB2 := hBq.trans (f2.mono yq)
              go_wp2_with fail
              go_roundw
              case measure => simp [intOf]; omega
              case rel => first | exact ⟨1, _, by omega, by go_num, rfl, hnew.out, hB2⟩ | ((repeat (apply Exists.intro)); exact ⟨⟨1, _, by omega, by go_num, rfl, hnew.out, hB2⟩, rfl⟩)
            · have dj : (0 : Int) < (j : Int) := by omega
              have hD0 := hD wr
              have hne : x.take j ≠ [] := by
                intro e
                have := congrArg List.length e
                have h9 := hxl.out
                simp only [List.length_take, List.length_nil] at this
                omega
              have hnew : t ++ strB [44] ++ d = strB (P ++ numsB 44 (x.take (j + 1))) := by
                rw [ht.out, ← hd.out, strB_append, strB_append, htj.out, numsB_snoc _ _ _ hne, itoa_nat]
                simp
              replace hne := Lib.hid hne
              replace hnew := Lib.hid hnew
              go_wp2_with fail
              ((with_reducible refine hD0.mono ?_); rintro e w2 ⟨rfl, f2⟩)
              have hB2 := hBq.trans (f2.mono yq)
              go_wp2_with fail
              go_roundw
              case measure => simp [intOf]; omega
              case rel => first | exact ⟨j + 1, _, by omega, by go_num, rfl, hnew.out, hB2⟩ | ((repeat (apply Exists.intro)); exact ⟨⟨j + 1, _, by omega, by go_num, rfl, hnew.out, hB2⟩, rfl⟩)
          · obtain rfl : j = nk := by omega
            have e : x.take j = x := List.take_of_length_le (by rw [hxl.out]; exact Nat.le_refl _)
            rw [e] at ht
            have hB3 := hBr.trans (hBq.mono yr)
            replace ht := Lib.hid ht
            go_wp2_with fail
            go_roundw
            case measure => simp [intOf]; omega
            case rel => first | exact ⟨k + 1, _, by omega, by go_num, rfl, ht.out.trans hP.out, hB3⟩ | ((repeat (apply Exists.intro)); exact ⟨⟨k + 1, _, by omega, by go_num, rfl, ht.out.trans hP.out, hB3⟩, rfl⟩)
    · obtain rfl : k = n := by omega
      have hBe := hB0.trans (hBr.mono (by omega))
      have e : xss.take k = xss := List.take_of_length_le (by rw [hl.out]; exact Nat.le_refl _)
      rw [e] at hst
      replace hst := Lib.hid hst
      go_wp2_with fail
      go_ret
      exact ⟨by rw [← hst.out]; rfl, hBe⟩
end Go.Proofs.YtcjnhiglfkcmiaaGreatDoor
/- MtxX -/
namespace Go.Proofs.YtcjnhiglfkcmiaaGreatDoor
open Go.RowKit
set_option linter.unusedVariables false
set_option maxRecDepth 100000
/-- what ManiplexText returns -/
noncomputable def mtF (xss : List (List Int)) : List UInt8 × Int := if isManB xss = true then (txtB xss, 0) else ([], 1)
theorem man_small {xss : List (List Int)} (hP : ManP xss) : ∀ xs ∈ xss, xs.length ≤ 400 ∧ ∀ x ∈ xs, SmallI x := by
  intro xs hx
  obtain ⟨h3, _, h1⟩ := hP.sys xs hx
  have h4 := hP.f4
  refine ⟨by omega, fun x hx => ?_⟩
  have := h3 x hx
  exact ⟨by omega, by omega⟩
set_option maxHeartbeats 4000000 in
theorem i_ManiplexText_any (w : World) (A : Option Addr) (n c : Nat) (xss : List (List Int)) {lo hi : Nat} (h : RS w lo hi A n xss) (hhi : hi ≤ w.heap.size) (hnc : n ≤ c) {B : Nat} (hT : T10 B w) (hM : MX B w) (hB : B ≤ w.heap.size) :
    Calls Tryz.prog 6 #[.agg #[.slice A n c]] w fun e w' => ∃ (s : List UInt8) (code : Int), e = .returned (.tuple #[.string (strB s), .int .i64 code]) ∧ Hid ((s, code) = mtF xss) ∧ Below w.heap.size w w' := by
  have hm := h.max
  have hl := h.len
  have hR := rs_alloc h hhi (.cells #[.slice A n c] 26)
  have hC : (w.alloc (.cells #[.slice A n c] 26)).cell? ⟨w.heap.size, 0, none⟩ = some (.slice A n c) := al_new _ _ _ _ rfl
  have hB0 : Below w.heap.size w (w.alloc (.cells #[.slice A n c] 26)) := (Below.refl _ _).alloc (Nat.le_refl _) _
  have hIs := isMan_any A n c xss (w.alloc (.cells #[.slice A n c] 26)) hR (by simp; omega) hnc
  cases hMb : isManB xss with
  | false =>
    rw [hMb] at hIs
    have hF : (([] : List UInt8), (1 : Int)) = mtF xss := by unfold mtF; rw [hMb]; rfl
    replace hF := Lib.hid hF
    replace hMb := Lib.hid hMb
    go_enter Tryz.func6, Tryz.ntmps6
    go_wp2_with fail
    ((with_reducible refine hIs.mono ?_); rintro e w2 ⟨rfl, f2⟩)
    have B2 := hB0.trans (f2.mono (by simp))
    go_wp2_with fail
    go_ret2
    exact ⟨[], _, rfl, hF, B2⟩
  | true =>
    rw [hMb] at hIs
    have hP := isManB_iff.1 hMb
    have hs := man_small hP
    have hn5 : n ≤ 20 := by have := hP.r5; omega
    have hF : (txtB xss, (0 : Int)) = mtF xss := by unfold mtF; rw [if_pos hMb]
    replace hF := Lib.hid hF
    replace hMb := Lib.hid hMb
    replace hs := Lib.hid hs
    clear hP
    go_enter Tryz.func6, Tryz.ntmps6
    go_wp2_with fail
    ((with_reducible refine hIs.mono ?_); rintro e w2 ⟨rfl, f2⟩)
    have B2 := hB0.trans (f2.mono (by simp))
    have C2 := (f2.cell (p := ⟨w.heap.size, 0, none⟩) (by simp)).trans hC
    have y2 := B2.size
    have hTx := maniplexText_any A n c xss w2 (hR.below f2 (by simp; omega)) (by omega) hn5 hs.out (hT.on (B2.mono hB)) (hM.on (B2.mono hB)) (by omega)
    clear hR hC f2 hIs
    go_wp2_with fail
    ((with_reducible refine hTx.mono ?_); rintro e w3 ⟨rfl, f3⟩)
    have B3 := B2.trans (f3.mono y2)
    go_wp2_with fail
    go_ret2
    exact ⟨_, _, rfl, hF, B3⟩
set_option maxHeartbeats 4000000 in
theorem s_ManiplexText_any (w : World) (A : Option Addr) (n c : Nat) (xss : List (List Int)) {lo hi : Nat} (h : RS w lo hi A n xss) (hhi : hi ≤ w.heap.size) (hnc : n ≤ c) :
    Calls Tryz.prog 7 #[.agg #[.slice A n c]] w fun e w' => ∃ (s : List UInt8) (code : Int), e = .returned (.tuple #[.string (strB s), .int .i64 code]) ∧ Hid ((s, code) = mtF xss) ∧ Below w.heap.size w w' := by
  have hm := h.max
  have hl := h.len
  have hR := rs_alloc h hhi (.cells #[.slice A n c] 26)
  have hC : (w.alloc (.cells #[.slice A n c] 26)).cell? ⟨w.heap.size, 0, none⟩ = some (.slice A n c) := al_new _ _ _ _ rfl
  have hB0 : Below w.heap.size w (w.alloc (.cells #[.slice A n c] 26)) := (Below.refl _ _).alloc (Nat.le_refl _) _
  have hIs := l02Is_any A n c xss (w.alloc (.cells #[.slice A n c] 26)) hR (by simp; omega)
  cases hMb : isManB xss with
  | false =>
    rw [hMb] at hIs
    have hF : (([] : List UInt8), (1 : Int)) = mtF xss := by unfold mtF; rw [hMb]; rfl
    replace hF := Lib.hid hF
    replace hMb := Lib.hid hMb
    go_enter Tryz.func7, Tryz.ntmps7
    go_wp2_with fail
    ((with_reducible refine hIs.mono ?_); rintro e w2 ⟨rfl, f2⟩)
    have B2 := hB0.trans (f2.mono (by simp))
    go_wp2_with fail
    go_ret2
    exact ⟨[], _, rfl, hF, B2⟩
  | true =>
    rw [hMb] at hIs
    have hP := isManB_iff.1 hMb
    have hs := man_small hP
    have hn5 : n ≤ 20 := by have := hP.r5; omega
    have hF : (txtB xss, (0 : Int)) = mtF xss := by unfold mtF; rw [if_pos hMb]
    replace hF := Lib.hid hF
    replace hMb := Lib.hid hMb
    replace hs := Lib.hid hs
    clear hP
    go_enter Tryz.func7, Tryz.ntmps7
    go_wp2_with fail
    ((with_reducible refine hIs.mono ?_); rintro e w2 ⟨rfl, f2⟩)
    have B2 := hB0.trans (f2.mono (by simp))
    have C2 := (f2.cell (p := ⟨w.heap.size, 0, none⟩) (by simp)).trans hC
    have y2 := B2.size
    have hTx := l02Text_any A n c xss w2 (hR.below f2 (by simp; omega)) (by omega) hn5 hs.out
    clear hR hC f2 hIs
    go_wp2_with fail
    ((with_reducible refine hTx.mono ?_); rintro e w3 ⟨rfl, f3⟩)
    have B3 := B2.trans (f3.mono y2)
    go_wp2_with fail
    go_ret2
    exact ⟨_, _, rfl, hF, B3⟩
end Go.Proofs.YtcjnhiglfkcmiaaGreatDoor
/- DrwV -/
namespace Go.Proofs.YtcjnhiglfkcmiaaGreatDoor
open Go.RowKit
set_option linter.unusedVariables false
set_option maxRecDepth 100000
set_option maxHeartbeats 4000000 in
theorem drawManText_any (w : World) (A : Option Addr) (n c : Nat) (bs : List Int) (h : Rd w 0 w.heap.size A n (bs.map (Value.int .u8))) (hb : ∀ x ∈ bs, 0 ≤ x ∧ x < 256) (hn : n ≤ 1048576) :
    Calls Tryz.prog 5 #[.slice A n c] w fun e w' => ∃ (A1 : Option Addr) (m c1 : Nat), e = .returned (.agg #[.slice A1 m c1]) ∧ DrwMP w w' A1 m c1 := by
  have B1 : Below w.heap.size w (w.alloc (.cells #[.slice none 0 0] 26)) := (Below.refl _ _).alloc (Nat.le_refl _) _
  have z1 : (w.alloc (.cells #[.slice none 0 0] 26)).heap.size = w.heap.size + 1 := by simp
  have hF := from_any (w.alloc (.cells #[.slice none 0 0] 26)) A n c bs ((h.keep (Same.of_below B1 (Nat.le_refl _))).more (Nat.le_refl _) (by simp)) hb hn
  have g1 : (w.alloc (.cells #[.slice none 0 0] 26)).heap[w.heap.size]? = some (.cells #[.slice none 0 0] 26 (0, 0)) := heap_new _ _ _ rfl
  rw [z1] at hF
  replace hb := Lib.hid hb
  go_enter Tryz.func5, Tryz.ntmps5
  go_wp2_with fail
  ((with_reducible refine hF.mono ?_); rintro e w2 ⟨H, rfl, s2, f2⟩)
  have z2 := f2.size
  rw [z1] at z2
  have g2 := (f2.block _ (by omega)).trans g1
  have B2 := B1.trans (f2.mono (by omega))
  have hS := l02Spoil_any w2 _ _ A n c bs _ _ s2 40 (by omega) (by omega)
  rw [show ((40 : Nat) : Int) = 40 from rfl] at hS
  go_wp2_with fail
  ((with_reducible refine hS.mono ?_); rintro e w3 ⟨A1, m, c1, rfl, D⟩)
  clear hS hF
  have hg3 : w3.heap[w.heap.size]? = some (.cells #[.slice none 0 0] 26 (0, 0)) := by
    obtain ⟨_, _, _, _, _, _, C, _, _⟩ := D
    exact (C.block _ (by omega) (by omega)).trans g2
  have D0 : w3.cell? ⟨w.heap.size, 0, none⟩ = some (.slice none 0 0) := by rw [cell_of_row _ _ _ _ _ _ hg3]; rfl
  have F0 : w3.frozen? ⟨w.heap.size, 0, none⟩ = false := frozen_of_row _ _ _ _ _ hg3
  have g9 := heap_setCell_same _ _ 0 _ _ (Value.slice A1 m c1) hg3
  replace g9 := Lib.hid g9
  replace hg3 := Lib.hid hg3
  go_wp2_with fail
  (try simp only [Exit.inBlock, Exit.then])
  refine bodyPost_ret (v := .agg #[.slice A1 m c1]) ?_ rfl ?_
  · exact results_cell_row rfl _ _ w.heap.size 26 #[.slice A1 m c1] (0, 0) _ rfl (by simpa using g9.out) Tryz.underlying26 rfl (by kernel_rfl)
  · exact ⟨_, _, _, rfl, spoilt_out B2 (by omega) (by omega) D _⟩
theorem txt_len20 {xss : List (List Int)} (hn : xss.length ≤ 20) (hs : ∀ xs ∈ xss, xs.length ≤ 400 ∧ ∀ x ∈ xs, SmallI x) : (txtB xss).length ≤ 200000 := by
  have h1 := txtB_take 400 xss xss.length hs
  have h2 : xss.length * (22 * 400 + 1) ≤ 20 * (22 * 400 + 1) := Nat.mul_le_mul_right _ (by omega)
  rw [List.take_of_length_le (Nat.le_refl _)] at h1
  omega
/-- a drawn text -/
def DrawTxM (w w' : World) (L : List UInt8) : Prop := L.length ≤ 4294967296 ∧ Below w.heap.size w w'
set_option maxHeartbeats 4000000 in
theorem drawParseMan_any (w : World) (A : Option Addr) (n c : Nat) (bs : List Int) (h : Rd w 0 w.heap.size A n (bs.map (Value.int .u8))) (hb : ∀ x ∈ bs, 0 ≤ x ∧ x < 256) (hn : n ≤ 4096) :
    Calls Tryz.prog 10 #[.slice A n c] w fun e w' => ∃ (L : List UInt8), e = .returned (.string (strB L)) ∧ DrawTxM w w' L := by
  have hF := from_any w A n c bs h hb (by omega)
  replace hb := Lib.hid hb
  go_enter Tryz.func10, Tryz.ntmps10
  go_wp2_with fail
  ((with_reducible refine hF.mono ?_); rintro e w1 ⟨H1, rfl, S1, B1⟩)
  clear hF
  have s1 := B1.size
  have g1 := S1.lt
  have hD := l02Draw_any w1 _ _ A n c bs _ _ S1 16 (by omega) (by omega)
  rw [show ((16 : Nat) : Int) = 16 from rfl] at hD
  go_wp2_with fail
  ((with_reducible refine hD.mono ?_); rintro e w3 ⟨A3, m, c3, rfl, D⟩)
  clear hD
  obtain ⟨zss, K0, i3, h3, O3, hsy, k1, kM, m1, m5, S3, D3⟩ := D
  have s3 := D3.size
  have hzl : zss.length = m := O3.len
  have hsm : ∀ xs ∈ zss, xs.length ≤ 400 ∧ ∀ x ∈ xs, SmallI x := fun xs hx => by
    obtain ⟨r1, r2, r3⟩ := hsy xs hx
    exact ⟨by omega, fun x hxx => ⟨(r1 x hxx).1, by have := (r1 x hxx).2; omega⟩⟩
  have hpl := txt_len20 (by omega) hsm
  have hT := l02Text_any A3 m c3 zss w3 O3.rs (Nat.le_refl _) (by omega) hsm
  generalize txtB zss = L0 at *
  replace hsm := Lib.hid hsm
  replace hsy := Lib.hid hsy
  replace hzl := Lib.hid hzl
  go_wp2_with fail
  ((with_reducible refine hT.mono ?_); rintro e w4 ⟨rfl, B4⟩)
  clear hT
  have s4 := B4.size
  have g3 := S3.lt
  have S4 := S3.below B4 g3
  have D4 := D3.trans_below B4
  have i3l := S4.le
  have hst := S4.st
  obtain ⟨K, hK⟩ : ∃ K : Nat, K = 5592406 * 549755813888 := ⟨_, rfl⟩
  replace hK := Lib.hid hK
  obtain ⟨f0, hf0, hD0⟩ := DmgL.start (K := K) (n := n) (i := i3) (h := h3) (len0 := 200000) i3l hst hpl
  replace hD0 := Lib.hid hD0
  clear S1 S3 D3 O3 B4 hpl
  go_wp2_with fail
  go_loopg [4] (n + (K + 3)) (fun f tv wq => ∃ (L : List UInt8) (i h f1 : Nat), tv = .string (strB L) ∧ f1 ≤ f ∧ Hid (DmgL K n i h L 200000 f1) ∧ Src wq w.heap.size w.heap.size 53 A n c bs i h ∧ Chg w.heap.size (w.heap.size + 1) w1 wq)
  case atStart => exact ⟨L0, i3, h3, f0, rfl, hf0, hD0, S4, D4⟩
  case round =>
    clear S4 D4 hD0 hf0 i3l hst
    obtain ⟨L, i, h, f1, rfl, hf1, hD, S, D⟩ := hrel
    have hll := hD.out.len
    have sD := D.size
    have gS := S.lt
    have hn1 := next_any wr _ _ A n c bs i h S 3 (by omega) (by omega)
    go_wp2_with fail
    ((with_reducible refine hn1.mono ?_); rintro e w5 ⟨v, i5, rfl, P⟩)
    clear hn1
    have S5 := P.src
    have D5 := D.trans P.chg ⟨Nat.le_refl _, Nat.le_refl _⟩ ⟨Nat.le_refl _, Nat.le_refl _⟩
    have st5 := P.step
    have dn5 := P.done
    have z5 := P.size
    clear P
    have sle := S.le
    clear S D
    by_cases hv : v = 0
    · have hdm := l01Damage_any w5 _ _ A n c bs i5 _ S5 L (by omega)
      have d0 : (v == 0) = true := by rw [hv]; rfl
      have hv2 := Lib.hid hv
      clear hv
      go_wp2_with fail
      ((with_reducible refine hdm.mono ?_); rintro e w6 ⟨L', i6, h6, rfl, Q⟩)
      clear hdm
      have le5 := S5.le
      obtain ⟨f2, hf2, hD2⟩ := hD.out.next hK.out sle st5 (fun hh => dn5 hh) hv2.out Q.len Q.one Q.rise Q.stay Q.src.le Q.src.st
      have S6 := Q.src
      have D6 := D5.trans Q.chg ⟨Nat.le_refl _, Nat.le_refl _⟩ ⟨Nat.le_refl _, Nat.le_refl _⟩
      replace hD2 := Lib.hid hD2
      clear Q hD st5 dn5 S5 D5 hv2
      go_wp2_with fail
      go_roundg f2
      case measure => omega
      case rel => exact ⟨L', i6, h6, f2, rfl, Nat.le_refl _, hD2, S6, D6⟩
    · have d0 : (v == 0) = false := by simpa using hv
      have s5 := D5.size
      have E5 := B1.trans (D5.below (Nat.le_refl _) (by omega))
      clear hv st5 dn5 hD
      go_wp2_with fail
      go_ret
      exact ⟨L, rfl, by omega, E5⟩
end Go.Proofs.YtcjnhiglfkcmiaaGreatDoor
/- Pmx -/
namespace Go.Proofs.YtcjnhiglfkcmiaaGreatDoor
open Go.RowKit
set_option linter.unusedVariables false
set_option maxRecDepth 100000
theorem RowsOwn.nilv {w : World} {lo hi : Nat} {T : TypeId} : RowsOwn w lo hi T [] [] := RowsOwn.nil
theorem pm_fail {L : List UInt8} {P w : List UInt8} {k j : Nat} (hP : (spl 47 L)[k]? = some P) (hw : (spl 44 P)[j]? = some w) (h : ∀ y : Int, 0 ≤ y → y < 400 → Lib.itoa y ≠ w) : pmF L = ([], 6) :=
  pm_word (List.mem_of_getElem? hP) (List.mem_of_getElem? hw) h
/-- what parseManiplex returns -/
def PmR (L : List UInt8) (zss : List (List Int)) (ok : Bool) : Prop := pmF L = if ok = true then (zss, 0) else ([], 6)
set_option maxHeartbeats 8000000 in
theorem parseManiplex_any (L : List UInt8) (hL : L.length ≤ 4294967296) (w : World) {B : Nat} (hT : T10 B w) (hE : EV B w) (hM : MX B w) (hB : B ≤ w.heap.size) :
    Calls Tryz.prog 18 #[.string (strB L)] w fun e w' => ∃ (A1 : Option Addr) (n1 c1 : Nat) (zss : List (List Int)) (ok : Bool), e = .returned (.tuple #[.agg #[.slice A1 n1 c1], .bool ok]) ∧ Hid (PmR L zss ok) ∧ OwnS w' w.heap.size w'.heap.size 46 2 A1 n1 c1 zss ∧ n1 + numsIn zss ≤ 1048576 ∧ Below w.heap.size w w' := by
  obtain ⟨s0, hs0, hu0, hu1, hu2⟩ := info_parts infoS
  obtain ⟨j0, hj0, hy0, hy1, hy2⟩ := info_parts infoI
  have B0 : Below w.heap.size w ((w.alloc (.cells #[.slice none 0 0] 26)).alloc (.cells #[.slice none 0 0] 26)) := ((Below.refl _ _).alloc (Nat.le_refl _) _).alloc (by simp) _
  have gr : ((w.alloc (.cells #[.slice none 0 0] 26)).alloc (.cells #[.slice none 0 0] 26)).heap[w.heap.size]? = some (.cells #[.slice none 0 0] 26 (0, 0)) := by
    refine (((Below.refl _ _).alloc (Nat.le_refl _) _).block w.heap.size (by simp)).trans ?_
    exact heap_new _ _ _ rfl
  have gm : ((w.alloc (.cells #[.slice none 0 0] 26)).alloc (.cells #[.slice none 0 0] 26)).heap[w.heap.size + 1]? = some (.cells #[.slice none 0 0] 26 (0, 0)) := heap_new _ _ _ (by simp)
  by_cases hlong : 10000 < L.length
  · have hF : PmR L [] false := pm_long hlong
    have d1 : (10000 : Int) < (L.length : Int) := by omega
    have c1 : ((w.alloc (.cells #[.slice none 0 0] 26)).alloc (.cells #[.slice none 0 0] 26)).frozen? ⟨w.heap.size, 0, none⟩ = false := frozen_of_row _ _ _ _ _ gr
    have c3 : ((w.alloc (.cells #[.slice none 0 0] 26)).alloc (.cells #[.slice none 0 0] 26)).cell? ⟨w.heap.size + 1, 0, none⟩ = some (.slice none 0 0) := by rw [cell_of_row _ _ _ _ _ _ gm]; rfl
    have c2 : ((w.alloc (.cells #[.slice none 0 0] 26)).alloc (.cells #[.slice none 0 0] 26)).cell? ⟨w.heap.size, 0, none⟩ = some (.slice none 0 0) := by rw [cell_of_row _ _ _ _ _ _ gr]; rfl
    replace hF := Lib.hid hF
    go_enter Tryz.func18, Tryz.ntmps18
    go_wp2_with fail
    obtain ⟨W1, hW⟩ : ∃ W1 : World, (w.alloc (.cells #[.slice none 0 0] 26)).alloc (.cells #[.slice none 0 0] 26) = W1 := ⟨_, rfl⟩
    have hz1 : w.heap.size + 2 ≤ W1.heap.size := by rw [← hW]; simp
    rw [hW] at B0 gr gm c1 c2 c3 ⊢
    clear hW
    replace gr := Lib.hid gr
    (try go_wp2_with fail)
    have g2 := heap_setCell_same _ _ 0 _ _ (Value.slice none 0 0) gr.out
    (try simp only [Exit.inBlock, Exit.then])
    refine bodyPost_ret (v := .tuple #[.agg #[.slice none 0 0], .bool false]) ?_ rfl ?_
    · exact results_cell_row2 rfl _ _ w.heap.size 26 #[.slice none 0 0] (0, 0) _ rfl (by first | simpa using g2 | exact gr.out) Tryz.underlying26 rfl (by kernel_rfl) _ rfl
    · exact ⟨_, 0, _, [], false, rfl, hF, OwnS.nil, by simp [numsIn], by first | exact B0.setCell (by simp) _ | exact B0⟩
  · have d1 : ¬ (10000 : Int) < (L.length : Int) := by omega
    have hS := split1_any 47 L (by omega) _ (hM.on (B0.mono hB))
    have hPl := spl_sum 47 L
    have hPm := spl_mem_len 47 L
    have hpm : ∀ xss, MatR xss (spl 47 L) → PmR L (if isManB xss = true then xss else []) (isManB xss) := by
      intro xss h
      unfold PmR
      rw [pm_of h]
      by_cases hh : isManB xss = true
      · rw [if_pos hh, if_pos hh, if_pos hh]
      · rw [if_neg hh, if_neg hh]
    have hpf : ∀ (P w : List UInt8) (k j : Nat), (spl 47 L)[k]? = some P → (spl 44 P)[j]? = some w → (∀ y : Int, 0 ≤ y → y < 400 → Lib.itoa y ≠ w) → PmR L [] false := fun P w k j h1 h2 h3 => pm_fail h1 h2 h3
    generalize spl 47 L = Ps at *
    replace hpm := Lib.hid hpm
    replace hpf := Lib.hid hpf
    replace hPm := Lib.hid hPm
    go_enter Tryz.func18, Tryz.ntmps18
    go_wp2_with fail
    obtain ⟨W1, hW⟩ : ∃ W1 : World, (w.alloc (.cells #[.slice none 0 0] 26)).alloc (.cells #[.slice none 0 0] 26) = W1 := ⟨_, rfl⟩
    have hz1 : w.heap.size + 2 ≤ W1.heap.size := by rw [← hW]; simp
    rw [hW] at B0 gr gm hS ⊢
    clear hW
    ((with_reducible refine hS.mono ?_); rintro e w3 ⟨rfl, rd3, f3⟩)
    clear hS
    have y3 := f3.size
    have B3 : Below w.heap.size w w3 := B0.trans (f3.mono (by omega))
    have gr3 := (f3.block w.heap.size (by omega)).trans gr
    have gm3 := (f3.block (w.heap.size + 1) (by omega)).trans gm
    clear gr gm B0 f3
    have hlo : ∃ lo0, lo0 = w3.heap.size := ⟨_, rfl⟩
    go_wp2_with fail
    go_loopw [19] (fun kv wq => ∃ (k : Nat) (xss : List (List Int)) (A2 : Option Addr) (c2 : Nat), k ≤ Ps.length ∧ kv = .int .i64 k ∧ Hid (MatR xss (Ps.take k)) ∧ wq.heap[w.heap.size + 1]? = some (.cells #[.slice A2 k c2] 26 (0, 0)) ∧ wq.heap[w.heap.size]? = some (.cells #[.slice none 0 0] 26 (0, 0)) ∧
        OwnS wq w3.heap.size wq.heap.size 46 2 A2 k c2 xss ∧ Rd wq W1.heap.size w3.heap.size (some ⟨W1.heap.size, 0, none⟩) Ps.length (Ps.map fun p => .string (strB p)) ∧ w3.heap.size ≤ wq.heap.size ∧ Below w.heap.size w wq) (fun kv _ => Ps.length - (intOf kv).toNat)
    case atStart => exact ⟨0, [], none, 0, by omega, rfl, Lib.hid (by simpa using MatR.zero), gm3, gr3, OwnS.nil, rd3, Nat.le_refl _, B3⟩
    case round =>
      clear gm3 gr3 rd3 B3
      obtain ⟨k, xss, A2, c2, hk, rfl, hmat, gm, gr, oS, rd, hz, hB9⟩ := hrel
      by_cases hlt : k < Ps.length
      · obtain ⟨P, hP⟩ : ∃ P, Ps[k]? = some P := ⟨Ps[k], List.getElem?_eq_getElem hlt⟩
        have hcP : wr.cell? ⟨W1.heap.size, k, none⟩ = some (.string (strB P)) := by
          have := rd.cell (k := k) (v := .string (strB P)) (by simp [hP])
          simpa using this
        have hPL := hPm.out P (List.mem_of_getElem? hP)
        have hS2 := fun V (hV : Below wr.heap.size wr V) => split1_any 44 P (by omega) V (hM.on ((hB9.mono hB).trans (hV.mono (by have := hB9.size; omega))))
        have hQl := spl_sum 44 P
        have hQm := spl_mem_len 44 P
        have hpf2 : ∀ (w : List UInt8) (j : Nat), (spl 44 P)[j]? = some w → (∀ y : Int, 0 ≤ y → y < 400 → Lib.itoa y ≠ w) → PmR L [] false := fun w j h2 h3 => hpf.out P w k j hP h2 h3
        have hms : ∀ xs, RowR xs (spl 44 P) → MatR (xss ++ [xs]) (Ps.take (k + 1)) := fun xs hx => hmat.out.snoc hP hx
        generalize spl 44 P = Qs at *
        replace hpf2 := Lib.hid hpf2
        replace hms := Lib.hid hms
        replace hQm := Lib.hid hQm
        replace hP := Lib.hid hP
        replace gm := Lib.hid gm
        replace gr := Lib.hid gr
        have hS3 := hS2 wr (Below.refl _ _)
        clear hS2
        obtain ⟨wo, rfl⟩ : ∃ wo : World, wo = wr := ⟨_, rfl⟩
        have hzw := hB9.size
        go_wp2_with fail
        ((with_reducible refine hS3.mono ?_); rintro e w4 ⟨rfl, rd4, f4⟩)
        clear hS3
        have y4 := f4.size
        go_wp2_with fail
        go_loopw [26, 7] (fun kv lv wq => ∃ (j : Nat) (ys : List Int) (A3 : Option Addr) (c3 : Nat), j ≤ Qs.length ∧ kv = .int .i64 j ∧ lv = .slice A3 j c3 ∧ Hid (RowR ys (Qs.take j)) ∧ Own wq w4.heap.size wq.heap.size 2 A3 j c3 (ys.map (Value.int .i64)) ∧ w4.heap.size ≤ wq.heap.size ∧ Below w4.heap.size w4 wq) (fun kv _ _ => Qs.length - (intOf kv).toNat)
        case atStart => exact ⟨0, [], none, 0, by omega, rfl, rfl, Lib.hid (by simpa using RowR.zero), Own.nil, Nat.le_refl _, Below.refl _ _⟩
        case round =>
          obtain ⟨j, ys, A3, c3, hj, rfl, rfl, hrow, ho3, hz3, hb3⟩ := hrel
          have hbo : Below wo.heap.size wo wr := f4.trans (hb3.mono y4)
          by_cases hjo : j < Qs.length
          · obtain ⟨u, hu⟩ : ∃ u, Qs[j]? = some u := ⟨Qs[j], List.getElem?_eq_getElem hjo⟩
            have hcu : wr.cell? ⟨wo.heap.size, j, none⟩ = some (.string (strB u)) := by
              have := (rd4.below hb3 (Nat.le_refl _)).cell (k := j) (v := .string (strB u)) (by simp [hu])
              simpa using this
            have huL := hQm.out u (List.mem_of_getElem? hu)
            have hbw : Below w.heap.size w wr := hB9.trans (hbo.mono hzw)
            have hR := readNumber_any u (by omega) wr (hT.on (hbw.mono hB)) (hE.on (hbw.mono hB)) (by omega)
            go_wp2_with fail
            ((with_reducible refine hR.mono ?_); rintro e w5 ⟨⟨x, ok, rfl, hok, hno⟩, f5⟩)
            clear hR
            have y5 := f5.size
            have hb5 : Below w4.heap.size w4 w5 := hb3.trans (f5.mono hz3)
            have hbw5 : Below w.heap.size w w5 := hbw.trans (f5.mono (by omega))
            cases ok with
            | false =>
              have hF := hpf2.out u j hu (hno rfl)
              have gr5 := (f5.block w.heap.size (by omega)).trans ((hbo.block w.heap.size (by omega)).trans gr.out)
              have F5 : w5.frozen? ⟨w.heap.size, 0, none⟩ = false := frozen_of_row _ _ _ _ _ gr5
              have C5 : w5.cell? ⟨w.heap.size, 0, none⟩ = some (.slice none 0 0) := by rw [cell_of_row _ _ _ _ _ _ gr5]; rfl
              replace hF := Lib.hid hF
              replace gr5 := Lib.hid gr5
              clear hok hno
              go_wp2_with fail
              have g2 := heap_setCell_same _ _ 0 _ _ (Value.slice none 0 0) gr5.out
              (try simp only [Exit.inBlock, Exit.then])
              refine bodyPost_ret (v := .tuple #[.agg #[.slice none 0 0], .bool false]) ?_ rfl ?_
              · exact results_cell_row2 rfl _ _ w.heap.size 26 #[.slice none 0 0] (0, 0) _ rfl (by simpa using g2) Tryz.underlying26 rfl (by kernel_rfl) _ rfl
              · exact ⟨_, 0, _, [], false, rfl, hF, OwnS.nil, by simp [numsIn], hbw5.setCell (by simp) _⟩
            | true =>
              have hst := hrow.out.snoc hu (hok rfl)
              replace hst := Lib.hid hst
              replace hu := Lib.hid hu
              have ho5 := (ho3.below f5 (Nat.le_refl _))
              clear hok hno hcu
              go_wp2_with (at_builtin; refine wpList_append1 w5 rfl (.tmp 38) (.tmp 40) 46 rfl w4.heap.size 2 j0 (.int .i64 0) 8 Tryz.underlying46 hj0 hy0 hy1 hy2 rfl (by omega) A3 j c3 _ (.int .i64 x) rfl ho5.1 _ rfl rfl rfl (by omega) (by omega) ?_)
              intro g4 c4 w6 ho6 hg6 hlo6 hlt6 hor6
              have hb6 : Below w4.heap.size w4 w6 := hb5.grown hg6 (by omega) (fun q hq => by have := (ho5.1.lt q hq).1; omega)
              have hz6 := hg6.size
              clear ho3 ho5 hb3 hg6
              go_wp2_with fail
              go_roundw
              case measure => simp [intOf]; omega
              case rel => exact ⟨j + 1, ys ++ [x], _, c4, by omega, by go_num, rfl, hst, by simpa using Own.of_row ho6, by omega, hb6⟩
          · have hjo' : j = Qs.length := by omega
            subst hjo'
            have hrw : RowR ys Qs := by have := hrow.out; rwa [List.take_of_length_le (Nat.le_refl _)] at this
            have hst := hms.out ys hrw
            have gm5 := (hbo.block (w.heap.size + 1) (by omega)).trans gm.out
            have gr5 := (hbo.block w.heap.size (by omega)).trans gr.out
            have C5 : wr.cell? ⟨w.heap.size + 1, 0, none⟩ = some (.slice A2 k c2) := by rw [cell_of_row _ _ _ _ _ _ gm5]; rfl
            obtain ⟨vs, ho9, hrows⟩ := oS.below hbo (Nat.le_refl _)
            have hyl := hrw.1
            have rd5 := rd.below hbo hz
            have hbw : Below w.heap.size w wr := hB9.trans (hbo.mono hzw)
            replace hst := Lib.hid hst
            replace gm5 := Lib.hid gm5
            replace gr5 := Lib.hid gr5
            replace rd5 := Lib.hid rd5
            replace hrw := Lib.hid hrw
            go_wp2_with (at_builtin; refine wpList_append1 wr rfl (.tmp 44) (.tmp 46) 24 rfl w3.heap.size 46 s0 (.slice none 0 0) 24 Tryz.underlying24 hs0 hu0 hu1 hu2 rfl (by omega) A2 k c2 _ (.slice A3 Qs.length c3) rfl (ho9.more (Nat.le_refl _) (by omega)).1 _ rfl rfl rfl (by omega) (by omega) ?_)
            intro g4 c4 w5 ho5 hg5 hlo5 hlt5 hor5
            have hown9 : ∀ q, (Value.slice A2 k c2).ownBlock = some q → w3.heap.size ≤ q := fun q hq => (ho9.1.lt q hq).1
            have g5 := (hg5.block (w.heap.size + 1) (by omega) (fun e => by have := hown9 _ e.symm; omega)).trans gm5.out
            have g6 := (hg5.block w.heap.size (by omega) (fun e => by have := hown9 _ e.symm; omega)).trans gr5.out
            have C6 : w5.cell? ⟨w.heap.size + 1, 0, none⟩ = some (.slice A2 k c2) := by rw [cell_of_row _ _ _ _ _ _ g5]; rfl
            have F6 : w5.frozen? ⟨w.heap.size + 1, 0, none⟩ = false := frozen_of_row _ _ _ _ _ g5
            have hrw5 := (hrows.kept_ty ho9.1 (by decide) hg5).snoc ((ho3.kept_ty ho9.1 (by decide) hg5).more (by omega) (Nat.le_refl _)) (by omega) (by omega)
            have hz5 := hg5.size
            have hb5 : Below w.heap.size w w5 := hbw.grown hg5 (by omega) (fun q hq => by have := hown9 q hq; omega)
            have hb6 : Below w3.heap.size wr w5 := (Below.refl _ _).grown hg5 (by omega) (fun q hq => hown9 q hq)
            have ho5' := Own.of_row ho5
            replace rd5 := rd5.out.below hb6 (Nat.le_refl _)
            replace g5 := Lib.hid g5
            replace g6 := Lib.hid g6
            clear C5 ho9 hrows ho3 hg5 ho5
            go_wp2_with fail
            go_roundw
            case measure => simp [intOf]; omega
            case rel =>
              refine ⟨k + 1, xss ++ [ys], _, c4, by omega, by go_num, hst, ?_, ?_, ⟨vs ++ [.slice A3 Qs.length c3], (ho5'.far (.inl (by simp; omega)) _).more (Nat.le_refl _) (by simp), ?_⟩, rd5.far (.inl (by simp; omega)) _, by simp; omega, hb5.setCell (by simp) _⟩
              · have := heap_setCell_same _ _ 0 _ _ (Value.slice (some ⟨g4, 0, none⟩) (k + 1) c4) g5.out
                simpa using this
              · exact (Below.heap_setCell _ _ _ _ (by simp)).trans g6.out
              · exact (hrw5.keep (same_set _ _ _ _ _ (.inl (by simp; omega)))).more (Nat.le_refl _) (by simp; omega)
      · have hkn : k = Ps.length := by omega
        subst hkn
        have hmt : MatR xss Ps := by have := hmat.out; rwa [List.take_of_length_le (Nat.le_refl _)] at this
        have hF := hpm.out xss hmt
        have C5 : wr.cell? ⟨w.heap.size + 1, 0, none⟩ = some (.slice A2 Ps.length c2) := by rw [cell_of_row _ _ _ _ _ _ gm]; rfl
        have hyB := hB9.size
        have hI := isMan_any A2 Ps.length c2 xss wr oS.rs (Nat.le_refl _) (by obtain ⟨vs, h1, _⟩ := oS; exact own_cap h1)
        have hsm : isManB xss = true → Ps.length + numsIn xss ≤ 1048576 := by
          intro hh
          have h3 := man_ent hh
          have h4 := numsIn_le (n := 400) (fun p hp => (h3.2.2 p hp).2.1)
          have h5 := oS.len
          have := h3.2.1
          have := Nat.mul_le_mul_right 400 this
          omega
        replace hsm := Lib.hid hsm
        replace hmt := Lib.hid hmt
        replace gm := Lib.hid gm
        replace gr := Lib.hid gr
        generalize isManB xss = bm at *
        go_wp2_with fail
        ((with_reducible refine hI.mono ?_); rintro e w5 ⟨rfl, f5⟩)
        clear hI C5
        have y5 := f5.size
        have hb5 : Below w.heap.size w w5 := hB9.trans (f5.mono hyB)
        have gr5 := (f5.block w.heap.size (by omega)).trans gr.out
        have gm5 := (f5.block (w.heap.size + 1) (by omega)).trans gm.out
        have F5 : w5.frozen? ⟨w.heap.size, 0, none⟩ = false := frozen_of_row _ _ _ _ _ gr5
        have C5 : w5.cell? ⟨w.heap.size, 0, none⟩ = some (.slice none 0 0) := by rw [cell_of_row _ _ _ _ _ _ gr5]; rfl
        have C6 : w5.cell? ⟨w.heap.size + 1, 0, none⟩ = some (.slice A2 Ps.length c2) := by rw [cell_of_row _ _ _ _ _ _ gm5]; rfl
        have oS5 := oS.below f5 (Nat.le_refl _)
        replace gr5 := Lib.hid gr5
        replace gm5 := Lib.hid gm5
        cases bm with
        | true =>
          rw [if_pos rfl] at hF
          replace hF := Lib.hid hF
          go_wp2_with fail
          have g2 := heap_setCell_same _ _ 0 _ _ (Value.slice A2 Ps.length c2) gr5.out
          (try simp only [Exit.inBlock, Exit.then])
          refine bodyPost_ret (v := .tuple #[.agg #[.slice A2 Ps.length c2], .bool true]) ?_ rfl ?_
          · exact results_cell_row2 rfl _ _ w.heap.size 26 #[.slice A2 Ps.length c2] (0, 0) _ rfl (by simpa using g2) Tryz.underlying26 rfl (by kernel_rfl) _ rfl
          · exact ⟨A2, Ps.length, c2, xss, true, rfl, hF, (oS5.keep (same_set _ _ _ _ _ (.inl (by simp; omega)))).more (by omega) (by simp; omega), hsm.out (by simp), hb5.setCell (by simp) _⟩
        | false =>
          rw [if_neg (by decide)] at hF
          replace hF := Lib.hid hF
          go_wp2_with fail
          have g2 := heap_setCell_same _ _ 0 _ _ (Value.slice none 0 0) gr5.out
          (try simp only [Exit.inBlock, Exit.then])
          refine bodyPost_ret (v := .tuple #[.agg #[.slice none 0 0], .bool false]) ?_ rfl ?_
          · exact results_cell_row2 rfl _ _ w.heap.size 26 #[.slice none 0 0] (0, 0) _ rfl (by simpa using g2) Tryz.underlying26 rfl (by kernel_rfl) _ rfl
          · exact ⟨_, 0, _, [], false, rfl, hF, OwnS.nil, by simp [numsIn], hb5.setCell (by simp) _⟩
end Go.Proofs.YtcjnhiglfkcmiaaGreatDoor
/- PmX -/
namespace Go.Proofs.YtcjnhiglfkcmiaaGreatDoor
open Go.RowKit
set_option linter.unusedVariables false
set_option maxRecDepth 100000
theorem pmr_res {L : List UInt8} {zss : List (List Int)} (h : PmR L zss true) : (zss, (0 : Int)) = pmF L := by unfold PmR at h; rw [if_pos rfl] at h; exact h.symm
theorem pmr_err {L : List UInt8} {zss : List (List Int)} (h : PmR L zss false) : (([] : List (List Int)), (6 : Int)) = pmF L := by unfold PmR at h; rw [if_neg (by decide)] at h; exact h.symm
theorem pm_val {L : List UInt8} : pmF L = if isManB (valM L) = true then (valM L, 0) else ([], 6) := rfl
theorem own_lit0t (w : World) (T : TypeId) : Own (w.alloc (.cells #[] T)) w.heap.size (w.alloc (.cells #[] T)).heap.size T (some ⟨w.heap.size, 0, none⟩) 0 0 (([] : List Int).map (Value.int .i64)) := own_lit0s w T
theorem l01Split47 (L : List UInt8) (hL : L.length ≤ 4294967297) (w : World) :
    Calls Tryz.prog 23 #[.string (strB L), .int .u8 47] w fun e w' => ∃ (A1 : Option Addr) (c1 : Nat), e = .returned (.slice A1 (spl 47 L).length c1) ∧ Rd w' w.heap.size w'.heap.size A1 (spl 47 L).length ((spl 47 L).map fun p => .string (strB p)) ∧ Below w.heap.size w w' := l01Split_any 47 L hL w
theorem l01Split44 (L : List UInt8) (hL : L.length ≤ 4294967297) (w : World) :
    Calls Tryz.prog 23 #[.string (strB L), .int .u8 44] w fun e w' => ∃ (A1 : Option Addr) (c1 : Nat), e = .returned (.slice A1 (spl 44 L).length c1) ∧ Rd w' w.heap.size w'.heap.size A1 (spl 44 L).length ((spl 44 L).map fun p => .string (strB p)) ∧ Below w.heap.size w w' := l01Split_any 44 L hL w
set_option maxHeartbeats 8000000 in
theorem i_ParseManiplex_any (L : List UInt8) (hL : L.length ≤ 4294967296) (w : World) {B : Nat} (hT : T10 B w) (hE : EV B w) (hM : MX B w) (hB : B ≤ w.heap.size) :
    Calls Tryz.prog 8 #[.string (strB L)] w fun e w' => ∃ (A1 : Option Addr) (n1 c1 : Nat) (zss : List (List Int)) (code : Int), e = .returned (.tuple #[.agg #[.slice A1 n1 c1], .int .i64 code]) ∧ Hid ((zss, code) = pmF L) ∧ OwnS w' w.heap.size w'.heap.size 46 2 A1 n1 c1 zss ∧ n1 + numsIn zss ≤ 1048576 ∧ Below w.heap.size w w' := by
  have hQ : (w.alloc (.cells #[.slice none 0 0] 26)).heap[w.heap.size]? = some (.cells #[.slice none 0 0] 26 (0, 0)) := heap_new _ _ _ rfl
  have hB0 : Below w.heap.size w (w.alloc (.cells #[.slice none 0 0] 26)) := (Below.refl _ _).alloc (Nat.le_refl _) _
  have hP := parseManiplex_any L hL (w.alloc (.cells #[.slice none 0 0] 26)) (hT.on (hB0.mono hB)) (hE.on (hB0.mono hB)) (hM.on (hB0.mono hB)) (by simp; omega)
  go_enter Tryz.func8, Tryz.ntmps8
  go_wp2_with fail
  obtain ⟨W1, hW⟩ : ∃ W1 : World, w.alloc (.cells #[.slice none 0 0] 26) = W1 := ⟨_, rfl⟩
  have hz1 : W1.heap.size = w.heap.size + 1 := by rw [← hW]; simp
  rw [hW] at hQ hB0 hP ⊢
  clear hW
  ((with_reducible refine hP.mono ?_); rintro e w2 ⟨A1, n1, c1, zss, ok, rfl, hr, oS, hnum, f2⟩)
  clear hP
  have y2 := f2.size
  have Q2 := (f2.block w.heap.size (by omega)).trans hQ
  have B2 : Below w.heap.size w w2 := hB0.trans (f2.mono (by omega))
  have gN : (w2.alloc (.cells #[.slice A1 n1 c1] 26)).heap[w2.heap.size]? = some (.cells #[.slice A1 n1 c1] 26 (0, 0)) := heap_new _ _ _ rfl
  have gQ : (w2.alloc (.cells #[.slice A1 n1 c1] 26)).heap[w.heap.size]? = some (.cells #[.slice none 0 0] 26 (0, 0)) := (((Below.refl w2.heap.size w2).alloc (Nat.le_refl _) _).block w.heap.size (by omega)).trans Q2
  have F2 : w2.frozen? ⟨w.heap.size, 0, none⟩ = false := frozen_of_row _ _ _ _ _ Q2
  have C2 : w2.cell? ⟨w.heap.size, 0, none⟩ = some (.slice none 0 0) := by rw [cell_of_row _ _ _ _ _ _ Q2]; rfl
  have Fa : (w2.alloc (.cells #[.slice A1 n1 c1] 26)).frozen? ⟨w.heap.size, 0, none⟩ = false := frozen_of_row _ _ _ _ _ gQ
  have Ca : (w2.alloc (.cells #[.slice A1 n1 c1] 26)).cell? ⟨w.heap.size, 0, none⟩ = some (.slice none 0 0) := by rw [cell_of_row _ _ _ _ _ _ gQ]; rfl
  have Cn : (w2.alloc (.cells #[.slice A1 n1 c1] 26)).cell? ⟨w2.heap.size, 0, none⟩ = some (.slice A1 n1 c1) := by rw [cell_of_row _ _ _ _ _ _ gN]; rfl
  have B3 : Below w.heap.size w (w2.alloc (.cells #[.slice A1 n1 c1] 26)) := B2.alloc (by omega) _
  have oS3 := oS.below ((Below.refl w2.heap.size w2).alloc (Nat.le_refl _) (.cells #[.slice A1 n1 c1] 26)) (Nat.le_refl _)
  replace gN := Lib.hid gN
  replace gQ := Lib.hid gQ
  cases ok with
  | true =>
    replace hr := Lib.hid (pmr_res hr.out)
    go_wp2_with fail
    have g2 := heap_setCell_same _ _ 0 _ _ (Value.slice A1 n1 c1) gQ.out
    (try simp only [Exit.inBlock, Exit.then])
    refine bodyPost_ret (v := .tuple #[.agg #[.slice A1 n1 c1], .int .i64 0]) ?_ rfl ?_
    · exact results_cell_row2 rfl _ _ w.heap.size 26 #[.slice A1 n1 c1] (0, 0) _ rfl (by simpa using g2) Tryz.underlying26 rfl (by kernel_rfl) _ rfl
    · exact ⟨A1, n1, c1, zss, 0, rfl, hr, (oS3.keep (same_set _ _ _ _ _ (.inl (by simp; omega)))).more (by omega) (by simp), hnum, B3.setCell (by simp) _⟩
  | false =>
    replace hr := Lib.hid (pmr_err hr.out)
    go_wp2_with fail
    have g2 := heap_setCell_same _ _ 0 _ _ (Value.slice none 0 0) gQ.out
    (try simp only [Exit.inBlock, Exit.then])
    refine bodyPost_ret (v := .tuple #[.agg #[.slice none 0 0], .int .i64 6]) ?_ rfl ?_
    · exact results_cell_row2 rfl _ _ w.heap.size 26 #[.slice none 0 0] (0, 0) _ rfl (by simpa using g2) Tryz.underlying26 rfl (by kernel_rfl) _ rfl
    · exact ⟨_, 0, _, [], 6, rfl, hr, OwnS.nil, by simp [numsIn], B3.setCell (by simp) _⟩
set_option maxHeartbeats 8000000 in
theorem s_ParseManiplex_any (L : List UInt8) (hL : L.length ≤ 4294967296) (w : World) :
    Calls Tryz.prog 11 #[.string (strB L)] w fun e w' => ∃ (A1 : Option Addr) (n1 c1 : Nat) (zss : List (List Int)) (code : Int), e = .returned (.tuple #[.agg #[.slice A1 n1 c1], .int .i64 code]) ∧ Hid ((zss, code) = pmF L) ∧ OwnS w' w.heap.size w'.heap.size 46 2 A1 n1 c1 zss ∧ n1 + numsIn zss ≤ 1048576 ∧ Below w.heap.size w w' := by
  obtain ⟨s0, hs0, hu0, hu1, hu2⟩ := info_parts infoS
  obtain ⟨j0, hj0, hy0, hy1, hy2⟩ := info_parts infoI
  have B0 : Below w.heap.size w (w.alloc (.cells #[.slice none 0 0] 26)) := (Below.refl _ _).alloc (Nat.le_refl _) _
  have gr : (w.alloc (.cells #[.slice none 0 0] 26)).heap[w.heap.size]? = some (.cells #[.slice none 0 0] 26 (0, 0)) := heap_new _ _ _ rfl
  have hS := l01Split47 L (by omega) (w.alloc (.cells #[.slice none 0 0] 26))
  have hPl := spl_sum 47 L
  have hPm := spl_mem_len 47 L
  have hval : valM L = (spl 47 L).map fun P => (spl 44 P).map valB := rfl
  have hF : pmF L = if isManB (valM L) = true then (valM L, 0) else ([], 6) := rfl
  rw [hval] at hF
  clear hval
  generalize spl 47 L = Ps at *
  replace hPm := Lib.hid hPm
  replace hF := Lib.hid hF
  go_enter Tryz.func11, Tryz.ntmps11
  go_wp2_with fail
  obtain ⟨W1, hW⟩ : ∃ W1 : World, w.alloc (.cells #[.slice none 0 0] 26) = W1 := ⟨_, rfl⟩
  have hz1 : w.heap.size < W1.heap.size := by rw [← hW]; simp
  rw [hW] at B0 gr hS ⊢
  clear hW
  ((with_reducible refine hS.mono ?_); rintro e w2 ⟨AP, cP, rfl, rd2, f2⟩)
  clear hS
  have y2 := f2.size
  have B2 : Below w.heap.size w (w2.alloc (.cells #[.slice none 0 0] 26)) := (B0.trans (f2.mono (by omega))).alloc (by omega) _
  have gm3 : (w2.alloc (.cells #[.slice none 0 0] 26)).heap[w2.heap.size]? = some (.cells #[.slice none 0 0] 26 (0, 0)) := heap_new _ _ _ rfl
  have gr3 : (w2.alloc (.cells #[.slice none 0 0] 26)).heap[w.heap.size]? = some (.cells #[.slice none 0 0] 26 (0, 0)) := (((Below.refl w2.heap.size w2).alloc (Nat.le_refl _) _).block w.heap.size (by omega)).trans ((f2.block w.heap.size (by omega)).trans gr)
  have rd3 := rd2.below ((Below.refl w2.heap.size w2).alloc (Nat.le_refl _) (.cells #[.slice none 0 0] 26)) (Nat.le_refl _)
  clear gr rd2 f2 B0
  go_wp2_with fail
  obtain ⟨w3, hW⟩ : ∃ w3 : World, w2.alloc (.cells #[.slice none 0 0] 26) = w3 := ⟨_, rfl⟩
  have hz3 : w3.heap.size = w2.heap.size + 1 := by rw [← hW]; simp
  rw [hW] at B2 gm3 gr3 rd3 ⊢
  clear hW
  go_loopw [6] (fun kv wq => ∃ (k : Nat) (A2 : Option Addr) (c2 : Nat), k ≤ Ps.length ∧ kv = .int .i64 k ∧ wq.heap[w2.heap.size]? = some (.cells #[.slice A2 k c2] 26 (0, 0)) ∧ wq.heap[w.heap.size]? = some (.cells #[.slice none 0 0] 26 (0, 0)) ∧
      OwnS wq w3.heap.size wq.heap.size 46 2 A2 k c2 ((Ps.take k).map fun P => (spl 44 P).map valB) ∧ Rd wq W1.heap.size w2.heap.size AP Ps.length (Ps.map fun p => .string (strB p)) ∧ w3.heap.size ≤ wq.heap.size ∧ Below w.heap.size w wq) (fun kv _ => Ps.length - (intOf kv).toNat)
  case atStart => exact ⟨0, none, 0, by omega, rfl, gm3, gr3, by simpa using OwnS.nil, rd3, Nat.le_refl _, B2⟩
  case round =>
    clear gm3 gr3 rd3 B2
    obtain ⟨k, A2, c2, hk, rfl, gm, gr, oS, rd, hz, hB9⟩ := hrel
    by_cases hlt : k < Ps.length
    · obtain ⟨P, hP⟩ : ∃ P, Ps[k]? = some P := ⟨Ps[k], List.getElem?_eq_getElem hlt⟩
      obtain ⟨bP, oP, vP, rfl, _, _, hvP, hcP⟩ := rd.at_ hlt
      have hvP2 : vP = .string (strB P) := by
        rw [List.getElem?_map, hP] at hvP
        simpa using hvP.symm
      subst hvP2
      have hPL := hPm.out P (List.mem_of_getElem? hP)
      have hS2 := fun V (hV : Below wr.heap.size wr V) => l01Split44 P (by omega) V
      have hQl := spl_sum 44 P
      have hQm := spl_mem_len 44 P
      have hms : (Ps.take (k + 1)).map (fun P => (spl 44 P).map valB) = (Ps.take k).map (fun P => (spl 44 P).map valB) ++ [(spl 44 P).map valB] := by rw [List.take_add_one, hP]; simp
      replace hvP := Lib.hid hvP
      generalize spl 44 P = Qs at hQl hQm hms hS2
      replace hms := Lib.hid hms
      replace hQm := Lib.hid hQm
      replace hP := Lib.hid hP
      replace gm := Lib.hid gm
      replace gr := Lib.hid gr
      have hS3 := hS2 wr (Below.refl _ _)
      clear hS2
      obtain ⟨wo, rfl⟩ : ∃ wo : World, wo = wr := ⟨_, rfl⟩
      have hzw := hB9.size
      go_wp2_with fail
      ((with_reducible refine hS3.mono ?_); rintro e w4 ⟨AQ, cQ, rfl, rd4, f4⟩)
      clear hS3
      have y4 := f4.size
      have o4 := own_lit0t w4 2
      have f5 := (Below.refl w4.heap.size w4).alloc (Nat.le_refl _) (.cells #[] 2)
      go_wp2_with fail
      obtain ⟨w5, hW⟩ : ∃ w5 : World, w4.alloc (.cells #[] 2) = w5 := ⟨_, rfl⟩
      have hz5 : w4.heap.size ≤ w5.heap.size := by rw [← hW]; simp
      rw [hW] at o4 f5 ⊢
      clear hW
      go_loopw [9, 8] (fun kv lv wq => ∃ (j : Nat) (A3 : Option Addr) (c3 : Nat), j ≤ Qs.length ∧ kv = .int .i64 j ∧ lv = .slice A3 j c3 ∧ Own wq w4.heap.size wq.heap.size 2 A3 j c3 (((Qs.take j).map valB).map (Value.int .i64)) ∧ w4.heap.size ≤ wq.heap.size ∧ Below w4.heap.size w4 wq) (fun kv _ _ => Qs.length - (intOf kv).toNat)
      case atStart => exact ⟨0, _, 0, by omega, rfl, rfl, by simpa using o4, hz5, f5⟩
      case round =>
        obtain ⟨j, A3, c3, hj, rfl, rfl, ho3, hz6, hb3⟩ := hrel
        have hbo : Below wo.heap.size wo wr := f4.trans (hb3.mono y4)
        by_cases hjo : j < Qs.length
        · obtain ⟨u, hu⟩ : ∃ u, Qs[j]? = some u := ⟨Qs[j], List.getElem?_eq_getElem hjo⟩
          obtain ⟨bQ, oQ, vQ, rfl, _, _, hvQ, hcQ⟩ := (rd4.below hb3 (Nat.le_refl _)).at_ hjo
          have hvQ2 : vQ = .string (strB u) := by
            rw [List.getElem?_map, hu] at hvQ
            simpa using hvQ.symm
          subst hvQ2
          have huL := hQm.out u (List.mem_of_getElem? hu)
          have hR := l01Value_any u (by omega) wr
          have hst : (Qs.take (j + 1)).map valB = (Qs.take j).map valB ++ [valB u] := by rw [List.take_add_one, hu]; simp
          replace hst := Lib.hid hst
          replace hu := Lib.hid hu
          replace hvQ := Lib.hid hvQ
          generalize valB u = x at *
          go_wp2_with fail
          ((with_reducible refine hR.mono ?_); rintro e w5 ⟨rfl, rfl⟩)
          clear hR
          go_wp2_with (at_builtin; refine wpList_append1 _ rfl (.tmp 31) (.tmp 37) 46 rfl w4.heap.size 2 j0 (.int .i64 0) 8 Tryz.underlying46 hj0 hy0 hy1 hy2 rfl (by omega) A3 j c3 _ (.int .i64 x) rfl ho3.1 _ rfl rfl rfl (by omega) (by omega) ?_)
          intro g4 c4 w6 ho6 hg6 hlo6 hlt6 hor6
          have hb6 : Below w4.heap.size w4 w6 := hb3.grown hg6 (by omega) (fun q hq => by have := (ho3.1.lt q hq).1; omega)
          have hz6 := hg6.size
          have ho7 : Own w6 w4.heap.size w6.heap.size 2 (some ⟨g4, 0, none⟩) (j + 1) c4 (((Qs.take (j + 1)).map valB).map (Value.int .i64)) := by rw [hst.out]; simpa using Own.of_row ho6
          clear ho3 hb3 hg6 ho6 hcQ
          go_wp2_with fail
          go_roundw
          case measure => simp [intOf]; omega
          case rel => exact ⟨j + 1, _, c4, by omega, by go_num, rfl, ho7, by omega, hb6⟩
        · have hjo' : j = Qs.length := by omega
          subst hjo'
          rw [List.take_of_length_le (Nat.le_refl _)] at ho3
          have gm5 := (hbo.block w2.heap.size (by omega)).trans gm.out
          have gr5 := (hbo.block w.heap.size (by omega)).trans gr.out
          have C5 : wr.cell? ⟨w2.heap.size, 0, none⟩ = some (.slice A2 k c2) := by rw [cell_of_row _ _ _ _ _ _ gm5]; rfl
          obtain ⟨vs, ho9, hrows⟩ := oS.below hbo (Nat.le_refl _)
          have rd5 := rd.below hbo (by omega)
          have hbw : Below w.heap.size w wr := hB9.trans (hbo.mono hzw)
          replace gm5 := Lib.hid gm5
          replace gr5 := Lib.hid gr5
          replace rd5 := Lib.hid rd5
          go_wp2_with (at_builtin; refine wpList_append1 wr rfl (.tmp 40) (.tmp 42) 24 rfl w3.heap.size 46 s0 (.slice none 0 0) 24 Tryz.underlying24 hs0 hu0 hu1 hu2 rfl (by omega) A2 k c2 _ (.slice A3 Qs.length c3) rfl (ho9.more (Nat.le_refl _) (by omega)).1 _ rfl rfl rfl (by omega) (by omega) ?_)
          intro g4 c4 w5 ho5 hg5 hlo5 hlt5 hor5
          have hown9 : ∀ q, (Value.slice A2 k c2).ownBlock = some q → w3.heap.size ≤ q := fun q hq => (ho9.1.lt q hq).1
          have g5 := (hg5.block w2.heap.size (by omega) (fun e => by have := hown9 _ e.symm; omega)).trans gm5.out
          have g6 := (hg5.block w.heap.size (by omega) (fun e => by have := hown9 _ e.symm; omega)).trans gr5.out
          have C6 : w5.cell? ⟨w2.heap.size, 0, none⟩ = some (.slice A2 k c2) := by rw [cell_of_row _ _ _ _ _ _ g5]; rfl
          have F6 : w5.frozen? ⟨w2.heap.size, 0, none⟩ = false := frozen_of_row _ _ _ _ _ g5
          have hrw5 := (hrows.kept_ty ho9.1 (by decide) hg5).snoc ((ho3.kept_ty ho9.1 (by decide) hg5).more (by omega) (Nat.le_refl _)) (by omega) (by omega)
          rw [← hms.out] at hrw5
          have hz5 := hg5.size
          have hb5 : Below w.heap.size w w5 := hbw.grown hg5 (by omega) (fun q hq => by have := hown9 q hq; omega)
          have hb6 : Below w3.heap.size wr w5 := (Below.refl _ _).grown hg5 (by omega) (fun q hq => hown9 q hq)
          have ho5' := Own.of_row ho5
          replace rd5 := rd5.out.below hb6 (by omega)
          replace g5 := Lib.hid g5
          replace g6 := Lib.hid g6
          clear C5 ho9 hrows ho3 hg5 ho5
          go_wp2_with fail
          go_roundw
          case measure => simp [intOf]; omega
          case rel =>
            refine ⟨k + 1, some ⟨g4, 0, none⟩, c4, by omega, by go_num, ?_, ?_, ⟨vs ++ [.slice A3 Qs.length c3], ?_, ?_⟩, ?_, by simp; omega, hb5.setCell (show w.heap.size ≤ w2.heap.size by omega) _⟩
            · have := heap_setCell_same _ _ 0 _ _ (Value.slice (some ⟨g4, 0, none⟩) (k + 1) c4) g5.out
              simpa using this
            · exact (Below.heap_setCell _ _ _ _ (by simp; omega)).trans g6.out
            · exact (ho5'.keep (same_set _ _ _ _ _ (.inl (by first | (show w2.heap.size < w3.heap.size; omega) | (show w2.heap.size < w2.heap.size + 1; omega))))).more (by omega) (by simp)
            · exact (hrw5.keep (same_set _ _ _ _ _ (.inl (by first | (show w2.heap.size < w3.heap.size; omega) | (show w2.heap.size < w2.heap.size + 1; omega))))).more (by omega) (by simp; omega)
            · exact rd5.keep (same_set _ _ _ _ _ (.inr (show w2.heap.size ≤ w2.heap.size by omega)))
    · have hkn : k = Ps.length := by omega
      subst hkn
      rw [List.take_of_length_le (Nat.le_refl _)] at oS
      have C5 : wr.cell? ⟨w2.heap.size, 0, none⟩ = some (.slice A2 Ps.length c2) := by rw [cell_of_row _ _ _ _ _ _ gm]; rfl
      have hyB := hB9.size
      generalize Ps.map (fun P => (spl 44 P).map valB) = xss at *
      have hI := l02Is_any A2 Ps.length c2 xss wr oS.rs (Nat.le_refl _)
      have hsm : isManB xss = true → Ps.length + numsIn xss ≤ 1048576 := by
        intro hh
        have h3 := man_ent hh
        have h4 := numsIn_le (n := 400) (fun p hp => (h3.2.2 p hp).2.1)
        have h5 := oS.len
        have := h3.2.1
        have := Nat.mul_le_mul_right 400 this
        omega
      replace hF := hF.out
      replace hsm := Lib.hid hsm
      replace gm := Lib.hid gm
      replace gr := Lib.hid gr
      generalize isManB xss = bm at *
      replace hF := Lib.hid hF
      go_wp2_with fail
      ((with_reducible refine hI.mono ?_); rintro e w5 ⟨rfl, f5⟩)
      clear hI C5
      have y5 := f5.size
      have hb5 : Below w.heap.size w w5 := hB9.trans (f5.mono hyB)
      have gr5 := (f5.block w.heap.size (by omega)).trans gr.out
      have gm5 := (f5.block w2.heap.size (by omega)).trans gm.out
      have F5 : w5.frozen? ⟨w.heap.size, 0, none⟩ = false := frozen_of_row _ _ _ _ _ gr5
      have C5 : w5.cell? ⟨w.heap.size, 0, none⟩ = some (.slice none 0 0) := by rw [cell_of_row _ _ _ _ _ _ gr5]; rfl
      have C6 : w5.cell? ⟨w2.heap.size, 0, none⟩ = some (.slice A2 Ps.length c2) := by rw [cell_of_row _ _ _ _ _ _ gm5]; rfl
      have oS5 := oS.below f5 (Nat.le_refl _)
      replace gr5 := Lib.hid gr5
      replace gm5 := Lib.hid gm5
      replace hF := hF.out
      cases bm with
      | true =>
        replace hF : Hid ((xss, (0 : Int)) = pmF L) := Lib.hid (by rw [hF]; simp)
        go_wp2_with fail
        have g2 := heap_setCell_same _ _ 0 _ _ (Value.slice A2 Ps.length c2) gr5.out
        (try simp only [Exit.inBlock, Exit.then])
        refine bodyPost_ret (v := .tuple #[.agg #[.slice A2 Ps.length c2], .int .i64 0]) ?_ rfl ?_
        · exact results_cell_row2 rfl _ _ w.heap.size 26 #[.slice A2 Ps.length c2] (0, 0) _ rfl (by simpa using g2) Tryz.underlying26 rfl (by kernel_rfl) _ rfl
        · exact ⟨A2, Ps.length, c2, xss, 0, rfl, hF, (oS5.keep (same_set _ _ _ _ _ (.inl (by simp; omega)))).more (by omega) (by simp; omega), hsm.out (by simp), hb5.setCell (by simp) _⟩
      | false =>
        replace hF : Hid ((([] : List (List Int)), (6 : Int)) = pmF L) := Lib.hid (by rw [hF]; simp)
        go_wp2_with fail
        have g2 := heap_setCell_same _ _ 0 _ _ (Value.slice none 0 0) gr5.out
        (try simp only [Exit.inBlock, Exit.then])
        refine bodyPost_ret (v := .tuple #[.agg #[.slice none 0 0], .int .i64 6]) ?_ rfl ?_
        · exact results_cell_row2 rfl _ _ w.heap.size 26 #[.slice none 0 0] (0, 0) _ rfl (by simpa using g2) Tryz.underlying26 rfl (by kernel_rfl) _ rfl
        · exact ⟨_, 0, _, [], 6, rfl, hF, OwnS.nil, by simp [numsIn], hb5.setCell (by simp) _⟩
end Go.Proofs.YtcjnhiglfkcmiaaGreatDoor
/- Like -/
namespace Go.Proofs.YtcjnhiglfkcmiaaGreatDoor
open Go.RowKit
set_option linter.unusedVariables false
set_option maxRecDepth 100000
set_option maxHeartbeats 400000 in
theorem like_q (A : Option Addr) (n c : Nat) (xs : List Int) (A' : Option Addr) (n' c' : Nat) (ys : List Int) (w : World) (lo hi lo' hi' : Nat) (h : RI w lo hi A n xs) (h' : RI w lo' hi' A' n' ys) (hhi : hi ≤ w.heap.size) (hhi' : hi' ≤ w.heap.size) :
    Calls Tryz.prog 43 #[.slice A n c, .slice A' n' c'] w fun e w' => e = .returned (.bool (decide (xs = ys))) ∧ ∃ m, w' = w.drewN m := by
  have hm := h.max
  have hm' := h'.max
  have hl := h.len
  have hl' := h'.len
  replace hl := Lib.hid hl
  replace hl' := Lib.hid hl'
  by_cases hne : n = n'
  · subst hne
    go_enter Tryz.func43, Tryz.ntmps43
    go_wp2
    go_loopw [5] (fun i wr => ∃ k : Nat, k ≤ n ∧ i = .int .i64 k ∧ (∀ j, j < k → xs[j]? = ys[j]?) ∧ (∃ m, wr = w.drewN m)) (fun i wr => n - (intOf i).toNat)
    case atStart => exact ⟨0, by omega, rfl, fun j hj => absurd hj (by omega), 0, rfl⟩
    case round =>
      obtain ⟨k, hk, rfl, hys, md, hmd⟩ := hrel
      have hb : Below w.heap.size w wr := by rw [hmd]; exact below_drewN (Below.refl _ _) _
      replace hmd := Lib.hid hmd
      replace hys := Lib.hid hys
      by_cases hlt : k < n
      · obtain ⟨b, o, x, rfl, _, _, hx, hc⟩ := (h.below hb hhi).at_ hlt
        obtain ⟨b', o', y, rfl, _, _, hy, hc'⟩ := (h'.below hb hhi').at_ hlt
        replace hx := Lib.hid hx
        replace hy := Lib.hid hy
        by_cases hxy : x = y
        · subst hxy
          go_wp2
          go_quiet (fail)
          go_wp2
          go_roundw
          case rel =>
            refine ⟨k + 1, by omega, by go_num, fun j hj => ?_, md + nq, by rw [hmd.out, World.drewN_drewN]⟩
            by_cases e : j = k
            · subst e; rw [hx.out, hy.out]
            · exact hys.out j (by omega)
          case measure => simp [intOf]; omega
        · have hxy' : (x != y) = true := by simpa using hxy
          go_wp2
          go_quiet (fail)
          go_wp2
          go_ret
          refine ⟨ret_bool ?_, md + nq, by rw [hmd.out, World.drewN_drewN]⟩
          have hx := hx.out
          have hy := hy.out
          symm
          apply decide_eq_false
          rintro rfl
          rw [hx] at hy
          exact hxy (Option.some.inj hy)
      · go_wp2
        go_ret
        refine ⟨ret_bool ?_, md, hmd.out⟩
        have hl := hl.out
        have hl' := hl'.out
        symm
        apply decide_eq_true
        exact list_ext_upto k (by omega) (by omega) hys.out
  · have hne' : ((n : Int) != (n' : Int)) = true := by simp; omega
    go_enter Tryz.func43, Tryz.ntmps43
    go_wp2
    go_ret
    refine ⟨ret_bool ?_, 0, rfl⟩
    have hl := hl.out
    have hl' := hl'.out
    symm
    apply decide_eq_false
    rintro rfl
    omega

theorem like_any (A : Option Addr) (n c : Nat) (xs : List Int) (A' : Option Addr) (n' c' : Nat) (ys : List Int) (w : World) (lo hi lo' hi' : Nat) (h : RI w lo hi A n xs) (h' : RI w lo' hi' A' n' ys) (hhi : hi ≤ w.heap.size) (hhi' : hi' ≤ w.heap.size) :
    Calls Tryz.prog 43 #[.slice A n c, .slice A' n' c'] w fun e w' => e = .returned (.bool (decide (xs = ys))) ∧ Below w.heap.size w w' :=
  (like_q A n c xs A' n' c' ys w lo hi lo' hi' h h' hhi hhi').mono fun e w' ⟨he, m, hm⟩ => ⟨he, by rw [hm]; exact below_drewN (Below.refl _ _) _⟩

end Go.Proofs.YtcjnhiglfkcmiaaGreatDoor
/- Lk5 -/
namespace Go.Proofs.YtcjnhiglfkcmiaaGreatDoor
open Go.RowKit
set_option linter.unusedVariables false
set_option maxRecDepth 100000
set_option maxHeartbeats 2000000 in
theorem likeRows_any (A : Option Addr) (n c : Nat) (xss : List (List Int)) (A' : Option Addr) (n' c' : Nat) (w : World) {lo hi lo' hi' : Nat} (h : RS w lo hi A n xss) (h' : RS w lo' hi' A' n' xss) (hhi : hi ≤ w.heap.size) (hhi' : hi' ≤ w.heap.size) :
    Calls Tryz.prog 19 #[.slice A n c, .slice A' n' c'] w fun e w' => e = .returned (.bool true) ∧ Below w.heap.size w w' := by
  have hm := h.max
  have hl := h.len
  have hl' := h'.len
  obtain rfl : n = n' := by omega
  clear hl hl'
  go_enter Tryz.func19, Tryz.ntmps19
  go_wp2_with fail
  go_loopw [5] (fun iv wq => ∃ k : Nat, k ≤ n ∧ iv = .int .i64 k ∧ Below w.heap.size w wq) (fun iv _ => n - (intOf iv).toNat)
  case atStart => exact ⟨0, by omega, rfl, Below.refl _ _⟩
  case round =>
    obtain ⟨k, hk, rfl, hB⟩ := hrel
    by_cases hlt : k < n
    · have y1 := hB.size
      have Bd := below_drw hB
      obtain ⟨b1, u1, A1, n1, c1, r1, rfl, _, _, hr1, hc1, hR1⟩ := (h.below Bd hhi).at_ hlt
      obtain ⟨b2, u2, A2, n2, c2, r2, rfl, _, _, hr2, hc2, hR2⟩ := (h'.below Bd hhi').at_ hlt
      obtain rfl : r1 = r2 := by rw [hr1] at hr2; exact Option.some.inj hr2
      have hc1' : wr.cell? ⟨b1, u1 + k, none⟩ = some (.slice A1 n1 c1) := hc1
      have hc2' : wr.cell? ⟨b2, u2 + k, none⟩ = some (.slice A2 n2 c2) := hc2
      have hlk := like_any A1 n1 c1 r1 A2 n2 c2 r1 wr.drew _ _ _ _ hR1 hR2 (by simp; omega) (by simp; omega)
      rw [decide_eq_true (rfl : r1 = r1)] at hlk
      replace hr1 := Lib.hid hr1
      replace hr2 := Lib.hid hr2
      replace hlk := Lib.hid hlk
      replace Bd := Lib.hid Bd
      clear hR1 hR2 hc1 hc2
      go_wp2_with fail
      go_region_law? (refine step_call rfl 43 #[.slice A1 n1 c1, .slice A2 n2 c2] (by go_simp) hlk.out ?_; rintro e w6 ⟨rfl, f6⟩; refine ⟨_, rfl, ?_⟩)
      all_goals
        have B6 : Below w.heap.size w w6 := below_then Bd.out f6 (by simp; omega)
        clear f6
        go_wp2_with fail
        go_roundw
        case measure => simp [intOf]; omega
        case rel => exact ⟨k + 1, by omega, by go_num, B6⟩
    · obtain rfl : k = n := by omega
      go_wp2_with fail
      go_ret
      exact ⟨rfl, hB⟩
theorem like5_any (A : Option Addr) (n c : Nat) (xss : List (List Int)) (A' : Option Addr) (n' c' : Nat) (w : World) {lo hi lo' hi' : Nat} (h : RS w lo hi A n xss) (h' : RS w lo' hi' A' n' xss) (hhi : hi ≤ w.heap.size) (hhi' : hi' ≤ w.heap.size) :
    Calls Tryz.prog 9 #[.agg #[.slice A n c], .agg #[.slice A' n' c']] w fun e w' => e = .returned (.bool true) ∧ Below w.heap.size w w' := by
  have hm := h.max
  have hR := rs_alloc (rs_alloc h hhi (.cells #[.slice A n c] 26)) (by simp; omega) (.cells #[.slice A' n' c'] 26)
  have hR' := rs_alloc (rs_alloc h' hhi' (.cells #[.slice A n c] 26)) (by simp; omega) (.cells #[.slice A' n' c'] 26)
  have hB : Below w.heap.size w ((w.alloc (.cells #[.slice A n c] 26)).alloc (.cells #[.slice A' n' c'] 26)) := ((Below.refl _ _).alloc (Nat.le_refl _) _).alloc (by simp) _
  have hC : ((w.alloc (.cells #[.slice A n c] 26)).alloc (.cells #[.slice A' n' c'] 26)).cell? ⟨w.heap.size, 0, none⟩ = some (.slice A n c) := (al_old _ _ _ _ (by simp)).trans (al_new _ _ _ _ rfl)
  have hlk := likeRows_any A n c xss A' n' c' _ hR hR' (by simp; omega) (by simp; omega)
  go_enter Tryz.func9, Tryz.ntmps9
  go_wp2_with fail
  ((with_reducible refine hlk.mono ?_); rintro e w2 ⟨rfl, f2⟩)
  go_wp2_with fail
  go_ret
  exact ⟨rfl, below_then hB f2 (by simp; omega)⟩
end Go.Proofs.YtcjnhiglfkcmiaaGreatDoor
/- LawQ -/
namespace Go.Proofs.YtcjnhiglfkcmiaaGreatDoor
open Go.RowKit
set_option linter.unusedVariables false
set_option maxRecDepth 100000
theorem bigl_any (a : Option Addr) (n c : Nat) (w : World) (hn : n ≤ 9223372036854775807) : Calls Tryz.prog 4 #[.slice a n c] w fun e w' => e = .returned (.bool (decide (4096 < n))) ∧ w = w' := by
  have hd : decide ((4096 : Int) < (n : Int)) = decide (4096 < n) := decide_eq_decide.2 (by omega)
  replace hd := Lib.hid hd
  go_enter Tryz.func4, Tryz.ntmps4
  go_wp2_with fail
  go_ret
  exact ⟨ret_bool hd.out, rfl⟩
end Go.Proofs.YtcjnhiglfkcmiaaGreatDoor
/- Crd -/
namespace Go.Proofs.YtcjnhiglfkcmiaaGreatDoor
open Go.ChangeShapes Go.WideShapes Go.ChangeAt Go.RowKit
set_option linter.unusedVariables false
section
variable {H : Type} {enc : TypeId × Value → H}
theorem handed_and_shaped {a : Assume} {C : Checked} {os : Os} {f : FuncId} {fn : Func} {s : ChangeSpec} {conds : List PathCond} {apart fresh handsOn again : Bool} {X : World → Array Value → Prop}
    (hX : ∀ (w w' : World) (args : Array Value), w.heap = w'.heap → X w args → X w' args)
    (own : ownKnob C.prog.godebug = none) (started : os.Started) (noInit : C.prog.inits.idxOf? f = none) (hfn : C.prog.funcs[f]? = some fn)
    (witness : ∃ (w : World) (tape : Tape) (i : Input), w.os = os ∧ (w.forCall tape i).Shaped C.prog ∧ i.vars = [] ∧ Input.okWide C.prog (w.forCall tape i) .any w.heap.size f i ∧
      ((s.pre enc C.prog fn conds apart (w.forCall tape i).memory i.args ∧ X (w.forCall tape i).memory i.args) ∧ sizedMet enc C.prog fn (OpenSpec.ofChange s) apart (w.forCall tape i).memory i.args) ∧ a.holds C.prog (lone (Frame.enter C.prog f i.args .normal) [] (w.forCall tape i)))
    (contract : ∀ (W : World) (base : Nat) (args : Array Value) (ds gs : List (DataW H)) (before : List MemPlace),
      (∀ (j : Nat) t v, fn.params[j]? = some t → args[j]? = some v → Value.okWide C.prog W .any base t v) →
      DataW.Whole enc C.prog fn.params.toList s.vars apart W args.toList ds gs before →
      X W args → W.ShapedOpen C.prog →
      Calls C.prog f args W fun e W' => ∃ v, e = .returned v ∧ s.post enc C.prog fn apart fresh handsOn again W args v W') :
    ReturnsInHanded a C os f .any (fun w args => (s.pre enc C.prog fn conds apart w args ∧ X w args) ∧ sizedMet enc C.prog fn (OpenSpec.ofChange s) apart w args) (s.post enc C.prog fn apart fresh handsOn again) := by
  refine returnsInHanded_of_calls own started noInit witness ?_
  intro w tape i _ hsh _ hok hpre hholds
  obtain ⟨_, _, _, fn', hfn', _, _, _, _, hval⟩ := hok
  have e : fn' = fn := Option.some.inj (hfn'.symm.trans hfn)
  subst e
  obtain ⟨⟨⟨ds, gs, before, hw, hc⟩, hx⟩, hz⟩ := hpre
  have hw' := DataW.Whole.of_heap (w' := w.forCall tape i) (by rfl) hw
  refine (contract (w.forCall tape i) w.heap.size i.args ds gs before hval hw' (hX _ _ _ (by rfl) hx) hsh).mono fun e W' ⟨v, he, hp⟩ => ?_
  subst he
  exact ChangeSpec.post_blind hp
end
theorem lt_of_cell {W : World} {g o : Nat} {v : Value} (h : W.cell? ⟨g, o, none⟩ = some v) : g < W.heap.size := by
  by_cases hg : g < W.heap.size
  · exact hg
  · have : W.heap[g]? = none := by simp; omega
    simp [World.cell?, this] at h
theorem mx_of_shaped {W : World} (h : W.ShapedOpen Tryz.prog) : MX W.heap.size W := by
  obtain ⟨m, hm⟩ := cell_of_shapedOpen_int (g := 0) (t := 3) (zero := #[.int .i64 0]) (k := .i64) h (of_decide_eq_true (by kernel_rfl)) (by kernel_rfl) rfl (by kernel_rfl) (by kernel_rfl) Tryz.underlying3
  exact ⟨m, fun w' hb => (hb.cell (p := ⟨0, 0, none⟩) (lt_of_cell hm)).trans hm⟩
end Go.Proofs.YtcjnhiglfkcmiaaGreatDoor
/- CrdE -/
namespace Go.Proofs.YtcjnhiglfkcmiaaGreatDoor
open Go.ChangeShapes Go.WideShapes Go.ChangeAt Go.RowKit
set_option linter.unusedVariables false
theorem var_all {P : Program} {n : String} {W : World} {cs : Array Value} (hv : W.var? P n = some cs) : ∀ w', Below W.heap.size W w' → w'.var? P n = some cs := by
  intro w' hb
  unfold World.var? at hv ⊢
  cases hg : P.globalNamed n with
  | none => rw [hg] at hv; simp at hv
  | some g =>
    rw [hg] at hv
    simp only [Option.bind_some] at hv ⊢
    have hlt : g < W.heap.size := by
      by_cases h : g < W.heap.size
      · exact h
      · have : W.heap[g]? = none := by simp; omega
        rw [this] at hv
        simp at hv
    rw [hb.block g hlt]
    exact hv
theorem star_es : "*" ++ "errors.errorString" = "*errors.errorString" := by decide
theorem row_es (u : TypeId) (h : Tryz.prog.typeName? 3 u = some "*errors.errorString") : u = 139 :=
  typeName_ptr_named (nm := "errors.errorString") (by rw [star_es]; kernel_rfl) (by kernel_rfl) (by decide) u (by rw [star_es]; exact h)
theorem ev_of {x1 x2 : List UInt8} {r1 r2 : List (String × DataW Unit)} {W : World}
    (h4 : laidMet Tryz.prog (("strconv.ErrRange", .iface "*errors.errorString" (.ptr (.agg [.lit (.string x1)]))) :: r1) W)
    (h5 : laidMet Tryz.prog (("strconv.ErrSyntax", .iface "*errors.errorString" (.ptr (.agg [.lit (.string x2)]))) :: r2) W) : EV W.heap.size W := by
  obtain ⟨a, s, hv, _⟩ := laid_sentinel (g := 4) (ti := 80) (tp := 139) (te := 141) (ts := 9) h4 (by kernel_rfl) (by kernel_rfl) Tryz.underlying80 row_es Tryz.underlying139 Tryz.underlying141 rfl rfl Tryz.underlying9 (by kernel_rfl) (by kernel_rfl)
  obtain ⟨a2, s2, hv2, _⟩ := laid_sentinel (g := 3) (ti := 80) (tp := 139) (te := 141) (ts := 9) h5 (by kernel_rfl) (by kernel_rfl) Tryz.underlying80 row_es Tryz.underlying139 Tryz.underlying141 rfl rfl Tryz.underlying9 (by kernel_rfl) (by kernel_rfl)
  exact ⟨⟨_, _, var_all hv2⟩, ⟨_, _, var_all hv⟩⟩
end Go.Proofs.YtcjnhiglfkcmiaaGreatDoor
/- LManiplexTexts -/
namespace Go.Proofs.YtcjnhiglfkcmiaaGreatDoor.fnManiplexTexts
open Go.ChangeShapes Go.WideShapes Go.ChangeAt Go.RowKit
open Go.ChangeMaps (open_string shut_string)
set_option linter.unusedVariables false
theorem own : ownKnob Tryz.prog.godebug = none := by kernel_rfl
theorem laidOut : laidOutB Tryz.prog = true := by kernel_rfl
/-- what the condition gives the walk: the table of the powers of ten -/
theorem t10 {W : World} (h : laidMetH Tryz.prog Rows.fnManiplexTextsRow.laid W) : T10 W.heap.size W := by
  rw [MakeChecks.laidMetH_plain _ _ _ (by kernel_rfl)] at h
  exact Lib.tabBelow_of_tabIs (Lib.tabIs_of_head (g := 5) (t := 135) (e := 51) (n := 20) (by kernel_rfl) (by kernel_rfl) Tryz.underlying135 Tryz.underlying51 (by kernel_rfl) (by kernel_rfl) h.tail.tail)
theorem evs {W : World} (h : laidMetH Tryz.prog Rows.fnManiplexTextsRow.laid W) : EV W.heap.size W := by
  rw [MakeChecks.laidMetH_plain _ _ _ (by kernel_rfl)] at h
  exact ev_of h.tail.tail.tail.tail h.tail.tail.tail.tail.tail
theorem str_same (s : List UInt8) : (s == s) = true ∧ (s != s) = false := by simp
theorem mt_code {xss : List (List Int)} : (mtF xss).2 = 0 ∨ (mtF xss).2 = 1 := by
  unfold mtF
  by_cases hp : isManB xss = true
  · rw [if_pos hp]; exact .inl rfl
  · rw [if_neg hp]; exact .inr rfl
theorem mt_zero {xss : List (List Int)} {s : List UInt8} (h : mtF xss = (s, 0)) : isManB xss = true ∧ s = txtB xss := by
  unfold mtF at h
  by_cases hp : isManB xss = true
  · rw [if_pos hp] at h
    exact ⟨hp, (Prod.mk.inj h).1.symm⟩
  · rw [if_neg hp] at h
    have := (Prod.mk.inj h).2
    omega
theorem pm_back {xss : List (List Int)} (h : isManB xss = true) : pmF (txtB xss) = (xss, 0) := by
  unfold pmF
  rw [val_back h, if_pos h]
theorem pm_sound {L : List UInt8} {zss : List (List Int)} (h : pmF L = (zss, 0)) : mtF zss = (L, 0) := by
  unfold pmF at h
  by_cases hp : isManB (valM L) = true
  · rw [if_pos hp] at h
    have e : valM L = zss := (Prod.mk.inj h).1
    have ht := val_txt hp
    rw [e] at hp ht
    unfold mtF
    rw [if_pos hp, ht]
  · rw [if_neg hp] at h
    have := (Prod.mk.inj h).2
    omega
theorem man_txt_len {xss : List (List Int)} (h : isManB xss = true) : (txtB xss).length ≤ 100000 := by
  have h1 := man_ent h
  have h2 := txt_len4 xss fun xs hx => ⟨(h1.2.2 xs hx).2.1, (h1.2.2 xs hx).2.2⟩
  have h3 := h1.2.1
  have h4 : xss.length * 1601 ≤ 5 * 1601 := Nat.mul_le_mul_right _ h3
  omega
set_option maxRecDepth 100000 in
set_option maxHeartbeats 8000000 in
theorem walk (a : Option Addr) (n c : Nat) (bs : List Int) (w : World) (h : Rd w 0 w.heap.size a n (bs.map (Value.int .u8))) (hb : ∀ x ∈ bs, 0 ≤ x ∧ x < 256) (hT : T10 w.heap.size w) (hM : MX w.heap.size w) (hE : EV w.heap.size w) :
    Calls Tryz.prog 3 #[.slice a n c] w fun e w' => e = .returned (.bool true) ∧ Below w.heap.size w w' := by
  have hm := h.2.1
  have hbig := bigl_any a n c w hm
  by_cases h4 : 4096 < n
  · rw [decide_eq_true h4] at hbig
    replace hb := Lib.hid hb
    go_enter Tryz.func3, Tryz.ntmps3
    go_wp2_with fail
    ((with_reducible refine hbig.mono ?_); rintro e w' ⟨rfl, rfl⟩)
    go_wp2_with fail
    go_ret
    exact ⟨rfl, Below.refl _ _⟩
  · rw [decide_eq_false h4] at hbig
    have hdr := drawManText_any w a n c bs h hb (by omega)
    have hdp := fun V (hV : Below w.heap.size w V) => drawParseMan_any V a n c bs ((h.keep (Same.of_below hV (Nat.le_refl _))).more (Nat.le_refl _) hV.size) hb (by omega)
    replace hb := Lib.hid hb
    go_enter Tryz.func3, Tryz.ntmps3
    go_wp2_with fail
    ((with_reducible refine hbig.mono ?_); rintro e w' ⟨rfl, rfl⟩)
    go_wp2_with fail
    ((with_reducible refine hdr.mono ?_); rintro e w1 ⟨A1, m, c1, rfl, xss, R1, hmc, f1⟩)
    clear hbig hdr
    have y1 := f1.size
    have hmx := R1.max
    go_wp2_with fail
    obtain ⟨w2, hw2⟩ : ∃ w2, w1.alloc (.cells #[.slice A1 m c1] 26) = w2 := ⟨_, rfl⟩
    have Ba : Below w1.heap.size w1 w2 := by rw [← hw2]; exact (Below.refl _ _).alloc (Nat.le_refl _) _
    have C2 : w2.cell? ⟨w1.heap.size, 0, none⟩ = some (.slice A1 m c1) := by rw [← hw2]; exact al_new _ _ _ _ rfl
    have y2 : w1.heap.size < w2.heap.size := by rw [← hw2]; simp
    rw [hw2]
    have R2 := R1.below Ba (Nat.le_refl _)
    have B2 : Below w.heap.size w w2 := f1.trans (Ba.mono y1)
    obtain ⟨b, hbq⟩ : ∃ b, w1.heap.size = b := ⟨_, rfl⟩
    rw [hbq] at C2 y1 y2 R2 ⊢
    clear hw2 Ba f1 R1 hbq
    go_wp2_with fail
    ((with_reducible refine (i_ManiplexText_any w2 A1 m c1 xss R2 (by omega) hmc (hT.on B2) (hM.on B2) (by omega)).mono ?_); rintro e w3 ⟨s, code, rfl, H3, f3⟩)
    have y3 := f3.size
    have B3 := below_then B2 f3 (by omega)
    have R3 := R2.below f3 (by omega)
    have C3 := (f3.cell (p := ⟨b, 0, none⟩) (by simp; omega)).trans C2
    clear C2 R2
    go_wp2_with fail
    ((with_reducible refine (s_ManiplexText_any w3 A1 m c1 xss R3 (by omega) hmc).mono ?_); rintro e w4 ⟨s2, code2, rfl, H4, f4⟩)
    have y4 := f4.size
    have B4 := below_then B3 f4 (by omega)
    have R4 := R3.below f4 (by omega)
    have C4 := (f4.cell (p := ⟨b, 0, none⟩) (by simp; omega)).trans C3
    clear C3 R3
    obtain ⟨rfl, rfl⟩ : s = s2 ∧ code = code2 := by have e := H3.out.trans H4.out.symm; exact Prod.mk.inj e
    clear H4
    obtain ⟨hss, hss2⟩ := str_same s
    have hcc : (code != code) = false := by simp
    have hcode : code = 0 ∨ code = 1 := by have e := congrArg Prod.snd H3.out; have := mt_code (xss := xss); simp only at e; omega
    rcases hcode with rfl | rfl
    · obtain ⟨hpx, rfl⟩ := mt_zero H3.out.symm
      have hback := pm_back hpx
      have hpl := man_txt_len hpx
      have d0 : ((0 : Int) == 0) = true := rfl
      generalize txtB xss = s at *
      replace hback := Lib.hid hback
      replace hpx := Lib.hid hpx
      clear H3
      go_wp2_with fail
      ((with_reducible refine (i_ParseManiplex_any s (by omega) w4 (hT.on B4) (hE.on B4) (hM.on B4) (by omega)).mono ?_); rintro e w5 ⟨A5, n5, c5, zss, code5, rfl, H5, o5, hn5, f5⟩)
      have y5 := f5.size
      have B5 := below_then B4 f5 (by omega)
      have R5 := R4.below f5 (by omega)
      have C5 := (f5.cell (p := ⟨b, 0, none⟩) (by simp; omega)).trans C4
      clear C4 R4
      obtain ⟨rfl, rfl⟩ : zss = xss ∧ code5 = 0 := by have e := H5.out.trans hback.out; exact Prod.mk.inj e
      clear H5 hback
      have d1 : ((0 : Int) != 0) = false := rfl
      have f6 : Below w5.heap.size w5 (w5.alloc (.cells #[.slice A5 n5 c5] 26)) := (Below.refl _ _).alloc (Nat.le_refl _) _
      have D5 : (w5.alloc (.cells #[.slice A5 n5 c5] 26)).cell? ⟨w5.heap.size, 0, none⟩ = some (.slice A5 n5 c5) := al_new _ _ _ _ rfl
      have C6 := (f6.cell (p := ⟨b, 0, none⟩) (by simp; omega)).trans C5
      go_wp2_with fail
      obtain ⟨w6, hw6⟩ : ∃ w6, (w5.alloc (.cells #[.slice A5 n5 c5] 26)) = w6 := ⟨_, rfl⟩
      have z6 : w5.heap.size < w6.heap.size := by rw [← hw6]; simp
      rw [hw6] at f6 D5 C6  ⊢
      clear hw6
      have y6 := f6.size
      have B6 := below_then B5 f6 (by omega)
      have R6 := R5.below f6 (by omega)
      have o5 := o5.below f6 (by omega)
      clear C5 R5
      obtain ⟨bD5, hbD5⟩ : ∃ bD5, w5.heap.size = bD5 := ⟨_, rfl⟩
      rw [hbD5] at D5 z6 ⊢
      go_wp2_with fail
      ((with_reducible refine (like5_any A5 n5 c5 zss A1 m c1 w6 o5.rs R6 (by omega) (by omega)).mono ?_); rintro e w7 ⟨rfl, f7⟩)
      have y7 := f7.size
      have B7 := below_then B6 f7 (by omega)
      have R7 := R6.below f7 (by omega)
      have C7 := (f7.cell (p := ⟨b, 0, none⟩) (by simp; omega)).trans C6
      have D5 := (f7.cell (p := ⟨bD5, 0, none⟩) (by simp; omega)).trans D5
      have o5 := o5.below f7 (by omega)
      clear C6 R6
      clear o5 D5
      have hd2 := hdp w7 B7
      clear hdp
      go_wp2_with fail
      ((with_reducible refine (hd2).mono ?_); rintro e w8 ⟨L, rfl, hL, f8⟩)
      have y8 := f8.size
      have B8 := below_then B7 f8 (by omega)
      have R8 := R7.below f8 (by omega)
      have C8 := (f8.cell (p := ⟨b, 0, none⟩) (by simp; omega)).trans C7
      clear C7 R7
      clear hd2
      go_wp2_with fail
      ((with_reducible refine (i_ParseManiplex_any L hL w8 (hT.on B8) (hE.on B8) (hM.on B8) (by omega)).mono ?_); rintro e w9 ⟨A7, n7, c7, q7, k7, rfl, H7, o7, hn7, f9⟩)
      have y9 := f9.size
      have B9 := below_then B8 f9 (by omega)
      have R9 := R8.below f9 (by omega)
      have C9 := (f9.cell (p := ⟨b, 0, none⟩) (by simp; omega)).trans C8
      clear C8 R8
      have f10 : Below w9.heap.size w9 (w9.alloc (.cells #[.slice A7 n7 c7] 26)) := (Below.refl _ _).alloc (Nat.le_refl _) _
      have D7 : (w9.alloc (.cells #[.slice A7 n7 c7] 26)).cell? ⟨w9.heap.size, 0, none⟩ = some (.slice A7 n7 c7) := al_new _ _ _ _ rfl
      have C10 := (f10.cell (p := ⟨b, 0, none⟩) (by simp; omega)).trans C9
      go_wp2_with fail
      obtain ⟨w10, hw10⟩ : ∃ w10, (w9.alloc (.cells #[.slice A7 n7 c7] 26)) = w10 := ⟨_, rfl⟩
      have z10 : w9.heap.size < w10.heap.size := by rw [← hw10]; simp
      rw [hw10] at f10 D7 C10  ⊢
      clear hw10
      have y10 := f10.size
      have B10 := below_then B9 f10 (by omega)
      have R10 := R9.below f10 (by omega)
      have o7 := o7.below f10 (by omega)
      clear C9 R9
      obtain ⟨bD7, hbD7⟩ : ∃ bD7, w9.heap.size = bD7 := ⟨_, rfl⟩
      rw [hbD7] at D7 z10 ⊢
      go_wp2_with fail
      ((with_reducible refine (s_ParseManiplex_any L hL w10).mono ?_); rintro e w11 ⟨A8, n8, c8, q8, k8, rfl, H8, o8, hn8, f11⟩)
      have y11 := f11.size
      have B11 := below_then B10 f11 (by omega)
      have R11 := R10.below f11 (by omega)
      have C11 := (f11.cell (p := ⟨b, 0, none⟩) (by simp; omega)).trans C10
      have D7 := (f11.cell (p := ⟨bD7, 0, none⟩) (by simp; omega)).trans D7
      have o7 := o7.below f11 (by omega)
      clear C10 R10
      obtain ⟨rfl, rfl⟩ : q7 = q8 ∧ k7 = k8 := by have e := H7.out.trans H8.out.symm; exact Prod.mk.inj e
      clear H8
      have hkk : (k7 != k7) = false := by simp
      have f12 : Below w11.heap.size w11 (w11.alloc (.cells #[.slice A8 n8 c8] 26)) := (Below.refl _ _).alloc (Nat.le_refl _) _
      have D8 : (w11.alloc (.cells #[.slice A8 n8 c8] 26)).cell? ⟨w11.heap.size, 0, none⟩ = some (.slice A8 n8 c8) := al_new _ _ _ _ rfl
      have C12 := (f12.cell (p := ⟨b, 0, none⟩) (by simp; omega)).trans C11
      have D7 := (f12.cell (p := ⟨bD7, 0, none⟩) (by simp; omega)).trans D7
      go_wp2_with fail
      obtain ⟨w12, hw12⟩ : ∃ w12, (w11.alloc (.cells #[.slice A8 n8 c8] 26)) = w12 := ⟨_, rfl⟩
      have z12 : w11.heap.size < w12.heap.size := by rw [← hw12]; simp
      rw [hw12] at f12 D8 C12 D7 ⊢
      clear hw12
      have y12 := f12.size
      have B12 := below_then B11 f12 (by omega)
      have R12 := R11.below f12 (by omega)
      have o7 := o7.below f12 (by omega)
      have o8 := o8.below f12 (by omega)
      clear C11 R11
      obtain ⟨bD8, hbD8⟩ : ∃ bD8, w11.heap.size = bD8 := ⟨_, rfl⟩
      rw [hbD8] at D8 z12 ⊢
      go_wp2_with fail
      ((with_reducible refine (like5_any A7 n7 c7 q7 A8 n8 c8 w12 o7.rs o8.rs (by omega) (by omega)).mono ?_); rintro e w13 ⟨rfl, f13⟩)
      have y13 := f13.size
      have B13 := below_then B12 f13 (by omega)
      have R13 := R12.below f13 (by omega)
      have C13 := (f13.cell (p := ⟨b, 0, none⟩) (by simp; omega)).trans C12
      have D7 := (f13.cell (p := ⟨bD7, 0, none⟩) (by simp; omega)).trans D7
      have D8 := (f13.cell (p := ⟨bD8, 0, none⟩) (by simp; omega)).trans D8
      have o7 := o7.below f13 (by omega)
      have o8 := o8.below f13 (by omega)
      clear C12 R12
      clear o8 D8
      by_cases hk : k7 = 0
      · subst hk
        have hps := pm_sound H7.out.symm
        have d2 : ((0 : Int) != 0) = false := rfl
        have d3 : ((0 : Int) == 0) = true := rfl
        have hnc7 : n7 ≤ c7 := o7.cap
        replace hps := Lib.hid hps
        clear H7
        go_wp2_with fail
        ((with_reducible refine (i_ManiplexText_any w13 A7 n7 c7 q7 o7.rs (by omega) hnc7 (hT.on B13) (hM.on B13) (by omega)).mono ?_); rintro e w14 ⟨s10, k10, rfl, H10, f14⟩)
        have y14 := f14.size
        have B14 := below_then B13 f14 (by omega)
        have R14 := R13.below f14 (by omega)
        have C14 := (f14.cell (p := ⟨b, 0, none⟩) (by simp; omega)).trans C13
        have D7 := (f14.cell (p := ⟨bD7, 0, none⟩) (by simp; omega)).trans D7
        have o7 := o7.below f14 (by omega)
        clear C13 R13
        obtain ⟨rfl, rfl⟩ : s10 = L ∧ k10 = 0 := by have e := H10.out.trans hps.out; exact Prod.mk.inj e
        clear H10 hps
        obtain ⟨hLL, hLL2⟩ := str_same s10
        go_wp2_with fail
        go_ret
        exact ⟨rfl, B14⟩
      · have d2 : (k7 != 0) = true := by simpa using hk
        replace hk := Lib.hid hk
        clear H7
        go_wp2_with fail
        go_ret
        exact ⟨rfl, B13⟩
    · have d0 : ((1 : Int) == 0) = false := rfl
      clear H3
      have hd2 := hdp w4 B4
      clear hdp
      go_wp2_with fail
      ((with_reducible refine (hd2).mono ?_); rintro e w5 ⟨L, rfl, hL, f5⟩)
      have y5 := f5.size
      have B5 := below_then B4 f5 (by omega)
      have R5 := R4.below f5 (by omega)
      have C5 := (f5.cell (p := ⟨b, 0, none⟩) (by simp; omega)).trans C4
      clear C4 R4
      clear hd2
      go_wp2_with fail
      ((with_reducible refine (i_ParseManiplex_any L hL w5 (hT.on B5) (hE.on B5) (hM.on B5) (by omega)).mono ?_); rintro e w6 ⟨A7, n7, c7, q7, k7, rfl, H7, o7, hn7, f6⟩)
      have y6 := f6.size
      have B6 := below_then B5 f6 (by omega)
      have R6 := R5.below f6 (by omega)
      have C6 := (f6.cell (p := ⟨b, 0, none⟩) (by simp; omega)).trans C5
      clear C5 R5
      have f7 : Below w6.heap.size w6 (w6.alloc (.cells #[.slice A7 n7 c7] 26)) := (Below.refl _ _).alloc (Nat.le_refl _) _
      have D7 : (w6.alloc (.cells #[.slice A7 n7 c7] 26)).cell? ⟨w6.heap.size, 0, none⟩ = some (.slice A7 n7 c7) := al_new _ _ _ _ rfl
      have C7 := (f7.cell (p := ⟨b, 0, none⟩) (by simp; omega)).trans C6
      go_wp2_with fail
      obtain ⟨w7, hw7⟩ : ∃ w7, (w6.alloc (.cells #[.slice A7 n7 c7] 26)) = w7 := ⟨_, rfl⟩
      have z7 : w6.heap.size < w7.heap.size := by rw [← hw7]; simp
      rw [hw7] at f7 D7 C7  ⊢
      clear hw7
      have y7 := f7.size
      have B7 := below_then B6 f7 (by omega)
      have R7 := R6.below f7 (by omega)
      have o7 := o7.below f7 (by omega)
      clear C6 R6
      obtain ⟨bD7, hbD7⟩ : ∃ bD7, w6.heap.size = bD7 := ⟨_, rfl⟩
      rw [hbD7] at D7 z7 ⊢
      go_wp2_with fail
      ((with_reducible refine (s_ParseManiplex_any L hL w7).mono ?_); rintro e w8 ⟨A8, n8, c8, q8, k8, rfl, H8, o8, hn8, f8⟩)
      have y8 := f8.size
      have B8 := below_then B7 f8 (by omega)
      have R8 := R7.below f8 (by omega)
      have C8 := (f8.cell (p := ⟨b, 0, none⟩) (by simp; omega)).trans C7
      have D7 := (f8.cell (p := ⟨bD7, 0, none⟩) (by simp; omega)).trans D7
      have o7 := o7.below f8 (by omega)
      clear C7 R7
      obtain ⟨rfl, rfl⟩ : q7 = q8 ∧ k7 = k8 := by have e := H7.out.trans H8.out.symm; exact Prod.mk.inj e
      clear H8
      have hkk : (k7 != k7) = false := by simp
      have f9 : Below w8.heap.size w8 (w8.alloc (.cells #[.slice A8 n8 c8] 26)) := (Below.refl _ _).alloc (Nat.le_refl _) _
      have D8 : (w8.alloc (.cells #[.slice A8 n8 c8] 26)).cell? ⟨w8.heap.size, 0, none⟩ = some (.slice A8 n8 c8) := al_new _ _ _ _ rfl
      have C9 := (f9.cell (p := ⟨b, 0, none⟩) (by simp; omega)).trans C8
      have D7 := (f9.cell (p := ⟨bD7, 0, none⟩) (by simp; omega)).trans D7
      go_wp2_with fail
      obtain ⟨w9, hw9⟩ : ∃ w9, (w8.alloc (.cells #[.slice A8 n8 c8] 26)) = w9 := ⟨_, rfl⟩
      have z9 : w8.heap.size < w9.heap.size := by rw [← hw9]; simp
      rw [hw9] at f9 D8 C9 D7 ⊢
      clear hw9
      have y9 := f9.size
      have B9 := below_then B8 f9 (by omega)
      have R9 := R8.below f9 (by omega)
      have o7 := o7.below f9 (by omega)
      have o8 := o8.below f9 (by omega)
      clear C8 R8
      obtain ⟨bD8, hbD8⟩ : ∃ bD8, w8.heap.size = bD8 := ⟨_, rfl⟩
      rw [hbD8] at D8 z9 ⊢
      go_wp2_with fail
      ((with_reducible refine (like5_any A7 n7 c7 q7 A8 n8 c8 w9 o7.rs o8.rs (by omega) (by omega)).mono ?_); rintro e w10 ⟨rfl, f10⟩)
      have y10 := f10.size
      have B10 := below_then B9 f10 (by omega)
      have R10 := R9.below f10 (by omega)
      have C10 := (f10.cell (p := ⟨b, 0, none⟩) (by simp; omega)).trans C9
      have D7 := (f10.cell (p := ⟨bD7, 0, none⟩) (by simp; omega)).trans D7
      have D8 := (f10.cell (p := ⟨bD8, 0, none⟩) (by simp; omega)).trans D8
      have o7 := o7.below f10 (by omega)
      have o8 := o8.below f10 (by omega)
      clear C9 R9
      clear o8 D8
      by_cases hk : k7 = 0
      · subst hk
        have hps := pm_sound H7.out.symm
        have d2 : ((0 : Int) != 0) = false := rfl
        have d3 : ((0 : Int) == 0) = true := rfl
        have hnc7 : n7 ≤ c7 := o7.cap
        replace hps := Lib.hid hps
        clear H7
        go_wp2_with fail
        ((with_reducible refine (i_ManiplexText_any w10 A7 n7 c7 q7 o7.rs (by omega) hnc7 (hT.on B10) (hM.on B10) (by omega)).mono ?_); rintro e w11 ⟨s10, k10, rfl, H10, f11⟩)
        have y11 := f11.size
        have B11 := below_then B10 f11 (by omega)
        have R11 := R10.below f11 (by omega)
        have C11 := (f11.cell (p := ⟨b, 0, none⟩) (by simp; omega)).trans C10
        have D7 := (f11.cell (p := ⟨bD7, 0, none⟩) (by simp; omega)).trans D7
        have o7 := o7.below f11 (by omega)
        clear C10 R10
        obtain ⟨rfl, rfl⟩ : s10 = L ∧ k10 = 0 := by have e := H10.out.trans hps.out; exact Prod.mk.inj e
        clear H10 hps
        obtain ⟨hLL, hLL2⟩ := str_same s10
        go_wp2_with fail
        go_ret
        exact ⟨rfl, B11⟩
      · have d2 : (k7 != 0) = true := by simpa using hk
        replace hk := Lib.hid hk
        clear H7
        go_wp2_with fail
        go_ret
        exact ⟨rfl, B10⟩
/-- a world in which the listed variables lie meets the condition -/
theorem door_met (os : Os) (args : Array Value) : laidMetH Tryz.prog Rows.fnManiplexTextsRow.laid ((World.laidAll Tryz.prog os Rows.fnManiplexTextsRow.laid).forCall (fun _ _ => 0) ⟨#[], args, []⟩).memory :=
  by rw [MakeChecks.laidMetH_plain _ _ _ (by kernel_rfl)]; exact laidMet_laidAll _ (by kernel_rfl) (by kernel_rfl)
set_option maxRecDepth 100000 in
theorem lifted (os : Os) (started : os.Started) (H : Type) (enc : TypeId × Value → H) :
    ReturnsInHanded {} Tryz.checked os 3 .any (fun w args => (Rows.fnManiplexTextsSpec.pre enc Tryz.prog Tryz.f3 [] false w args ∧ laidMetH Tryz.prog Rows.fnManiplexTextsRow.laid w) ∧ sizedMet enc Tryz.prog Tryz.f3 (OpenSpec.ofChange Rows.fnManiplexTextsSpec) false w args)
      (Rows.fnManiplexTextsSpec.post enc Tryz.prog Tryz.f3 false true false false) := by
  refine handed_and_shaped (C := Tryz.checked) (X := fun w _ => laidMetH Tryz.prog Rows.fnManiplexTextsRow.laid w) (fun _ _ _ hh h => h.of_heap hh) own started (by kernel_rfl) Tryz.func3
    (ChangeSpec.witness_shaped (enc := enc) (C := Tryz.checked) (os := os) (X := fun w _ => laidMetH Tryz.prog Rows.fnManiplexTextsRow.laid w) false (World.laidAll Tryz.prog os Rows.fnManiplexTextsRow.laid) #[.slice none 0 0] 8 (World.laidAll_os _ _ _) (World.shaped_of_ZipB (by kernel_rfl) (by kernel_rfl)) (by kernel_rfl) (by kernel_rfl) (by kernel_rfl) (door_met os _)) ?_
  intro W base args ds gs before hval0 hW hL hsh
  have hval : ∀ (j : Nat) t v, Tryz.f3.params[j]? = some t → args[j]? = some v → Value.okWide Tryz.prog W .any base t v := hval0
  have hW' := hW
  obtain ⟨p, q, hA0, hV, rfl, hfz, hnd⟩ := hW
  have hA : DataW.TrodAll enc Tryz.prog W 0 (fun _ => true) true Tryz.f3.params.toList args.toList ds p := hA0
  rw [Tryz.params3] at hA hval
  obtain ⟨v0, vs0, d0, ds0, p0, q0, hargs, rfl, rfl, h0, r0⟩ := trodAll_cons hA
  obtain ⟨rfl, rfl, rfl⟩ := trodAll_nil r0
  obtain rfl : args = #[v0] := by cases args; simp_all
  obtain ⟨rfl, rfl⟩ := trodVars_none hV
  obtain ⟨a0, n0, c0, rfl⟩ := okWide_slice Tryz.underlying22 (hval 0 22 v0 rfl rfl)
  have k0 := h0
  have lt0 : ∀ x ∈ p0, x.block < W.heap.size := by obtain ⟨m, hm⟩ := k0; exact DataW.trod_lt m _ _ _ hm
  obtain ⟨xs0, w0, b0⟩ := open_RB Tryz.underlying22 Tryz.underlying5 (by kernel_rfl) h0
  clear hA0 hval0
  refine (walk a0 n0 c0 xs0 W w0 b0 (t10 hL) (mx_of_shaped hsh) (evs hL)).mono fun e W' ⟨he, bel⟩ => ?_
  subst he
  exact ⟨_, rfl, _, _, _, [], _, [], hW', trodAll_mk1 (shut_bool Tryz.underlying4 _), (trodAll_cons_mk (Below.trod laidOut (by kernel_rfl) (of_decide_eq_true (by kernel_rfl)) k0 bel lt0) trodAll_mk0), rfl, bel.frame _, fun h => by cases h⟩
theorem over : Rows.fnManiplexTextsRow.holds Tryz.pinned (OpenSpec.ofChange Rows.fnManiplexTextsSpec) :=
  OpenClaim.holds_of_wide 3 Tryz.f3 rfl rfl rfl rfl rfl rfl rfl ⟨rfl, rfl, rfl, rfl, rfl⟩ rfl rfl rfl rfl rfl (by kernel_rfl) Tryz.func3 (by kernel_rfl)
    (of_decide_eq_true (by kernel_rfl)) (by unfold Func.isWrapper; first | (rw [if_pos (by decide +kernel)]; kernel_rfl) | (rw [if_neg (by decide +kernel)]; exact ⟨rfl, rfl⟩))
    (fun os started H enc _ => lifted os started H enc)
/-- THE STATEMENT -/
theorem proved : Rows.FnManiplexTextsCardSaid :=
  Claim7.holds_tied_plain_at .later [] [.data, .data, .data, .data, .sentinel, .sentinel, .pinned] true _ true
    over (fun _ h => by cases h) (by kernel_rfl) (fun _ h => by cases h) fnManiplexTexts_row_tie rfl ⟨rfl, rfl⟩ (by kernel_rfl) rfl
    (fun f fn hf hfn => by
      obtain rfl : f = 3 := Option.some.inj ((show Tryz.prog.funcNamed "loop.example/g01108/laws.FnManiplexTexts" = some 3 by kernel_rfl).symm.trans hf) |>.symm
      obtain rfl : fn = Tryz.f3 := (Option.some.inj (Tryz.func3.symm.trans hfn)).symm
      exact ⟨by kernel_rfl, fun j t ht => by
        rw [Tryz.params3] at ht
        have hm : t ∈ [22] := by simpa using Array.mem_of_getElem? ht
        have hall : ([22].all fun u => !Tryz.prog.wantsStandIn u) = true := by kernel_rfl
        exact (show Tryz.prog.wantsStandIn t = false by simpa using List.all_eq_true.1 hall t hm)⟩)
    (by kernel_rfl)
end Go.Proofs.YtcjnhiglfkcmiaaGreatDoor.fnManiplexTexts
