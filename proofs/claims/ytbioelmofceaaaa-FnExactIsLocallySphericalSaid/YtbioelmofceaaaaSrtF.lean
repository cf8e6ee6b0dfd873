/- slices.SortFunc at []impl.Maniplex over a row of the call's own, sorted by sortForms$1. (Srf: the kit's contract, laid by sh/srf.sh.) -/
import Derived.Test.YtbioelmofceaaaaGrw
import Derived.Test.YtbioelmofceaaaaOrd
import Derived.Test.YtbioelmofceaaaaSrf
import Derived.Sort.OwnSortedInts
namespace Go.Proofs.Ytbioelmofceaaaa
open Go.RowKit
set_option linter.unusedVariables false
set_option maxRecDepth 100000
theorem cmpF_anti (x y : List (List Int)) : cmpF y x = - cmpF x y := by
  unfold cmpF orI cmpN
  have h := cmp2_anti x y
  rcases Nat.lt_trichotomy (flg x) (flg y) with g | g | g
  · rw [if_pos (show (flg x : Int) < (flg y : Int) by omega), if_neg (show ¬ (flg y : Int) < (flg x : Int) by omega), if_pos (show (flg x : Int) < (flg y : Int) by omega)]; simp
  · rw [g]; simpa using h
  · rw [if_pos (show (flg y : Int) < (flg x : Int) by omega), if_neg (show ¬ (flg x : Int) < (flg y : Int) by omega), if_pos (show (flg y : Int) < (flg x : Int) by omega)]; simp
theorem cmpF_le (x y : List (List Int)) : cmpF x y ≤ 0 ↔ flg x < flg y ∨ (flg x = flg y ∧ cmp2 x y ≤ 0) := by
  unfold cmpF orI cmpN
  rcases Nat.lt_trichotomy (flg x) (flg y) with g | g | g
  · rw [if_pos (show (flg x : Int) < (flg y : Int) by omega)]; simp; omega
  · rw [g]; simp
  · rw [if_neg (show ¬ (flg x : Int) < (flg y : Int) by omega), if_pos (show (flg y : Int) < (flg x : Int) by omega)]; simp; omega
theorem cmpF_trans {x y z : List (List Int)} (h : cmpF x y ≤ 0) (k : cmpF y z ≤ 0) : cmpF x z ≤ 0 := by
  rw [cmpF_le] at h k ⊢
  rcases h with h | ⟨h1, h2⟩
  · rcases k with k | ⟨k1, k2⟩
    · exact .inl (by omega)
    · exact .inl (by omega)
  · rcases k with k | ⟨k1, k2⟩
    · exact .inl (by omega)
    · exact .inr ⟨by omega, cmp2_trans _ _ _ h2 k2⟩
theorem swoF {α : Type} (g : α → List (List Int)) : Sort.SWO (ltOf fun x y : α => cmpF (g x) (g y)) where
  irrefl x := by
    have := cmpF_anti (g x) (g x)
    simp only [ltOf, decide_eq_false_iff_not]; omega
  trans x y z h1 h2 := by
    simp only [ltOf, decide_eq_true_eq] at h1 h2 ⊢
    have a1 := cmpF_anti (g x) (g y)
    have a2 := cmpF_anti (g y) (g z)
    have a3 := cmpF_anti (g x) (g z)
    by_cases e : cmpF (g z) (g x) ≤ 0
    · have := cmpF_trans e (show cmpF (g x) (g y) ≤ 0 by omega); omega
    · omega
  ntrans x y z h1 h2 := by
    simp only [ltOf, decide_eq_false_iff_not] at h1 h2 ⊢
    have a1 := cmpF_anti (g x) (g y)
    have a2 := cmpF_anti (g y) (g z)
    have a3 := cmpF_anti (g x) (g z)
    have := cmpF_trans (show cmpF (g z) (g y) ≤ 0 by omega) (show cmpF (g y) (g x) ≤ 0 by omega)
    omega
theorem lift_list {β : Type} {P : β → Prop} (ps : List β) (h : ∀ p ∈ ps, P p) : ∃ ds : List {p // P p}, ds.map (·.1) = ps := ⟨ps.attachWith P h, by simp⟩
/-- a maniplex in memory: its value and its moves -/
def GoodF (w : World) (lo hi : Nat) (p : Value × List (List Int)) : Prop := ∃ A n c, p.1 = .slice A n c ∧ 0 < n ∧ n ≤ c ∧ RS w lo hi A n p.2
theorem GoodF.keep {w w' : World} {lo hi : Nat} {p : Value × List (List Int)} (h : GoodF w lo hi p) (hs : Same lo hi w w') : GoodF w' lo hi p := by
  obtain ⟨A, n, c, e, h1, h2, h3⟩ := h
  exact ⟨A, n, c, e, h1, h2, h3.keep hs⟩
theorem GoodF.more {w : World} {lo hi lo' hi' : Nat} {p : Value × List (List Int)} (h : GoodF w lo hi p) (h1 : lo' ≤ lo) (h2 : hi ≤ hi') : GoodF w lo' hi' p := by
  obtain ⟨A, n, c, e, g1, g2, g3⟩ := h
  exact ⟨A, n, c, e, g1, g2, g3.more h1 h2⟩
theorem GoodF.below {w w' : World} {lo hi B : Nat} {p : Value × List (List Int)} (h : GoodF w lo hi p) (hb : Below B w w') (hB : hi ≤ B) : GoodF w' lo hi p := h.keep (Same.of_below hb hB)
theorem heap_put {w : World} {g n : Nat} {os : Array Obj} {cur F : Array Value} {e : TypeId} {fr : Nat × Nat} (hb : w.heap[g]? = some (.cells cur e fr)) :
    (Sort.grow (Sort.putRow id (Sort.ahead w n) g 0 F) os).heap[g]? = some (.cells (Sort.putCells id 0 F cur) e fr) := by
  have hg : g < w.heap.size := (Array.getElem?_eq_some_iff.1 hb).1
  rw [Sort.heap_grow_old _ _ (by simpa using hg)]
  simp [Sort.putRow, Sort.mapBlock, Sort.ahead, Array.getElem?_modify, hb, Sort.onCells]
theorem grown_put {w : World} {g n : Nat} {os : Array Obj} (F : Array Value) : w.grownBy (Sort.grow (Sort.putRow id (Sort.ahead w n) g 0 F) os) (some g) := by
  refine ⟨rfl, rfl, rfl, by simp, fun k hk hne => ?_⟩
  rw [Sort.heap_grow_old _ _ (by simpa using hk)]
  have : g ≠ k := fun e => hne (by rw [e])
  simp [Sort.putRow, Sort.mapBlock, Sort.ahead, Array.getElem?_modify, this]
theorem take_put (cur F : Array Value) (h : F.size ≤ cur.size) : (Sort.putCells id 0 F cur).toList.take F.size = F.toList := by
  apply List.ext_getElem?
  intro j
  by_cases hj : j < F.size
  · rw [List.getElem?_take_of_lt hj, Array.getElem?_toList]
    simp [Sort.putCells, hj, show j < cur.size by omega]
  · rw [List.getElem?_take_eq_none (by omega), List.getElem?_eq_none (by simp; omega)]
theorem flat1 {α : Type} [Inhabited α] (f : α → Value) (d : Array α) : Sort.flatK (fun x => [f x]) 1 d = d.map f := by
  apply Array.ext
  · simp
  · intro i h1 h2
    have h3 : i < d.size := by simpa using h2
    simp [Sort.flatK, Nat.mod_one, h3]
theorem sortF_any (A : Option Addr) (k c : Nat) (ps : List (Value × List (List Int))) (w : World) {lo lo0 hi0 : Nat} (h : w.ownsRow lo 38 1 (.slice A k c) k (ps.map (·.1))) (hk : k ≤ 1048576) (h0 : 0 < k) (hlo : lo ≤ w.heap.size) (hF : ∀ p ∈ ps, GoodF w lo0 hi0 p) (hh : hi0 ≤ lo) :
    Calls Try.prog 98 #[.slice A k c, .func (.func 99) #[] #[]] w fun e w' => e = .returned (.tuple #[]) ∧ ∃ ps' : List (Value × List (List Int)), ps'.Perm ps ∧ w'.ownsRow lo 38 1 (.slice A k c) k (ps'.map (·.1)) ∧ Below lo w w' := by
  have hl : ps.length = k := by have := h.1; simpa using this
  rcases h.2 with ⟨hv, hn⟩ | ⟨g, cap, cur, hv, hb, hg, hnc, hcm, hcs, htake⟩
  · omega
  cases hv
  let α := { p : Value × List (List Int) // GoodF w lo0 hi0 p }
  have hne : 0 < ps.length := by omega
  haveI : Inhabited α := ⟨⟨ps[0], hF _ (List.getElem_mem _)⟩⟩
  let f : α → Value := fun x => x.1.1
  obtain ⟨ds, hds0⟩ : ∃ ds : List α, ds.map (·.1) = ps := lift_list ps hF
  let d : Array α := ds.toArray
  have hds : d.size = ps.length := by rw [← hds0]; simp [d]
  have hgs : g < w.heap.size := (Array.getElem?_eq_some_iff.1 hg).1
  have eg : ∀ args w, (callFunc 99 args).run Try.prog w = .ok (.enter 99 args) w := enters_of Try.func99 (by kernel_rfl) rfl
  have hmapd : d.map f = (ps.map (·.1)).toArray := by rw [← hds0]; simp [d, f]
  have hHd : Sort.HoldsK (fun x => [f x]) 1 w g 0 d := by
    unfold Sort.HoldsK
    rw [flat1, hmapd]
    intro j hj
    have hj' : j < ps.length := by simpa using hj
    refine ⟨?_, by simp [World.frozen?, hg]⟩
    have h1 : (cur.toList.take k)[j]? = (ps.map (·.1))[j]? := by rw [← htake]; simp
    rw [List.getElem?_take_of_lt (by omega)] at h1
    simp only [World.cell?, hg, Nat.zero_add]
    simp only [Option.isSome_none, Bool.false_eq_true, if_false]
    rw [← Array.getElem?_toList, h1]
    simp [hj']
  have hsame : ∀ m os (dk : Array α), Same lo0 hi0 w (sortWorldK (fun x => [f x]) 1 w g 0 m dk os) := fun m os dk q h1 h2 => by
    have G := grown_put (w := w) (g := g) (n := m) (os := os) (Sort.flatK (fun x => [f x]) 1 dk)
    exact G.block q (by omega) (fun e => by cases e; omega)
  have hsz : ∀ m os (dk : Array α), w.heap.size ≤ (sortWorldK (fun x => [f x]) 1 w g 0 m dk os).heap.size := fun m os dk => (grown_put (w := w) (g := g) (n := m) (os := os) (Sort.flatK (fun x => [f x]) 1 dk)).size
  have hcmp : CmpLays Try.prog 99 #[] (fun x => [f x]) 1 (fun x y : α => cmpF x.1.2 y.1.2) g 0 d.size w := by
    intro m os dk hs x y
    obtain ⟨⟨vx, fx⟩, A1, n1, c1, e1, p1, q1, r1⟩ := x
    obtain ⟨⟨vy, fy⟩, A2, n2, c2, e2, p2, q2, r2⟩ := y
    cases e1
    cases e2
    have hz := hsz m os dk
    exact cmpForms_any A1 n1 c1 fx A2 n2 c2 fy _ (r1.keep (hsame m os dk)) (by omega) p1 (r2.keep (hsame m os dk)) (by omega) p2
  have hcon := AnyQ.slices_SortFunc laysSortF 1 Try.isAgg38 Try.sizeOf38 (fun x => [f x]) (fun _ => rfl) (fun x v hv => by
    obtain ⟨⟨vx, fx⟩, A1, n1, c1, e1, p1, q1, r1⟩ := x
    cases e1
    simp [f] at hv
    subst hv
    rfl) (fun x y : α => cmpF x.1.2 y.1.2) (swoF _) 99 #[] g 0 c d w eg hcmp hHd hgs (by omega)
  have hdk : d.size = k := by omega
  rw [hdk] at hcon
  refine Calls.mono (show Calls Try.prog 98 _ _ _ from hcon) ?_
  rintro e w' ⟨rfl, d', n, os, hp, -, rfl⟩
  have hps : d'.size = k := hp.1.trans hdk
  have hper : d'.toList.Perm d.toList := by
    have := hp.2.2
    rw [← hdk] at this
    have e1 : d'.extract 0 d.size = d' := by rw [show d.size = d'.size from by omega]; simp
    have e2 : d.extract 0 d.size = d := by simp
    rwa [e1, e2] at this
  have hFl : Sort.flatK (fun x => [f x]) 1 d' = d'.map f := flat1 f d'
  refine ⟨rfl, d'.toList.map (·.1), ?_, ?_, ?_⟩
  · have := hper.map (·.1)
    rwa [show d.toList.map (·.1) = ps from hds0] at this
  · unfold sortWorldK Sort.putRowK
    rw [hFl]
    refine ⟨by simp [hps], .inr ⟨g, c, _, rfl, hb, heap_put hg, hnc, hcm, by simp [Sort.putCells, hcs], ?_⟩⟩
    have := take_put cur (d'.map f) (by simp [hps]; omega)
    rw [Array.size_map, hps] at this
    rw [Nat.mul_one, this]
    simp [f]
  · exact (Below.refl lo w).grown (grown_put _) hlo (fun q e => by cases e; exact hb)
end Go.Proofs.Ytbioelmofceaaaa
