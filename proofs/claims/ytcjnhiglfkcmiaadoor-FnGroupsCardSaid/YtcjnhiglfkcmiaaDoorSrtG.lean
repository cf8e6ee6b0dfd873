/- slices.SortFunc at [][]int64 over a row of the call's own, sorted by slices.Compare. (Srg: the kit's contract, laid by sh/srg.sh.) -/
import Derived.Test.YtcjnhiglfkcmiaaDoorLex
import Derived.Test.YtcjnhiglfkcmiaaDoorGrpP
import Derived.Test.YtcjnhiglfkcmiaaDoorBag
import Derived.Test.YtcjnhiglfkcmiaaDoorSrg
import Derived.Sort.OwnSortedInts
namespace Go.Proofs.YtcjnhiglfkcmiaaDoor
open Go.RowKit
set_option linter.unusedVariables false
set_option maxRecDepth 100000
theorem swoG {α : Type} (g : α → List Int) : Sort.SWO (ltOf fun x y : α => cmpL (g x) (g y)) where
  irrefl x := by
    have := cmpL_anti (g x) (g x)
    simp only [ltOf, decide_eq_false_iff_not]; omega
  trans x y z h1 h2 := by
    simp only [ltOf, decide_eq_true_eq] at h1 h2 ⊢
    have a1 := cmpL_anti (g x) (g y)
    have a2 := cmpL_anti (g y) (g z)
    have a3 := cmpL_anti (g x) (g z)
    by_cases e : cmpL (g z) (g x) ≤ 0
    · have := cmpL_trans _ _ _ e (show cmpL (g x) (g y) ≤ 0 by omega); omega
    · omega
  ntrans x y z h1 h2 := by
    simp only [ltOf, decide_eq_false_iff_not] at h1 h2 ⊢
    have a1 := cmpL_anti (g x) (g y)
    have a2 := cmpL_anti (g y) (g z)
    have a3 := cmpL_anti (g x) (g z)
    have := cmpL_trans _ _ _ (show cmpL (g z) (g y) ≤ 0 by omega) (show cmpL (g y) (g x) ≤ 0 by omega)
    omega
theorem lift_listG {β : Type} {P : β → Prop} (ps : List β) (h : ∀ p ∈ ps, P p) : ∃ ds : List {p // P p}, ds.map (·.1) = ps := ⟨ps.attachWith P h, by simp⟩
/-- a list in memory: its value and its numbers -/
def GoodR (w : World) (lo : Nat) (T : TypeId) (p : Value × List Int) : Prop := ∃ A n c, p.1 = .slice A n c ∧ w.ownsRow lo T 1 (.slice A n c) n (p.2.map (Value.int .i64))
theorem heap_putE {α : Type} [Inhabited α] (enc : α → Value) {w : World} {g n : Nat} {os : Array Obj} {cur : Array Value} {F : Array α} {e : TypeId} {fr : Nat × Nat} (hb : w.heap[g]? = some (.cells cur e fr)) :
    (Sort.grow (Sort.putRow enc (Sort.ahead w n) g 0 F) os).heap[g]? = some (.cells (Sort.putCells enc 0 F cur) e fr) := by
  have hg : g < w.heap.size := (Array.getElem?_eq_some_iff.1 hb).1
  rw [Sort.heap_grow_old _ _ (by simpa using hg)]
  simp [Sort.putRow, Sort.mapBlock, Sort.ahead, Array.getElem?_modify, hb, Sort.onCells]
theorem grown_putE {α : Type} [Inhabited α] (enc : α → Value) {w : World} {g n : Nat} {os : Array Obj} (F : Array α) : w.grownBy (Sort.grow (Sort.putRow enc (Sort.ahead w n) g 0 F) os) (some g) := by
  refine ⟨rfl, rfl, rfl, by simp, fun k hk hne => ?_⟩
  rw [Sort.heap_grow_old _ _ (by simpa using hk)]
  have : g ≠ k := fun e => hne (by rw [e])
  simp [Sort.putRow, Sort.mapBlock, Sort.ahead, Array.getElem?_modify, this]
theorem take_putE {α : Type} [Inhabited α] (enc : α → Value) (cur : Array Value) (F : Array α) (h : F.size ≤ cur.size) : (Sort.putCells enc 0 F cur).toList.take F.size = F.toList.map enc := by
  apply List.ext_getElem?
  intro j
  by_cases hj : j < F.size
  · rw [List.getElem?_take_of_lt hj, Array.getElem?_toList]
    simp [Sort.putCells, hj, show j < cur.size by omega]
  · rw [List.getElem?_take_eq_none (by omega), List.getElem?_eq_none (by simp; omega)]
theorem sortG_any (A : Option Addr) (k c : Nat) (ps : List (Value × List Int)) (w : World) {lo : Nat} (h : w.ownsRow lo 24 1 (.slice A k c) k (ps.map (·.1))) (hk : k ≤ 1048576) (h0 : 0 < k) (hlo : lo ≤ w.heap.size) (hF : ∀ p ∈ ps, GoodR w lo 2 p) :
    Calls Tryd.prog 98 #[.slice A k c, .func (.func 99) #[] #[]] w fun e w' => e = .returned (.tuple #[]) ∧ ∃ ps' : List (Value × List Int), ps'.Perm ps ∧ (ps'.map (·.2)).Pairwise (fun a b => lexB a b = true) ∧ w'.ownsRow lo 24 1 (.slice A k c) k (ps'.map (·.1)) ∧ w.grownBy w' (Value.slice A k c).ownBlock := by
  have hl : ps.length = k := by have := h.1; simpa using this
  have hrow := h
  rcases h.2 with ⟨hv, hn⟩ | ⟨g, cap, cur, hv, hb, hg, hnc, hcm, hcs, htake⟩
  · omega
  cases hv
  let α := { p : Value × List Int // GoodR w lo 2 p }
  have hne : 0 < ps.length := by omega
  haveI : Inhabited α := ⟨⟨ps[0], hF _ (List.getElem_mem _)⟩⟩
  let f : α → Value := fun x => x.1.1
  obtain ⟨ds, hds0⟩ : ∃ ds : List α, ds.map (·.1) = ps := lift_listG ps hF
  let d : Array α := ds.toArray
  have hds : d.size = ps.length := by rw [← hds0]; simp [d]
  have hgs : g < w.heap.size := (Array.getElem?_eq_some_iff.1 hg).1
  have eg : ∀ args w, (callFunc 99 args).run Tryd.prog w = .ok (.enter 99 args) w := enters_of Tryd.func99 (by kernel_rfl) rfl
  have hdf : ∀ j (hj : j < d.size), (ps.map (·.1))[j]? = some (f d[j]!) := by
    intro j hj
    have hj2 : j < ds.length := by simpa [d] using hj
    have e1 : ps.map (·.1) = ds.map f := by rw [← hds0, List.map_map]; rfl
    rw [e1, List.getElem?_map, List.getElem?_eq_getElem hj2]
    simp [d, hj2]
  have hHd : Sort.Holds f w g 0 d := by
    intro j hj
    have hj' : j < ps.length := by omega
    refine ⟨?_, by simp [World.frozen?, hg]⟩
    have h1 : (cur.toList.take k)[j]? = (ps.map (·.1))[j]? := by rw [← htake]; simp
    rw [List.getElem?_take_of_lt (by omega), hdf j hj] at h1
    simp only [World.cell?, hg, Nat.zero_add]
    simp only [Option.isSome_none, Bool.false_eq_true, if_false]
    rw [← Array.getElem?_toList, h1]
  have hkeep : ∀ m os (dk : Array α) (x : α), ∃ A n c, x.1.1 = .slice A n c ∧ RI (sortWorld f w g 0 m dk os) lo (sortWorld f w g 0 m dk os).heap.size A n x.1.2 := by
    intro m os dk x
    obtain ⟨⟨vx, xs⟩, A1, n1, c1, e1, r1⟩ := x
    have G := grown_putE f (w := w) (g := g) (n := m) (os := os) dk
    exact ⟨A1, n1, c1, e1, (Own.of_row (own_kept_ty r1 hrow (by decide) G)).ri⟩
  have hcmp : CmpLays1 Tryd.prog 99 #[] f (fun x y : α => cmpL x.1.2 y.1.2) g 0 d.size w := by
    intro m os dk hs x y
    obtain ⟨A1, n1, c1, e1, r1⟩ := hkeep m os dk x
    obtain ⟨A2, n2, c2, e2, r2⟩ := hkeep m os dk y
    have hc := compare_any A1 n1 c1 x.1.2 A2 n2 c2 y.1.2 _ r1 r2
    show Calls _ _ #[x.1.1, y.1.1] _ _
    rw [e1, e2]
    refine hc.mono fun e w' ⟨he, hw⟩ => ⟨he, 0, #[], ?_⟩
    rw [Sort.grow_empty, ← hw]
    rfl
  have hcon := Any.slices_SortFunc laysSortG f (fun x => by
    obtain ⟨⟨vx, xs⟩, A1, n1, c1, e1, r1⟩ := x
    cases e1
    rfl) (fun x y : α => cmpL x.1.2 y.1.2) (swoG _) 99 #[] g 0 c d w eg hcmp hHd hgs (by omega)
  have hdk : d.size = k := by omega
  rw [hdk] at hcon
  refine Calls.mono (show Calls Tryd.prog 98 _ _ _ from hcon) ?_
  rintro e w' ⟨rfl, d', n, os, hp, hsrt, rfl⟩
  have hps : d'.size = k := hp.1.trans hdk
  have hper : d'.toList.Perm d.toList := by
    have := hp.2.2
    rw [← hdk] at this
    have e1 : d'.extract 0 d.size = d' := by rw [show d.size = d'.size from by omega]; simp
    have e2 : d.extract 0 d.size = d := by simp
    rwa [e1, e2] at this
  refine ⟨rfl, d'.toList.map (·.1), ?_, ?_, ?_, ?_⟩
  · have := hper.map (·.1)
    rwa [show d.toList.map (·.1) = ps from hds0] at this
  · rw [List.map_map, List.pairwise_map, List.pairwise_iff_getElem]
    intro i j hi hj hij
    have h1 : i < d'.size := by simpa using hi
    have h2 : j < d'.size := by simpa using hj
    have := hsrt i j (Nat.zero_le _) hij (by omega)
    simp only [ltOf, decide_eq_false_iff_not] at this
    rw [getElem!_pos d' i h1, getElem!_pos d' j h2] at this
    have ha := cmpL_anti (d'[i].1.2) (d'[j].1.2)
    refine decide_eq_true ?_
    show cmpL (d'[i].1.2) (d'[j].1.2) ≤ 0
    omega
  · unfold sortWorld
    refine ⟨by simp [hps], .inr ⟨g, c, _, rfl, hb, heap_putE f hg, hnc, hcm, by simp [Sort.putCells, hcs], ?_⟩⟩
    have := take_putE f cur d' (by omega)
    rw [hps] at this
    rw [Nat.mul_one, this]
    simp [f]
  · exact grown_putE f _
end Go.Proofs.YtcjnhiglfkcmiaaDoor
