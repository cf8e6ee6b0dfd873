/- Walks: the library's slices.Repeat at one number. Up to 2^20 numbers. -/
import Derived.Test.YtebdfhkimnlglaaDoorLawI
import Derived.Laws.CopyOwn
import Derived.Deep.RegionLaw
namespace Go.Proofs.YtebdfhkimnlglaaDoor
open Go.RowKit
set_option linter.unusedVariables false
set_option maxRecDepth 100000
theorem mask_u64 (n : Nat) (h : n < 4294967296) : bits BinOp.and IntKind.u64 (n : Int) 4294967295 = n := by
  have e := bits_and_u64_nat n 4294967295 (by omega) (by omega)
  have m := Nat.and_two_pow_sub_one_eq_mod n 32
  rw [show (4294967295 : Nat) = 2 ^ 32 - 1 from rfl, m, Nat.mod_eq_of_lt (by omega)] at e
  exact e
theorem own_blk {w : World} {base : Nat} {e : TypeId} {g n : Nat} {vs : List Value} (h : w.ownsRow base e 1 (.slice (some ⟨g, 0, none⟩) n n) n vs) : w.heap[g]? = some (.cells vs.toArray e (0, 0)) := by
  rcases h.2 with ⟨hv, _⟩ | ⟨g', cap, cur, hv, _, hg, _, _, hcs, htake⟩
  · cases hv
  · injection hv with h1 _ h3
    injection h1 with h1
    injection h1 with h1 _ _
    subst h1; subst h3
    rw [List.take_of_length_le (by rw [Array.length_toList, hcs]; exact Nat.le_refl _)] at htake
    rw [hg, ← htake]
theorem blk_own {w : World} {base : Nat} {e : TypeId} {g n : Nat} {vs : List Value} (h : w.heap[g]? = some (.cells vs.toArray e (0, 0))) (hl : vs.length = n) (hb : base ≤ g) (hn : n ≤ maxLen) : w.ownsRow base e 1 (.slice (some ⟨g, 0, none⟩) n n) n vs :=
  ⟨by simpa using hl, .inr ⟨g, n, vs.toArray, rfl, hb, h, Nat.le_refl _, hn, by simpa using hl, by simp only [Nat.mul_one]; exact List.take_of_length_le (by simp [hl])⟩⟩
theorem splice_rep (v : Value) (n k m : Nat) (ys : List Value) (h : ys.take k = List.replicate k v) (hl : ys.length = n) (hkm : k + m ≤ n) : (splice ys k (List.replicate m v)).take (k + m) = List.replicate (k + m) v := by
  unfold splice
  rw [h, ← List.append_assoc, List.replicate_append_replicate, List.take_append_of_le_length (by simp)]
  simp
set_option maxHeartbeats 1000000 in
theorem mul64_one (n : Nat) (w : World) (hn : n ≤ 1048576) :
    Calls Tryd.prog 61 #[.int .u64 1, .int .u64 n] w fun e w' => e = .returned (.tuple #[.int .u64 0, .int .u64 n]) ∧ w = w' := by
  go_enter Tryd.func61, Tryd.ntmps61
  go_wp2_with fail
  go_ret2
  refine ⟨?_, rfl⟩
  have h1 : bits BinOp.and IntKind.u64 1 4294967295 = 1 := mask_u64 1 (by omega)
  have h2 := mask_u64 n (by omega)
  have h3 : bits BinOp.and IntKind.u64 0 4294967295 = 0 := mask_u64 0 (by omega)
  have h4 : (n : Int) % 18446744073709551616 = n := by omega
  have h5 : (n : Int) / 4294967296 = 0 := by omega
  simp [h1, h2, h3, h4, h5, IntKind.wrap_u64]
theorem mul_one (n : Nat) (w : World) (hn : n ≤ 1048576) :
    Calls Tryd.prog 56 #[.int .u64 1, .int .u64 n] w fun e w' => e = .returned (.tuple #[.int .u64 0, .int .u64 n]) ∧ w = w' := by
  go_enter Tryd.func56, Tryd.ntmps56
  go_wp2_with fail
  ((with_reducible refine (mul64_one n _ hn).mono ?_); rintro e w' ⟨rfl, rfl⟩)
  go_wp2_with fail
  go_ret2
  exact ⟨by simp, rfl⟩
set_option maxHeartbeats 1000000 in
theorem repeat_any (A : Option Addr) (c n : Nat) (v : Int) (w : World) {lo hi : Nat} (h : RI w lo hi A 1 [v]) (hhi : hi ≤ w.heap.size) (hn : n ≤ 1048576) :
    Calls Tryd.prog 46 #[.slice A 1 c, .int .i64 n] w fun e w' => ∃ A1, e = .returned (.slice A1 n n) ∧ Own w' w.heap.size w'.heap.size 2 A1 n n ((List.replicate n v).map (Value.int .i64)) ∧ Below w.heap.size w w' := by
  obtain ⟨i0, hi0, hz0, hz1, hz2⟩ := info_parts infoI
  have hsz : (Tryd.prog.info? 2).map (·.size) = some 1 := by rw [hi0]; simp [hz1]
  go_enter Tryd.func46, Tryd.ntmps46
  go_wp2_with fail
  ((with_reducible refine (mul_one n _ hn).mono ?_); rintro e w' ⟨rfl, rfl⟩)
  go_wp2_with (at_make; refine wpList_make_full _ rfl _ _ 22 rfl w.heap.size 2 i0 (.int .i64 0) 1 Tryd.underlying22 hi0 hz0 hz1 _ _ _ _ n rfl rfl rfl rfl ?c1 ?c2 (Nat.le_refl _) ?_)
  case c1 => rw [hz2]; omega
  case c2 => simp only [maxLen]; omega
  intro w1 hown hg
  have hb1 : Below w.heap.size w w1 := below_of_grown hg (Nat.le_refl _) (by simp)
  obtain ⟨zs, hblk, hlen⟩ : ∃ zs : List Value, w1.heap[w.heap.size]? = some (.cells zs.toArray 2 (0, 0)) ∧ zs.length = n := ⟨_, own_blk hown, by have := hown.1; simpa [Value.cells] using this⟩
  obtain ⟨cs, hcs⟩ : ∃ cs : List Value, cs = List.replicate (Nat.min 1 n) (.int .i64 v) := ⟨_, rfl⟩
  have hcl : cs.length = Nat.min 1 n := by rw [hcs]; simp
  replace hcs := Lib.hid hcs
  replace hblk := Lib.hid hblk
  replace hlen := Lib.hid hlen
  have hpos : 0 < cs.length → (some (⟨w.heap.size, 0, none⟩ : Addr)) = some ⟨w.heap.size, 0, none⟩ ∧ ∃ ad, A = some ad ∧ ∀ j u, cs[j]? = some u → w1.cell? (ad.add j) = some u := by
    intro hp
    obtain ⟨b, o, x, rfl, _, _, hx, hc⟩ := (h.below hb1 hhi).at_ (k := 0) (by omega)
    refine ⟨rfl, _, rfl, fun j u hj => ?_⟩
    have hcs := hcs.out
    have hj1 := (List.getElem?_eq_some_iff.1 hj).1
    have hmin : Nat.min 1 n ≤ 1 := Nat.min_le_left 1 n
    have : j = 0 := by omega
    subst this
    rw [hcs] at hj
    have hu : u = .int .i64 v := by exact List.eq_of_mem_replicate (List.mem_of_getElem? hj)
    simp at hx
    subst hx
    rw [hu]
    simpa [Addr.add_lit] using hc
  go_wp2_with (refine wpList_copy_splice rfl (.tmp 31) (.tmp 32) _ _ rfl 2 Tryd.underlying22 hsz _ _ _ _ _ _ rfl rfl w.heap.size 0 zs 2 hblk.out cs hcl hpos (by have := hlen.out; have : Nat.min 1 n ≤ n := Nat.min_le_right 1 n; omega) (by rw [hcs.out]; simp [Value.oneCell']) w.heap.size w hb1 (Nat.le_refl _) ?_)
  intro w2 hblk2 hb2
  clear hpos
  have hk1 : splice zs 0 cs = (splice zs 0 cs) := rfl
  have hs0 : (splice zs 0 cs).length = n := by rw [length_splice _ _ _ (by have := hlen.out; have : Nat.min 1 n ≤ n := Nat.min_le_right 1 n; omega)]; exact hlen.out
  have ht0 : (splice zs 0 cs).take (Nat.min 1 n) = List.replicate (Nat.min 1 n) (.int .i64 v) := by
    have := splice_rep (.int .i64 v) n 0 (Nat.min 1 n) zs (by simp) hlen.out (by have : Nat.min 1 n ≤ n := Nat.min_le_right 1 n; omega)
    rw [hcs.out]
    simpa using this
  generalize splice zs 0 cs = ys0 at hblk2 hs0 ht0
  have hm1 : Nat.min 1 n ≤ 1 := Nat.min_le_left 1 n
  have hm2 : Nat.min 1 n ≤ n := Nat.min_le_right 1 n
  have hm3 : 0 < n → 1 ≤ Nat.min 1 n := fun h => by show 1 ≤ min 1 n; omega
  generalize Nat.min 1 n = k0 at ht0 hm1 hm2 hm3 ⊢
  replace ht0 := Lib.hid ht0
  replace hs0 := Lib.hid hs0
  clear hcl hcs hlen hblk
  go_wp2_with fail
  go_loopw [8] (fun iv wr => ∃ (k : Nat) (ys : List Value), k ≤ n ∧ (0 < n → 1 ≤ k) ∧ iv = .int .i64 k ∧ Hid (ys.length = n) ∧ Hid (ys.take k = List.replicate k (.int .i64 v)) ∧ Hid (wr.heap[w.heap.size]? = some (.cells ys.toArray 2 (0, 0))) ∧ Below w.heap.size w wr) (fun iv wr => n - (intOf iv).toNat)
  case atStart => exact ⟨k0, ys0, hm2, hm3, rfl, hs0, ht0, hblk2, hb2⟩
  case round =>
    obtain ⟨k, ys, hk, hk1, rfl, hyl, hyt, hblk, hb⟩ := hrel
    by_cases hlt : k < n
    · have hk1 := hk1 (by omega)
      obtain ⟨m, hmin, hm1, hm2, hm3⟩ : ∃ m : Nat, m = Nat.min k (n - k) ∧ 1 ≤ m ∧ m ≤ k ∧ k + m ≤ n := by
        refine ⟨_, rfl, ?_, ?_, ?_⟩
        · show 1 ≤ min k (n - k); omega
        · show min k (n - k) ≤ k; omega
        · show k + min k (n - k) ≤ n; omega
      obtain ⟨ds, hds⟩ : ∃ ds : List Value, ds = List.replicate m (.int .i64 v) := ⟨_, rfl⟩
      have hdl : ds.length = Nat.min k (n - k) := by rw [hds]; simpa using hmin
      have hdm : ds.length = m := by rw [hds]; simp
      have hsrc : ∀ j u, ds[j]? = some u → wr.cell? ((⟨w.heap.size, 0, none⟩ : Addr).add j) = some u := by
        intro j u hj
        have hj1 := (List.getElem?_eq_some_iff.1 hj).1
        have e1 : ys[j]? = some (.int .i64 v) := by
          have h1 : (ys.take k)[j]? = some (.int .i64 v) := by rw [hyt.out]; simp [show j < k by omega]
          rwa [List.getElem?_take_of_lt (by omega)] at h1
        have hu : u = .int .i64 v := by rw [hds] at hj; exact List.eq_of_mem_replicate (List.mem_of_getElem? hj)
        rw [hu]
        have := hblk.out
        rw [Addr.add_lit]
        simp [World.cell?, this, e1]
      have hfit : k + ds.length ≤ ys.length := by rw [hdm, hyl.out]; exact hm3
      have hone : ∀ u ∈ ds, u.oneCell' = true := by rw [hds]; simp [Value.oneCell']
      replace hds := Lib.hid hds
      replace hmin := Lib.hid hmin
      have hlt' : k ≤ n := by omega
      have hne : ¬ n = k := by omega
      go_wp2_with fail
      go_region_law (refine step_copy_splice rfl (.tmp 41) (.tmp 44) 22 22 rfl 2 Tryd.underlying22 hsz (some ⟨w.heap.size, k, none⟩) (some ⟨w.heap.size, 0, none⟩) (n - k) (n - k) k n (by simp [Act.eval, Act.put]) (by simp [Act.eval, Act.put]) w.heap.size k ys 2 hblk.out ds hdl (fun _ => ⟨rfl, _, rfl, hsrc⟩) hfit hone w.heap.size w (by first | exact hb | exact hb.drew) (Nat.le_refl _) ?_; intro w4 hg4 hb4)
      have hw : IntKind.i64.wrap ((k : Int) + (Nat.min k (n - k) : Nat)) = ((k + m : Nat) : Int) := by rw [← hmin.out]; simp only [IntKind.wrap_i64]; omega
      simp [Act.put, hw]
      go_roundw
      case rel => exact ⟨.int .i64 ((k : Int) + m), _, _, _, _, _, _, _, _, _, _, _, _, _, ⟨k + m, splice ys k ds, hm3, fun _ => by omega, by simp, Lib.hid (by rw [length_splice _ _ _ hfit]; exact hyl.out), Lib.hid (by rw [hds.out]; exact splice_rep _ n k m ys hyt.out hyl.out hm3), hg4, hb4⟩, rfl⟩
      case measure => simp [intOf]; omega
    · go_wp2_with fail
      go_ret
      have hkn : k = n := by omega
      subst hkn
      refine ⟨_, rfl, ?_, hb⟩
      have hyt := hyt.out
      rw [List.take_of_length_le (by have := hyl.out; omega)] at hyt
      subst hyt
      refine Own.of_row (lo := w.heap.size) (w := wr) ?_
      rw [List.map_replicate]
      exact blk_own hblk.out (by simp) (Nat.le_refl _) (by simp only [maxLen]; omega)
end Go.Proofs.YtebdfhkimnlglaaDoor
